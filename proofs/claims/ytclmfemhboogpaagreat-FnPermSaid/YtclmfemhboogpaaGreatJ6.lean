/- Permutations of plans are those of plans made tight and wide: the law FnPerm answers true for all codes. No condition. -/
import Derived.Test.YtclmfemhboogpaaGreatJ5
import Derived.Test.YtclmfemhboogpaaGreatJ4
set_option linter.all false
namespace Go.Proofs.YtclmfemhboogpaaGreat
namespace Fw
open Go
open Nat (reduceEqDiff reduceLeDiff reduceAdd reduceMul)
def ksT (p : List Txt) : List Nat := keptN (kptB (ddR (gP p))) (hdRow p).length
def tgG (p : List Txt) : List (List Int) := tightG (gP p) (hdRow p).length
def tgC (p : List Txt) (i j : Nat) : Nat := cn (tgG p) i j
theorem kpt_no {d : List (List Int)} {j : Nat} (h : kptB d j = false) {r : List Int} (hr : r ∈ d) : getI r j = getI r (j - 1) := by
 unfold kptB at h
 have := List.any_eq_false.1 h r hr
 simp only [kpB,Bool.or_eq_true,decide_eq_true_eq,not_or,ne_eq,Decidable.not_not] at this
 exact this.2
theorem gz_getI {g : List (List Int)} {i j : Nat} {row : List Int} (h : g[i]? = some row) : gz g i j = getI row j := by simp [gz,getI,h]
theorem tight_parts {p : List Txt} (hp : plainB p = true) : Fold1 (foldR (gP p)) p.length (ddR (gP p)).length ∧ Fold1 (foldK (kptB (ddR (gP p)))) (hdRow p).length (ksT p).length ∧
  (∀ i j,i < p.length → j < (hdRow p).length → gz (gP p) i j = gz (tgG p) (foldR (gP p) i) (foldK (kptB (ddR (gP p))) j)) := by
 obtain ⟨q1,q2,q3,q4,hg,-,-,-⟩ := plain_dims hp
 have hl := hg.1
 have hf := foldR_fold (l := gP p) (by omega)
 rw [hl] at hf
 have hd1 : 1 ≤ (ddR (gP p)).length := by have := ddR_pos (l := gP p) (show 1 ≤ (gP p).length by omega) (Nat.le_refl _); rwa [List.take_length] at this
 have hk := foldK_fold (k := kptB (ddR (gP p))) (kpt_0 hd1) q3
 refine ⟨hf,hk,fun i j hi hj => ?_⟩
 obtain ⟨row,hrow,hrl,hx⟩ := hg.at_ hi hj
 have hr := foldR_at hrow
 have hfi := hf.lt hi
 have hkj := hk.lt hj
 obtain ⟨q,k1,k2,k3⟩ := foldK_at (k := kptB (ddR (gP p))) (kpt_0 hd1) (n := (hdRow p).length) (v := fun j => (ddR (gP p)).map fun r => getI r j) (fun j h1 h2 h3 => List.map_congr_left fun r hr => kpt_no h3 hr) hj
 have e1 := congrArg (fun l => l[foldR (gP p) i]?) k2
 simp only [List.getElem?_map,hr,Option.map_some,Option.some.injEq] at e1
 unfold tgG tightG
 rw [bgT_gz hfi hkj,k1,Option.getD_some,gz_getI hr,e1,gz_getI hrow]
theorem tight_made {p : List Txt} (hp : plainB p = true) : Made (tgC p) (ddR (gP p)).length (ksT p).length (tgG p) := by
 obtain ⟨q1,q2,q3,q4,hg,-,q7,q8⟩ := plain_dims hp
 obtain ⟨hf,hk,hc⟩ := tight_parts hp
 have hcn : ∀ i j,i < p.length → j < (hdRow p).length → cn (gP p) i j = tgC p (foldR (gP p) i) (foldK (kptB (ddR (gP p))) j) := fun i j hi hj => by unfold tgC cn; rw [hc i j hi hj]
 have pre : ∀ {i j : Nat},i < (ddR (gP p)).length → j < (ksT p).length → ∃ r s,r < p.length ∧ s < (hdRow p).length ∧ foldR (gP p) r = i ∧ foldK (kptB (ddR (gP p))) s = j := by
  intro i j hi hj
  obtain ⟨r,r1,-⟩ := hf.rep
  obtain ⟨s,s1,-⟩ := hk.rep
  exact ⟨r i,s j,(r1 i hi).1,(s1 j hj).1,(r1 i hi).2,(s1 j hj).2⟩
 have b1 := ddR_len (gP p)
 have b2 : (ksT p).length ≤ (hdRow p).length := by have := List.length_filter_le (kptB (ddR (gP p))) (List.range (hdRow p).length); simpa [ksT,keptN] using this
 have b3 := hf.lt (i := 0) (by omega)
 have b4 := hk.lt (i := 0) (by omega)
 have b5 : (keptN (kptB (ddR (gP p))) (hdRow p).length).length = (ksT p).length := rfl
 have hl := hg.1
 refine made_of (bg_cells (c := fun r w => gz (ddR (gP p)) r ((ksT p)[w]?.getD 0)) (by omega) (by omega) (by omega) (by omega) fun i j hi hj => ?_) (n := (rP p).length) (fun i j hi hj => ?_) q7 (Pl.fold hf hk hcn (plan_pl hp))
 ·obtain ⟨r,s,hr,hs,rfl,rfl⟩ := pre hi hj
  have e : gz (tgG p) (foldR (gP p) r) (foldK (kptB (ddR (gP p))) s) = gz (ddR (gP p)) (foldR (gP p) r) ((ksT p)[foldK (kptB (ddR (gP p))) s]?.getD 0) := by unfold tgG tightG ksT; rw [bgT_gz hi hj]
  rw [← e,← hc r s hr hs,q8 r s hr hs,hcn r s hr hs]
 ·obtain ⟨r,s,hr,hs,rfl,rfl⟩ := pre hi hj
  rw [← hcn r s hr hs]; exact cn_lt gP_room hr hs
def wideG (p : List Txt) : List (List Int) := bgT (fun r w => gz (gP p) (r / 2) (w / 2)) (2 * (hdRow p).length) (2 * p.length)
def wdC (p : List Txt) (i j : Nat) : Nat := cn (gP p) (i / 2) (j / 2)
theorem wide_pl {p : List Txt} (hp : plainB p = true) : Pl (wdC p) (2 * p.length) (2 * (hdRow p).length) := by
 obtain ⟨q1,q2,q3,q4,-⟩ := plain_dims hp
 exact Pl.unfold (fold_half q1) (fold_half q3) (fun _ _ _ _ => rfl) (plan_pl hp)
theorem wide_made {p : List Txt} (hp : plainB p = true) (h1 : 2 * p.length ≤ 6) (h2 : 2 * (hdRow p).length ≤ 6) : Made (wdC p) (2 * p.length) (2 * (hdRow p).length) (wideG p) := by
 obtain ⟨q1,q2,q3,q4,hg,-,q7,q8⟩ := plain_dims hp
 refine made_of (bg_cells (by omega) h1 (by omega) h2 fun i j hi hj => q8 (i / 2) (j / 2) (by omega) (by omega)) (n := (rP p).length) (fun i j hi hj => cn_lt gP_room (by omega) (by omega)) q7 (wide_pl hp)
theorem wide_bad {p : List Txt} (hp : plainB p = true) (h : ¬ (2 * p.length ≤ 6 ∧ 2 * (hdRow p).length ≤ 6)) : okS (wideG p) = false := by
 obtain ⟨q1,q2,q3,q4,-⟩ := plain_dims hp
 have hl : (wideG p).length = 2 * p.length := bgT_len
 have hw : w0 (wideG p) = 2 * (hdRow p).length := by
  obtain ⟨row,hr,hrm⟩ := get_of (show 0 < (wideG p).length by omega)
  rw [w0_is hr]
  obtain ⟨a,-,rfl⟩ := List.mem_map.1 hrm
  simp
 have : okG (wideG p) = false := by
  rw [← Bool.not_eq_true,okG_iff]
  rintro ⟨-,-,k1,k2,k3,k4⟩
  exact h ⟨by omega,by omega⟩
 unfold okS; rw [this]; rfl
theorem planTight_pc {p : List Txt} (hs : Sm p) (hp : plainB p = true) : PC Tryz.prog 26 [eStrs p] (.tup [eStrs (nm (tgG p)),.bool true]) false := by
 obtain ⟨-,-,-,-,hg,hf,-,-⟩ := plain_dims hp
 have hm := tight_made hp
 refine PC.of ⟨Tryz.func26,by kernel_rfl,rfl,by kernel_rfl⟩ tabOk mixed (by show 1 ≤ Tryz.f26.ntmps; decide) ?_
 refine W.r fun K hK => ?_
 simp (disch := omega) only [↓RU,RV,RH,↓reduceIte,reduceEqDiff,reduceCtorEq,if_pos,↓RS,RG,reduceAdd,reduceMul,reduceLeDiff]
 refine hK _ _ ?_;clear hK K
 refine W.r fun K hK => ?_
 simp (disch := omega) only [↓RU,RV,RH,↓reduceIte,reduceEqDiff,reduceCtorEq,if_pos,List.append_nil,↓RS,RG,reduceAdd,reduceMul,reduceLeDiff]
 refine CallR.pc (remade_pc (cap := []) hs hf (fun _ _ => rfl) hm.gw hm.ok hm.full (tight_pc hg (rP p))) rfl (.inr rfl) ?_
 simp (disch := omega) only [↓RU,RV,RH,↓reduceIte,reduceEqDiff,reduceCtorEq,if_pos,List.append_nil,↓RS,RG,reduceAdd,reduceMul,reduceLeDiff]
 refine hK _ _ ?_;clear hK K
 refine W.ret ?_
 refine Br rfl ?_
 rfl
theorem wide11_pc {g : List (List Int)} {nh nw : Nat} (hg : GW g nh nw) (rs : List Rect) {r c : Nat} (hr : r < 2 * nh) (hc : c < 2 * nw) : PC Tryz.prog 87 [.int .i64 r,.int .i64 c,.ip [eFloor g rs] 0,.ip [.int .i64 2] 0] (.int .i64 (gz g (r / 2) (c / 2))) true := by
 obtain ⟨row,hrow,hrl,hx⟩ := hg.at_ (i := r / 2) (j := c / 2) (by omega) (by omega)
 have hgl := hg.1
 have hgb : nh ≤ 6 := hg.2.2.2.1
 have hgb2 : nw ≤ 6 := hg.2.2.2.2.2
 have h20 : ((2 : Int) = 0) = False := by simp
 have hq1 : ((r : Int)).tdiv 2 = ((r / 2 : Nat) : Int) := by rw [Int.tdiv_eq_ediv_of_nonneg (by omega)]; omega
 have hq2 : ((c : Int)).tdiv 2 = ((c / 2 : Nat) : Int) := by rw [Int.tdiv_eq_ediv_of_nonneg (by omega)]; omega
 refine PC.of ⟨Tryz.func87,by kernel_rfl,rfl,by kernel_rfl⟩ tabOk mixed (by show 4 ≤ Tryz.f87.ntmps; decide) ?_
 refine W.r fun K hK => ?_
 simp (disch := omega) only [↓RU,RV,RH,↓reduceIte,reduceEqDiff,reduceCtorEq,if_pos]
 refine hK _ _ ?_;clear hK K
 refine W.seq_draw (by kernel_rfl) fun K hK => ?_
 simp (disch := omega) only [↓RU,RV,RH,↓reduceIte,reduceEqDiff,reduceCtorEq,if_pos,w64,↓RS,RG,reduceAdd,reduceMul,reduceLeDiff,ty1,ty3,tyLint,ty7,ty10,ty11,ty13,tyint,ty21,ty24,hrow,hx,hgl,hq1,hq2,h20,w64]
 refine hK _ _ ?_;clear hK K
 refine W.ret ?_
 refine Br rfl ?_
 rfl
theorem wide1_pc {g : List (List Int)} {nh nw : Nat} (hg : GW g nh nw) (rs : List Rect) : PC Tryz.prog 85 [eFloor g rs,.ip [.int .i64 2] 0] (eGrid (bgT (fun r w => gz g (r / 2) (w / 2)) (2 * nw) (2 * nh))) false := by
 obtain ⟨q1,q2,q3,q4,q5,q6⟩ := hg
 have hg : GW g nh nw := ⟨q1,q2,q3,q4,q5,q6⟩
 have hgl := q1
 obtain ⟨row0,hrow0,hrl0,-⟩ := hg.at_ (i := 0) (j := 0) (by omega) (by omega)
 have hm1 : (2 : Int) * (nh : Int) = ((2 * nh : Nat) : Int) := by omega
 have hm2 : (2 : Int) * (nw : Int) = ((2 * nw : Nat) : Int) := by omega
 refine PC.of ⟨Tryz.func85,by kernel_rfl,rfl,by kernel_rfl⟩ tabOk mixed (by show 2 ≤ Tryz.f85.ntmps; decide) ?_
 refine W.joinZ [1,2] (fun vs S => ∃ tk : Nat,vs = [.ip [.int .i64 2] 0,.ip [eFloor g rs] 0] ∧ S = ⟨[],tk⟩) ?_ ?_
 ·
  refine W.k fun K hK => ?_
  simp (disch := omega) only [↓RU,RV,RH,↓reduceIte,reduceEqDiff,reduceCtorEq,if_pos,↓RS,RG,reduceAdd,reduceMul,reduceLeDiff,ty7]
  refine hK _ _ ?_;clear hK K
  refine xn ?_
  refine ⟨0,[.ip [.int .i64 2] 0,.ip [eFloor g rs] 0],⟨[],1⟩,?_,?_,1,rfl,rfl⟩
  ·rfl
  ·rfl
 rintro vs S - ⟨tk,rfl,rfl⟩
 refine W.seq_draw (by kernel_rfl) fun K hK => ?_
 simp (disch := omega) only [↓RU,RV,RH,↓reduceIte,reduceEqDiff,reduceCtorEq,if_pos,List.append_nil,w64,↓RS,RG,reduceAdd,reduceMul,reduceLeDiff,ty7,tyint,hgl,hrl0,hm1,hm2]
 refine CallR.pc (high_pc g rs) rfl (.inl rfl) ?_
 simp (disch := omega) only [↓RU,RV,RH,↓reduceIte,reduceEqDiff,reduceCtorEq,if_pos,List.append_nil,w64,↓RS,RG,reduceAdd,reduceMul,reduceLeDiff,ty7,tyint,hgl,hrl0,hm1,hm2]
 refine CallR.pc (wide_pc hrow0 rs) rfl (.inl rfl) ?_
 simp (disch := omega) only [↓RU,RV,RH,↓reduceIte,reduceEqDiff,reduceCtorEq,if_pos,List.append_nil,w64,↓RS,RG,reduceAdd,reduceMul,reduceLeDiff,ty7,tyint,hgl,hrl0,hm1,hm2]
 refine CallR.pc (blank_pc (c := fun r w => gz g (r / 2) (w / 2)) (nh := 2 * nh) (nw := 2 * nw) (cap := [.ip [eFloor g rs] 0,.ip [.int .i64 2] 0]) (by omega) (by omega) (fun _ _ => rfl) (fun _ _ _ => rfl) (fun r w h1 h2 => wide11_pc hg rs h1 h2)) rfl (.inr rfl) ?_
 simp (disch := omega) only [↓RU,RV,RH,↓reduceIte,reduceEqDiff,reduceCtorEq,if_pos,List.append_nil,w64,↓RS,RG,reduceAdd,reduceMul,reduceLeDiff,ty7,tyint,hgl,hrl0,hm1,hm2]
 refine hK _ _ ?_;clear hK K
 refine W.ret ?_
 refine Br rfl ?_
 rfl
theorem gplan_no {g : List (List Int)} (hsm : g.length < 2147483648) (hsr : ∀ r ∈ g,r.length < 2147483648) (hok : okS g = false) : PC Tryz.prog 118 [eGrid g] (.tup [.sl [] 0,.bool false]) false := by
 refine PC.of ⟨Tryz.func118,by kernel_rfl,rfl,by kernel_rfl⟩ tabOk mixed (by show 1 ≤ Tryz.f118.ntmps; decide) ?_
 refine W.r fun K hK => ?_
 simp (disch := omega) only [↓RU,RV,RH,↓reduceIte,reduceEqDiff,reduceCtorEq,if_pos,↓RS,RG,reduceAdd,reduceMul,reduceLeDiff]
 refine hK _ _ ?_;clear hK K
 refine W.r fun K hK => ?_
 simp (disch := omega) only [↓RU,RV,RH,↓reduceIte,reduceEqDiff,reduceCtorEq,if_pos,List.append_nil,↓RS,RG,reduceAdd,reduceMul,reduceLeDiff]
 refine CallR.pc (settled_no hsm hsr hok) rfl (.inr rfl) ?_
 simp (disch := omega) only [↓RU,RV,RH,↓reduceIte,reduceEqDiff,reduceCtorEq,if_pos,List.append_nil,↓RS,RG,reduceAdd,reduceMul,reduceLeDiff]
 refine hK _ _ ?_;clear hK K
 refine W.seq ?_
 refine W.r fun K hK => ?_
 simp (disch := omega) only [↓RU,RV,RH,↓reduceIte,reduceEqDiff,reduceCtorEq,if_pos,↓RS,RG,reduceAdd,reduceMul,reduceLeDiff]
 refine hK _ _ ?_;clear hK K
 refine W.cond rfl (fun h => ?_) (fun h => ?_)
 ·try simp only [RL] at h
  refine W.r fun K hK => ?_
  simp (disch := omega) only [↓RU,RV,RH,↓reduceIte,reduceEqDiff,reduceCtorEq,if_pos,↓RS,RG,reduceAdd,reduceMul,reduceLeDiff]
  refine hK _ _ ?_;clear hK K
  refine W.ret ?_
  refine XThen.ret ?_
  refine Br rfl ?_
  rfl
 ·try simp only [RL] at h
  exact absurd h (by simp)
theorem remade_no {p : List Txt} (hs : Sm p) (hv : floorI p = true) {f : FuncId} {cap : List PV} (hc : ∀ (S : Store) (k : Nat),cap.mapM (reify S true (k + 1)) = some cap) {g : List (List Int)} (hsm : g.length < 2147483648) (hsr : ∀ r ∈ g,r.length < 2147483648) (hok : okS g = false) (hF : PC Tryz.prog f (eFloor (gP p) (rP p) :: cap) (eGrid g) false) : PC Tryz.prog 61 [eStrs p,.fn f cap] (.tup [.sl [] 0,.bool false]) false := by
 obtain ⟨x,hx,hxy,hxr⟩ := floorOf_ex hs
 obtain rfl := hxy hv
 refine PC.of ⟨Tryz.func61,by kernel_rfl,rfl,by kernel_rfl⟩ tabOk mixed (by show 2 ≤ Tryz.f61.ntmps; decide) ?_
 refine W.r fun K hK => ?_
 simp (disch := omega) only [↓RU,RV,RH,↓reduceIte,reduceEqDiff,reduceCtorEq,if_pos,↓RS,RG,reduceAdd,reduceMul,reduceLeDiff]
 refine hK _ _ ?_;clear hK K
 refine W.r fun K hK => ?_
 simp (disch := omega) only [↓RU,RV,RH,↓reduceIte,reduceEqDiff,reduceCtorEq,if_pos,List.append_nil,↓RS,RG,reduceAdd,reduceMul,reduceLeDiff,hv]
 refine CallR.pc (hx) rfl (.inr rfl) ?_
 simp (disch := omega) only [↓RU,RV,RH,↓reduceIte,reduceEqDiff,reduceCtorEq,if_pos,List.append_nil,↓RS,RG,reduceAdd,reduceMul,reduceLeDiff,hv]
 refine hK _ _ ?_;clear hK K
 refine W.seq ?_
 refine W.r fun K hK => ?_
 simp (disch := omega) only [↓RU,RV,RH,↓reduceIte,reduceEqDiff,reduceCtorEq,if_pos,↓RS,RG,reduceAdd,reduceMul,reduceLeDiff]
 refine hK _ _ ?_;clear hK K
 refine W.cond rfl (fun h => ?_) (fun h => ?_)
 ·try simp only [RL] at h
  exact absurd h (by simp)
 ·try simp only [RL] at h
  refine W.skip ?_
  refine xn ?_
  refine W.r fun K hK => ?_
  simp (disch := omega) only [↓RU,RV,RH,↓reduceIte,reduceEqDiff,reduceCtorEq,if_pos,List.append_nil,↓RS,RG,reduceAdd,reduceMul,reduceLeDiff]
  refine CallR.pc (hF) (mapM_one rfl (hc _ 9)) (.inr (mapM_one rfl (hc _ 9))) ?_
  simp (disch := omega) only [↓RU,RV,RH,↓reduceIte,reduceEqDiff,reduceCtorEq,if_pos,List.append_nil,↓RS,RG,reduceAdd,reduceMul,reduceLeDiff]
  refine CallR.pc (gplan_no hsm hsr hok) rfl (.inr rfl) ?_
  simp (disch := omega) only [↓RU,RV,RH,↓reduceIte,reduceEqDiff,reduceCtorEq,if_pos,List.append_nil,↓RS,RG,reduceAdd,reduceMul,reduceLeDiff]
  refine hK _ _ ?_;clear hK K
  refine W.ret ?_
  refine Br rfl ?_
  rfl
theorem planWide_yes {p : List Txt} (hs : Sm p) (hp : plainB p = true) (h1 : 2 * p.length ≤ 6) (h2 : 2 * (hdRow p).length ≤ 6) : PC Tryz.prog 27 [eStrs p,.int .i64 2] (.tup [eStrs (nm (wideG p)),.bool true]) false := by
 obtain ⟨q1,q2,q3,q4,hg,hf,-,-⟩ := plain_dims hp
 have hm := wide_made hp h1 h2
 have h21 : decide ((2 : Int) < 1) = false := by decide
 have h23 : decide ((2 : Int) > 3) = false := by decide
 refine PC.of ⟨Tryz.func27,by kernel_rfl,rfl,by kernel_rfl⟩ tabOk mixed (by show 2 ≤ Tryz.f27.ntmps; decide) ?_
 refine W.r fun K hK => ?_
 simp (disch := omega) only [↓RU,RV,RH,↓reduceIte,reduceEqDiff,reduceCtorEq,if_pos,↓RS,RG,reduceAdd,reduceMul,reduceLeDiff,tyint]
 refine hK _ _ ?_;clear hK K
 refine W.seq ?_
 refine W.r fun K hK => ?_
 simp (disch := omega) only [↓RU,RV,RH,↓reduceIte,reduceEqDiff,reduceCtorEq,if_pos,w64,↓RS,RG,reduceAdd,reduceMul,reduceLeDiff,tyint,h21,h23]
 refine hK _ _ ?_;clear hK K
 refine W.cond rfl (fun h => ?_) (fun h => ?_)
 ·try simp only [RL] at h
  exact absurd h (by simp)
 ·try simp only [RL] at h
  refine W.skip ?_
  refine xn ?_
  refine W.foldS [0,3] (I := fun vs S => ∃ t : Nat,vs = [eStrs p,.ip [.int .i64 2] 0] ∧ S = ⟨[],t⟩) ⟨0,[],[eStrs p,.ip [.int .i64 2] 0],⟨[],2⟩,?_,?_,2,rfl,rfl⟩ ?_
  ·simp [-List.mapM_map,Env.put,Env.of,argEnv,Srn_eq,rnObs_cons,rnObs_nil,rnOb_arr,rnOb_map,rn_loc,rn_ref,rn_mp,rn_int,rn_bool,rn_str,rn_ip,rn_sl,rn_nils,rn_nilp,rn_undef,rn_agg,rn_tup,rn_fn,rfq_loc,rfq_int,rfq_bool,rfq_str,rfq_sl,frOf,List.range_succ,List.mapM_append,List.mapM_cons,rfq_ref,Store.cellsOf]
  ·simp [-List.mapM_map,Env.put,Env.of,argEnv,Srn_eq,rnObs_cons,rnObs_nil,rnOb_arr,rnOb_map,rn_loc,rn_ref,rn_mp,rn_int,rn_bool,rn_str,rn_ip,rn_sl,rn_nils,rn_nilp,rn_undef,rn_agg,rn_tup,rn_fn,rfq_loc,rfq_int,rfq_bool,rfq_str,rfq_sl,frOf,List.range_succ,List.mapM_append,List.mapM_cons]
  rintro vs S - ⟨t,rfl,rfl⟩
  refine W.r fun K hK => ?_
  simp (disch := omega) only [↓RU,RV,RH,↓reduceIte,reduceEqDiff,reduceCtorEq,if_pos,List.append_nil,↓RS,RG,reduceAdd,reduceMul,reduceLeDiff]
  refine CallR.pc (remade_pc (cap := [.ip [.int .i64 2] 0]) hs hf (fun _ _ => rfl) hm.gw hm.ok hm.full (wide1_pc hg (rP p))) rfl (.inr rfl) ?_
  simp (disch := omega) only [↓RU,RV,RH,↓reduceIte,reduceEqDiff,reduceCtorEq,if_pos,List.append_nil,↓RS,RG,reduceAdd,reduceMul,reduceLeDiff]
  refine hK _ _ ?_;clear hK K
  refine W.ret ?_
  refine Br rfl ?_
  rfl
theorem planWide_no {p : List Txt} (hs : Sm p) (hp : plainB p = true) (h1 : ¬ (2 * p.length ≤ 6 ∧ 2 * (hdRow p).length ≤ 6)) : PC Tryz.prog 27 [eStrs p,.int .i64 2] (.tup [.sl [] 0,.bool false]) false := by
 obtain ⟨q1,q2,q3,q4,hg,hf,-,-⟩ := plain_dims hp
 have hwl : (wideG p).length < 2147483648 := by rw [wideG,bgT_len]; omega
 have hwr : ∀ r ∈ wideG p,r.length < 2147483648 := fun r hr => by obtain ⟨a,-,rfl⟩ := List.mem_map.1 hr; simp; omega
 have h21 : decide ((2 : Int) < 1) = false := by decide
 have h23 : decide ((2 : Int) > 3) = false := by decide
 refine PC.of ⟨Tryz.func27,by kernel_rfl,rfl,by kernel_rfl⟩ tabOk mixed (by show 2 ≤ Tryz.f27.ntmps; decide) ?_
 refine W.r fun K hK => ?_
 simp (disch := omega) only [↓RU,RV,RH,↓reduceIte,reduceEqDiff,reduceCtorEq,if_pos,↓RS,RG,reduceAdd,reduceMul,reduceLeDiff,tyint]
 refine hK _ _ ?_;clear hK K
 refine W.seq ?_
 refine W.r fun K hK => ?_
 simp (disch := omega) only [↓RU,RV,RH,↓reduceIte,reduceEqDiff,reduceCtorEq,if_pos,w64,↓RS,RG,reduceAdd,reduceMul,reduceLeDiff,tyint,h21,h23]
 refine hK _ _ ?_;clear hK K
 refine W.cond rfl (fun h => ?_) (fun h => ?_)
 ·try simp only [RL] at h
  exact absurd h (by simp)
 ·try simp only [RL] at h
  refine W.skip ?_
  refine xn ?_
  refine W.foldS [0,3] (I := fun vs S => ∃ t : Nat,vs = [eStrs p,.ip [.int .i64 2] 0] ∧ S = ⟨[],t⟩) ⟨0,[],[eStrs p,.ip [.int .i64 2] 0],⟨[],2⟩,?_,?_,2,rfl,rfl⟩ ?_
  ·simp [-List.mapM_map,Env.put,Env.of,argEnv,Srn_eq,rnObs_cons,rnObs_nil,rnOb_arr,rnOb_map,rn_loc,rn_ref,rn_mp,rn_int,rn_bool,rn_str,rn_ip,rn_sl,rn_nils,rn_nilp,rn_undef,rn_agg,rn_tup,rn_fn,rfq_loc,rfq_int,rfq_bool,rfq_str,rfq_sl,frOf,List.range_succ,List.mapM_append,List.mapM_cons,rfq_ref,Store.cellsOf]
  ·simp [-List.mapM_map,Env.put,Env.of,argEnv,Srn_eq,rnObs_cons,rnObs_nil,rnOb_arr,rnOb_map,rn_loc,rn_ref,rn_mp,rn_int,rn_bool,rn_str,rn_ip,rn_sl,rn_nils,rn_nilp,rn_undef,rn_agg,rn_tup,rn_fn,rfq_loc,rfq_int,rfq_bool,rfq_str,rfq_sl,frOf,List.range_succ,List.mapM_append,List.mapM_cons]
  rintro vs S - ⟨t,rfl,rfl⟩
  refine W.r fun K hK => ?_
  simp (disch := omega) only [↓RU,RV,RH,↓reduceIte,reduceEqDiff,reduceCtorEq,if_pos,List.append_nil,↓RS,RG,reduceAdd,reduceMul,reduceLeDiff]
  refine CallR.pc (remade_no (cap := [.ip [.int .i64 2] 0]) hs hf (fun _ _ => rfl) hwl hwr (wide_bad hp h1) (wide1_pc hg (rP p))) rfl (.inr rfl) ?_
  simp (disch := omega) only [↓RU,RV,RH,↓reduceIte,reduceEqDiff,reduceCtorEq,if_pos,List.append_nil,↓RS,RG,reduceAdd,reduceMul,reduceLeDiff]
  refine hK _ _ ?_;clear hK K
  refine W.ret ?_
  refine Br rfl ?_
  rfl
theorem tight_perm {p : List Txt} (hp : plainB p = true) : plainI (nm (tgG p)) = true ∧ permV (nm (tgG p)) = permV p := by
 obtain ⟨hf,hk,hc⟩ := tight_parts hp
 have hcn : ∀ i j,i < p.length → j < (hdRow p).length → cn (gP p) i j = tgC p (foldR (gP p) i) (foldK (kptB (ddR (gP p))) j) := fun i j hi hj => by unfold tgC cn; rw [hc i j hi hj]
 have hm := tight_made hp
 obtain ⟨σ,hiso⟩ := iso_tight hf hk hp hcn (Pl.fold hf hk hcn (plan_pl hp)) hm.plan hm.ren
 exact ⟨by rw [plainI_plain]; exact hiso.pl,hiso.perm_same hp⟩
theorem wide_perm {p : List Txt} (hp : plainB p = true) (h1 : 2 * p.length ≤ 6) (h2 : 2 * (hdRow p).length ≤ 6) : plainI (nm (wideG p)) = true ∧ permV (nm (wideG p)) = permV p := by
 obtain ⟨q1,q2,q3,q4,-⟩ := plain_dims hp
 have hm := wide_made hp h1 h2
 obtain ⟨σ,hiso⟩ := iso_wide (fold_half q1) (fold_half q3) hp (fun _ _ _ _ => rfl) (wide_pl hp) hm.plan hm.ren
 exact ⟨by rw [plainI_plain]; exact hiso.pl,hiso.perm_same hp⟩
def wdB (p : List Txt) : Bool := decide (2 * p.length ≤ 6) && decide (2 * (hdRow p).length ≤ 6)
def wdP (p : List Txt) : List Txt := if wdB p then nm (wideG p) else []
theorem wdB_iff {p : List Txt} : wdB p = true ↔ 2 * p.length ≤ 6 ∧ 2 * (hdRow p).length ≤ 6 := by simp [wdB]
theorem wdP_sm {p : List Txt} (hp : plainB p = true) : Sm (wdP p) := by
 unfold wdP
 split
 ·rename_i h
  obtain ⟨h1,h2⟩ := wdB_iff.1 h
  exact (wide_made hp h1 h2).sm
 ·exact ⟨by simp,by simp⟩
theorem planWide_pc {p : List Txt} (hs : Sm p) (hp : plainB p = true) : PC Tryz.prog 27 [eStrs p,.int .i64 2] (.tup [eStrs (wdP p),.bool (wdB p)]) false := by
 unfold wdP
 cases h : wdB p with
 | true =>
  obtain ⟨h1,h2⟩ := wdB_iff.1 h
  rw [if_pos rfl]
  exact planWide_yes hs hp h1 h2
 | false =>
  rw [if_neg Bool.false_ne_true]
  exact planWide_no hs hp (fun q => by rw [wdB_iff.2 q] at h; cases h)
theorem wdP_perm {p : List Txt} (hp : plainB p = true) (h : wdB p = true) : plainI (wdP p) = true ∧ permV (wdP p) = permV p := by
 obtain ⟨h1,h2⟩ := wdB_iff.1 h
 unfold wdP
 rw [if_pos h]
 exact wide_perm hp h1 h2
theorem perm_law {code : Txt} (hcode : code.length ≤ 9223372036854775807) : PC Tryz.prog 7 [eBy code] (.bool true) true := by
 refine PC.of ⟨Tryz.func7,by kernel_rfl,rfl,by kernel_rfl⟩ tabOk mixed (by show 1 ≤ Tryz.f7.ntmps; decide) ?_
 refine W.r fun K hK => ?_
 simp (disch := omega) only [↓RU,RV,RH,↓reduceIte,reduceEqDiff,reduceCtorEq,if_pos,↓RS,RG,reduceAdd,reduceMul,reduceLeDiff]
 refine hK _ _ ?_;clear hK K
 refine W.seq ?_
 refine W.r fun K hK => ?_
 simp (disch := omega) only [↓RU,RV,RH,↓reduceIte,reduceEqDiff,reduceCtorEq,if_pos,w64,↓RS,RG,reduceAdd,reduceMul,reduceLeDiff,ty6,tyint,ty26]
 refine hK _ _ ?_;clear hK K
 refine W.cond rfl (fun h0 => ?_) (fun h0 => ?_)
 ·try simp only [RL] at h0
  refine W.r fun K hK => ?_
  simp (disch := omega) only [↓RU,RV,RH,↓reduceIte,reduceEqDiff,reduceCtorEq,if_pos,↓RS,RG,reduceAdd,reduceMul,reduceLeDiff]
  refine hK _ _ ?_;clear hK K
  refine W.ret ?_
  refine XThen.ret ?_
  refine Br rfl ?_
  rfl
 ·try simp only [RL] at h0
  have hcl : code.length ≤ 1048576 := by omega
  refine W.skip ?_
  refine xn ?_
  refine W.r fun K hK => ?_
  simp (disch := omega) only [↓RU,RV,RH,↓reduceIte,reduceEqDiff,reduceCtorEq,if_pos,List.append_nil,↓RS,RG,reduceAdd,reduceMul,reduceLeDiff]
  refine CallR.ev (drawOrderPerm_ev hcl) ?_
  rintro _ _ ⟨p,t,hs,rfl,rfl⟩
  simp (disch := omega) only [↓RU,RV,RH,↓reduceIte,reduceEqDiff,reduceCtorEq,if_pos,List.append_nil,↓RS,RG,reduceAdd,reduceMul,reduceLeDiff]
  refine hK _ _ ?_;clear hK K
  have hI : plainB p = plainI p := plainI_plain.symm
  refine W.r fun K hK => ?_
  simp (disch := omega) only [↓RU,RV,RH,↓reduceIte,reduceEqDiff,reduceCtorEq,if_pos,List.append_nil,↓RS,RG,reduceAdd,reduceMul,reduceLeDiff]
  refine CallR.pc (orderPerm_pc hs) rfl (.inr rfl) ?_
  simp (disch := omega) only [↓RU,RV,RH,↓reduceIte,reduceEqDiff,reduceCtorEq,if_pos,List.append_nil,↓RS,RG,reduceAdd,reduceMul,reduceLeDiff]
  refine hK _ _ ?_;clear hK K
  refine W.r fun K hK => ?_
  simp (disch := omega) only [↓RU,RV,RH,↓reduceIte,reduceEqDiff,reduceCtorEq,if_pos,List.append_nil,↓RS,RG,reduceAdd,reduceMul,reduceLeDiff]
  refine CallR.pc (sOrderPerm_pc hs) rfl (.inr rfl) ?_
  simp (disch := omega) only [↓RU,RV,RH,↓reduceIte,reduceEqDiff,reduceCtorEq,if_pos,List.append_nil,↓RS,RG,reduceAdd,reduceMul,reduceLeDiff]
  refine hK _ _ ?_;clear hK K
  rw [hI]
  refine W.seq ?_
  refine W.r fun K hK => ?_
  cases hv : plainI p
  ·skip
   simp (disch := omega) only [↓RU,RV,RH,↓reduceIte,reduceEqDiff,reduceCtorEq,if_pos,w64,List.append_nil,↓RS,RG,reduceAdd,reduceMul,reduceLeDiff,tybool,pEq_bb,Option.map_some,bne_self_eq_false,beq_self_eq_true,Bool.not_true,Bool.not_false,decide_true,hv,ifL_f]
   refine CallR.pc (sameInts_pc (p := ([] : List Int)) (q := ([] : List Int)) (by simp) (by simp)) rfl (.inl rfl) ?_
   simp (disch := omega) only [↓RU,RV,RH,↓reduceIte,reduceEqDiff,reduceCtorEq,if_pos,w64,List.append_nil,↓RS,RG,reduceAdd,reduceMul,reduceLeDiff,tybool,pEq_bb,Option.map_some,bne_self_eq_false,beq_self_eq_true,Bool.not_true,Bool.not_false,decide_true,hv,ifL_f]
   refine hK _ _ ?_;clear hK K
   refine W.cond rfl (fun h1 => ?_) (fun h1 => ?_)
   ·try simp only [RL] at h1
    refine W.r fun K hK => ?_
    simp (disch := omega) only [↓RU,RV,RH,↓reduceIte,reduceEqDiff,reduceCtorEq,if_pos,w64,List.append_nil,↓RS,RG,reduceAdd,reduceMul,reduceLeDiff,tybool,pEq_bb,Option.map_some,bne_self_eq_false,beq_self_eq_true,Bool.not_true,Bool.not_false,decide_true]
    refine CallR.pc (sameInts_pc (p := ([] : List Int)) (q := ([] : List Int)) (by simp) (by simp)) rfl (.inl rfl) ?_
    simp (disch := omega) only [↓RU,RV,RH,↓reduceIte,reduceEqDiff,reduceCtorEq,if_pos,w64,List.append_nil,↓RS,RG,reduceAdd,reduceMul,reduceLeDiff,tybool,pEq_bb,Option.map_some,bne_self_eq_false,beq_self_eq_true,Bool.not_true,Bool.not_false,decide_true]
    refine hK _ _ ?_;clear hK K
    refine W.ret ?_
    refine XThen.ret ?_
    refine Br rfl ?_
    rfl
   ·try simp only [RL] at h1
    exact absurd h1 (by simp)
  ·skip
   have hsl : (permV p).length ≤ 9 := by rw [permV_len]; exact okB_rooms (plain_okB hv).1
   simp (disch := omega) only [↓RU,RV,RH,↓reduceIte,reduceEqDiff,reduceCtorEq,if_pos,w64,List.append_nil,↓RS,RG,reduceAdd,reduceMul,reduceLeDiff,tybool,pEq_bb,Option.map_some,bne_self_eq_false,beq_self_eq_true,Bool.not_true,Bool.not_false,decide_true,hv,ifL_t]
   refine CallR.pc (sameInts_pc (p := permV p) (q := permV p) (by omega) (by omega)) rfl (.inl rfl) ?_
   simp (disch := omega) only [↓RU,RV,RH,↓reduceIte,reduceEqDiff,reduceCtorEq,if_pos,w64,List.append_nil,↓RS,RG,reduceAdd,reduceMul,reduceLeDiff,tybool,pEq_bb,Option.map_some,bne_self_eq_false,beq_self_eq_true,Bool.not_true,Bool.not_false,decide_true,hv,ifL_t]
   refine hK _ _ ?_;clear hK K
   refine W.cond rfl (fun h1 => ?_) (fun h1 => ?_)
   ·try simp only [RL] at h1
    exact absurd h1 (by simp)
   ·try simp only [RL] at h1
    have hp := plainI_is hv
    have hm := tight_made hp
    obtain ⟨hpt1,hpt2⟩ := tight_perm hp
    have hws := wdP_sm hp
    have hsl : (permV p).length ≤ 9 := by rw [permV_len]; exact okB_rooms (plain_okB hv).1
    refine W.skip ?_
    refine xn ?_
    refine W.r fun K hK => ?_
    simp (disch := omega) only [↓RU,RV,RH,↓reduceIte,reduceEqDiff,reduceCtorEq,if_pos,List.append_nil,↓RS,RG,reduceAdd,reduceMul,reduceLeDiff]
    refine CallR.pc (planTight_pc hs hp) rfl (.inr rfl) ?_
    simp (disch := omega) only [↓RU,RV,RH,↓reduceIte,reduceEqDiff,reduceCtorEq,if_pos,List.append_nil,↓RS,RG,reduceAdd,reduceMul,reduceLeDiff]
    refine hK _ _ ?_;clear hK K
    refine W.r fun K hK => ?_
    simp (disch := omega) only [↓RU,RV,RH,↓reduceIte,reduceEqDiff,reduceCtorEq,if_pos,List.append_nil,↓RS,RG,reduceAdd,reduceMul,reduceLeDiff,hpt1,hpt2,ifL_t]
    refine CallR.pc (orderPerm_pc hm.sm) rfl (.inr rfl) ?_
    simp (disch := omega) only [↓RU,RV,RH,↓reduceIte,reduceEqDiff,reduceCtorEq,if_pos,List.append_nil,↓RS,RG,reduceAdd,reduceMul,reduceLeDiff,hpt1,hpt2,ifL_t]
    refine hK _ _ ?_;clear hK K
    refine W.r fun K hK => ?_
    simp (disch := omega) only [↓RU,RV,RH,↓reduceIte,reduceEqDiff,reduceCtorEq,if_pos,List.append_nil,↓RS,RG,reduceAdd,reduceMul,reduceLeDiff]
    refine CallR.pc (planWide_pc hs hp) rfl (.inr rfl) ?_
    simp (disch := omega) only [↓RU,RV,RH,↓reduceIte,reduceEqDiff,reduceCtorEq,if_pos,List.append_nil,↓RS,RG,reduceAdd,reduceMul,reduceLeDiff]
    refine hK _ _ ?_;clear hK K
    refine W.r fun K hK => ?_
    simp (disch := omega) only [↓RU,RV,RH,↓reduceIte,reduceEqDiff,reduceCtorEq,if_pos,List.append_nil,↓RS,RG,reduceAdd,reduceMul,reduceLeDiff]
    refine CallR.pc (orderPerm_pc hws) rfl (.inr rfl) ?_
    simp (disch := omega) only [↓RU,RV,RH,↓reduceIte,reduceEqDiff,reduceCtorEq,if_pos,List.append_nil,↓RS,RG,reduceAdd,reduceMul,reduceLeDiff]
    refine hK _ _ ?_;clear hK K
    refine W.r fun K hK => ?_
    cases hwb : wdB p
    ·skip
     simp (disch := omega) only [↓RU,RV,RH,↓reduceIte,reduceEqDiff,reduceCtorEq,if_pos,List.append_nil,↓RS,RG,reduceAdd,reduceMul,reduceLeDiff,pEq_bb,Option.map_some,bne_self_eq_false,beq_self_eq_true,Bool.not_true,Bool.not_false,decide_true,hwb]
     refine CallR.pc (sameInts_pc (p := permV p) (q := permV p) (by omega) (by omega)) rfl (.inl rfl) ?_
     simp (disch := omega) only [↓RU,RV,RH,↓reduceIte,reduceEqDiff,reduceCtorEq,if_pos,List.append_nil,↓RS,RG,reduceAdd,reduceMul,reduceLeDiff,pEq_bb,Option.map_some,bne_self_eq_false,beq_self_eq_true,Bool.not_true,Bool.not_false,decide_true,hwb]
     refine hK _ _ ?_;clear hK K
     refine W.ret ?_
     refine Br rfl ?_
     rfl
    ·skip
     obtain ⟨hw1,hw2⟩ := wdP_perm hp hwb
     simp (disch := omega) only [↓RU,RV,RH,↓reduceIte,reduceEqDiff,reduceCtorEq,if_pos,List.append_nil,↓RS,RG,reduceAdd,reduceMul,reduceLeDiff,pEq_bb,Option.map_some,bne_self_eq_false,beq_self_eq_true,Bool.not_true,Bool.not_false,decide_true,hwb,hw1,hw2,ifL_t]
     refine CallR.pc (sameInts_pc (p := permV p) (q := permV p) (by omega) (by omega)) rfl (.inl rfl) ?_
     simp (disch := omega) only [↓RU,RV,RH,↓reduceIte,reduceEqDiff,reduceCtorEq,if_pos,List.append_nil,↓RS,RG,reduceAdd,reduceMul,reduceLeDiff,pEq_bb,Option.map_some,bne_self_eq_false,beq_self_eq_true,Bool.not_true,Bool.not_false,decide_true,hwb,hw1,hw2,ifL_t]
     refine CallR.pc (sameInts_pc (p := permV p) (q := permV p) (by omega) (by omega)) rfl (.inl rfl) ?_
     simp (disch := omega) only [↓RU,RV,RH,↓reduceIte,reduceEqDiff,reduceCtorEq,if_pos,List.append_nil,↓RS,RG,reduceAdd,reduceMul,reduceLeDiff,pEq_bb,Option.map_some,bne_self_eq_false,beq_self_eq_true,Bool.not_true,Bool.not_false,decide_true,hwb,hw1,hw2,ifL_t]
     refine hK _ _ ?_;clear hK K
     refine W.ret ?_
     refine Br rfl ?_
     rfl
end Fw
end Go.Proofs.YtclmfemhboogpaaGreat
namespace Go.Proofs.YtclmfemhboogpaaGreat
open Go Go.ChangeShapes Go.WideShapes Go.ChangeAt Go.RowKit Fw
theorem Tryz.ownRmd : ownKnob Tryz.prog.godebug = none := by kernel_rfl
theorem Tryz.laidOutRmd : laidOutB Tryz.prog = true := by kernel_rfl
set_option maxRecDepth 100000 in
theorem rmd_lifted (os : Os) (started : os.Started) (H : Type) (enc : TypeId × Value → H) :
  ReturnsInHanded {} Tryz.checked os 7 .any (Rows.fnPermSpec.pre6 enc Tryz.prog Tryz.f7 Rows.fnPermRow.domain false) (Rows.fnPermSpec.post enc Tryz.prog Tryz.f7 false true false false) := by
 refine returnsInHanded_of_change (C := Tryz.checked) Tryz.ownRmd started (by kernel_rfl) Tryz.func7
  (ChangeSpec.witness6 (enc := enc) (C := Tryz.checked) false ⟨#[],#[.slice none 0 0],[]⟩ 8 (by kernel_rfl) (by kernel_rfl) (by kernel_rfl) (by kernel_rfl)) ?_
 intro W base args ds gs before hval0 hW hcnd _
 have hval : ∀ (j : Nat) t v,Tryz.f7.params[j]? = some t → args[j]? = some v → Value.okWide Tryz.prog W .any base t v := hval0
 have hW' := hW
 obtain ⟨p,q,hA0,hV,rfl,hfz,hnd⟩ := hW
 have hA : DataW.TrodAll enc Tryz.prog W 0 (fun _ => true) true Tryz.f7.params.toList args.toList ds p := hA0
 rw [Tryz.params7] at hA hval
 obtain ⟨v0,d0,rfl,rfl,h0⟩ := trodAll_one hA
 obtain ⟨rfl,rfl⟩ := trodVars_none hV
 obtain ⟨l0,i0,b0⟩ := vi_bytes (hval 0 _ v0 rfl rfl) h0
 have hlt : ∀ x ∈ p,x.block < W.heap.size := fun x hx => hW'.lt x (by simp [hx])
 refine ((perm_law b0).run (fun b => b < W.heap.size) W #[v0] (fun _ h => h) rfl ?_).mono ?_
 ·rintro (_ | i) p c hp hc
  ·cases hp; cases hc; exact i0
  ·simp at hp
 ·rintro e W' ⟨cv,rfl,⟨hB,_⟩,hr⟩
  have hcv : cv = .bool true := by cases hr; rfl
  subst hcv
  have t0 := Below.trod Tryz.laidOutRmd (by kernel_rfl) (of_decide_eq_true (by kernel_rfl)) h0 hB fun x hx => hlt x (by simp [hx])
  refine ⟨_,rfl,_,_,_,[],p,[],hW',?_,?_,?_,hB.frame _,fun h => by cases h⟩
  ·exact trodAll_mk1 (shut_bool Tryz.underlying4 true)
  ·rw [Tryz.params7]; exact trodAll_mk1 t0
  ·trivial
theorem rmd_holds : Rows.FnPermSaid :=
 OpenClaim.holds_of_wide 7 Tryz.f7 rfl rfl rfl rfl rfl rfl rfl ⟨rfl,rfl,rfl,rfl,rfl⟩ rfl rfl rfl rfl rfl (by kernel_rfl) Tryz.func7 (by kernel_rfl)
  (of_decide_eq_true (by kernel_rfl)) (by unfold Func.isWrapper; first | (rw [if_pos (by decide +kernel)]; kernel_rfl) | (rw [if_neg (by decide +kernel)]; exact ⟨rfl,rfl⟩))
  (fun os started H enc _ => rmd_lifted os started H enc)
end Go.Proofs.YtclmfemhboogpaaGreat
