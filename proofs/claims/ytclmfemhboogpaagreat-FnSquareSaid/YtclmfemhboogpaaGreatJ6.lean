/- Least squares are best shapes' least sides: the law FnSquare answers true for all codes. No condition. -/
import Derived.Test.YtclmfemhboogpaaGreatJ5
import Derived.Test.YtclmfemhboogpaaGreatJ4
set_option linter.all false
namespace Go.Proofs.YtclmfemhboogpaaGreat
namespace Fw
open Go
open Nat (reduceEqDiff reduceLeDiff reduceAdd reduceMul)
theorem scs_at1 {l : List (Int × Int)} {n : Nat} {x : Int × Int} (h : l[n]? = some x) : (scs l)[n * 2 + 1]? = some (.int .i64 x.2) := by
 induction l generalizing n with
 | nil => simp at h
 | cons a l ih =>
  cases n with
  | zero => simp at h; subst h; rw [scs_cons]; simp [eShp]
  | succ n =>
   simp at h
   rw [scs_cons,show (n + 1) * 2 + 1 = (eShp a).length + (n * 2 + 1) by simp [eShp]; omega,List.getElem?_append_right (by omega),Nat.add_sub_cancel_left]
   exact ih h
theorem last_at {l : List Shp} (h : l ≠ []) : ∃ q,l[l.length - 1]? = some q ∧ l.getLast? = some q := by
 refine ⟨l.getLast h,?_,List.getLast?_eq_some_getLast h⟩
 rw [← List.getLast?_eq_getElem?]; exact List.getLast?_eq_some_getLast h
theorem bsS_some {o : List Shp} {x q : Shp} (h : o.getLast? = some q) : bsS o x = if x.2 < q.2 then o ++ [x] else o := by unfold bsS; rw [h]
theorem bsF_ne {z : List Shp} {i : Nat} (h : i ≠ 0) (hz : i ≤ z.length) : bsF (z.take i) ≠ [] := by
 have key : ∀ (z : List Shp) (o : List Shp),o ≠ [] → z.foldl bsS o ≠ [] := by
  intro z
  induction z with
  | nil => intro o ho; exact ho
  | cons a z ih =>
   intro o ho
   refine ih _ ?_
   obtain ⟨q,-,hq⟩ := last_at ho
   rw [bsS_some hq]; split
   ·simp
   ·exact ho
 match z,i,h,hz with
 | a :: z,i + 1,_,_ => exact key (z.take i) [a] (by simp)
 | [],i + 1,_,h => simp at h
theorem insSh0_pc  : PC Tryz.prog 190 [.sl [] 0,.int .i64 0,.int .i64 0,.fn 143 []] (.tup []) true := by
 refine PC.of ⟨Tryz.func190,by kernel_rfl,rfl,by kernel_rfl⟩ tabOk mixed (by show 4 ≤ Tryz.f190.ntmps; decide) ?_
 refine W.r fun K hK => ?_
 simp (disch := omega) only [↓RU,RV,RH,↓reduceIte,reduceEqDiff,reduceCtorEq,if_pos,w64,tyint]
 refine hK _ _ ?_;clear hK K
 refine W.block ?_
 refine W.loop [2,8] (fun n vs S => n = 0 ∧ vs = [.int .i64 0,.int .i64 1] ∧ S = ⟨[],0⟩) 0 ?_ ?_
 ·refine ⟨0,rfl,?_,rfl⟩
  simp [Env.put,Env.of,argEnv]
 rintro n vs S - ⟨rfl,rfl,rfl⟩
 refine W.seq ?_
 refine W.r fun K hK => ?_
 simp (disch := omega) only [↓RU,RV,RH,↓reduceIte,reduceEqDiff,reduceCtorEq,if_pos,w64,tyint]
 refine hK _ _ ?_;clear hK K
 refine W.cond rfl (fun h => ?_) (fun h => ?_)
 ·try simp only [RL] at h
  exact absurd h (by decide)
 ·try simp only [RL] at h
  refine W.exit ?_
  refine xe ?_
  refine xe ?_
  refine XBlock.hit ?_
  refine BodyQ.norm rfl ?_
  rfl
theorem len640_pc  : PC Tryz.prog 199 [.int .u64 0] (.int .i64 0) true := by
 refine PC.of ⟨Tryz.func199,by kernel_rfl,rfl,by kernel_rfl⟩ tabOk mixed (by show 1 ≤ Tryz.f199.ntmps; decide) ?_
 refine W.r fun K hK => ?_
 simp (disch := omega) only [↓RU,RV,RH,↓reduceIte,reduceEqDiff,reduceCtorEq,if_pos]
 refine hK _ _ ?_;clear hK K
 refine W.seq ?_
 refine W.r fun K hK => ?_
 simp (disch := omega) only [↓RU,RV,RH,↓reduceIte,reduceEqDiff,reduceCtorEq,if_pos,w64,ty28]
 refine hK _ _ ?_;clear hK K
 refine W.cond rfl (fun h => ?_) (fun h => ?_)
 ·try simp only [RL] at h
  exact absurd h (by decide)
 ·try simp only [RL] at h
  refine W.skip ?_
  refine xn ?_
  refine W.seq ?_
  refine W.r fun K hK => ?_
  simp (disch := omega) only [↓RU,RV,RH,↓reduceIte,reduceEqDiff,reduceCtorEq,if_pos,w64,ty28]
  refine hK _ _ ?_;clear hK K
  refine W.cond rfl (fun h1 => ?_) (fun h1 => ?_)
  ·try simp only [RL] at h1
   exact absurd h1 (by decide)
  ·try simp only [RL] at h1
   refine W.skip ?_
   refine xn ?_
   refine W.seq ?_
   refine W.r fun K hK => ?_
   simp (disch := omega) only [↓RU,RV,RH,↓reduceIte,reduceEqDiff,reduceCtorEq,if_pos,w64,ty28]
   refine hK _ _ ?_;clear hK K
   refine W.cond rfl (fun h2 => ?_) (fun h2 => ?_)
   ·try simp only [RL] at h2
    exact absurd h2 (by decide)
   ·try simp only [RL] at h2
    refine W.skip ?_
    refine xn ?_
    refine W.r fun K hK => ?_
    simp (disch := omega) only [↓RU,RV,RH,↓reduceIte,reduceEqDiff,reduceCtorEq,if_pos,w64,w64,tyint,tystring,ty28,ty29]
    refine hK _ _ ?_;clear hK K
    refine W.ret ?_
    refine Br rfl ?_
    rfl
theorem len0_pc  : PC Tryz.prog 173 [.int .u64 0] (.int .i64 0) true := by
 refine PC.of ⟨Tryz.func173,by kernel_rfl,rfl,by kernel_rfl⟩ tabOk mixed (by show 1 ≤ Tryz.f173.ntmps; decide) ?_
 refine W.r fun K hK => ?_
 simp (disch := omega) only [↓RU,RV,RH,↓reduceIte,reduceEqDiff,reduceCtorEq,if_pos]
 refine hK _ _ ?_;clear hK K
 refine W.seq ?_
 refine W.cond rfl (fun h => ?_) (fun h => ?_)
 ·try simp only [RL] at h
  exact absurd h (by decide)
 ·try simp only [RL] at h
  refine W.skip ?_
  refine xn ?_
  refine W.r fun K hK => ?_
  simp (disch := omega) only [↓RU,RV,RH,↓reduceIte,reduceEqDiff,reduceCtorEq,if_pos,List.append_nil]
  refine CallR.pc (len640_pc) rfl (.inl rfl) ?_
  simp (disch := omega) only [↓RU,RV,RH,↓reduceIte,reduceEqDiff,reduceCtorEq,if_pos,List.append_nil]
  refine hK _ _ ?_;clear hK K
  refine W.ret ?_
  refine Br rfl ?_
  rfl
theorem pdqSh0_pc  : PC Tryz.prog 172 [.sl [] 0,.int .i64 0,.int .i64 0,.int .i64 0,.fn 143 []] (.tup []) true := by
 refine PC.of ⟨Tryz.func172,by kernel_rfl,rfl,by kernel_rfl⟩ tabOk mixed (by show 5 ≤ Tryz.f172.ntmps; decide) ?_
 refine W.r fun K hK => ?_
 simp (disch := omega) only [↓RU,RV,RH,↓reduceIte,reduceEqDiff,reduceCtorEq,if_pos]
 refine hK _ _ ?_;clear hK K
 refine W.r fun K hK => ?_
 simp (disch := omega) only [↓RU,RV,RH,↓reduceIte,reduceEqDiff,reduceCtorEq,if_pos]
 refine hK _ _ ?_;clear hK K
 refine W.block ?_
 refine W.loop [0,1,2,4] (fun n vs S => n = 1 ∧ vs = [.sl [] 0,.int .i64 0,.int .i64 0,.fn 143 []] ∧ S = ⟨[],0⟩) 1 ?_ ?_
 ·refine ⟨0,rfl,?_,rfl⟩
  simp [Env.put,Env.of,argEnv]
 rintro n vs S - ⟨rfl,rfl,rfl⟩
 refine W.block ?_
 refine W.r fun K hK => ?_
 simp (disch := omega) only [↓RU,RV,RH,↓reduceIte,reduceEqDiff,reduceCtorEq,if_pos,w64,tyint]
 refine hK _ _ ?_;clear hK K
 refine W.seq ?_
 refine W.r fun K hK => ?_
 simp (disch := omega) only [↓RU,RV,RH,↓reduceIte,reduceEqDiff,reduceCtorEq,if_pos,w64,tyint]
 refine hK _ _ ?_;clear hK K
 refine W.cond rfl (fun h => ?_) (fun h => ?_)
 ·try simp only [RL] at h
  refine W.r fun K hK => ?_
  simp (disch := omega) only [↓RU,RV,RH,↓reduceIte,reduceEqDiff,reduceCtorEq,if_pos,List.append_nil]
  refine CallR.pc (insSh0_pc) rfl (.inl rfl) ?_
  simp (disch := omega) only [↓RU,RV,RH,↓reduceIte,reduceEqDiff,reduceCtorEq,if_pos,List.append_nil]
  refine hK _ _ ?_;clear hK K
  refine W.ret ?_
  refine XThen.ret ?_
  refine XBlock.ret ?_
  refine XThen.ret ?_
  refine XBlock.ret ?_
  refine Br rfl ?_
  rfl
 ·try simp only [RL] at h
  exact absurd h (by decide)
theorem sortSh0_pc  : PC Tryz.prog 142 [.sl [] 0,.fn 143 []] (.tup []) true := by
 refine PC.of ⟨Tryz.func142,by kernel_rfl,rfl,by kernel_rfl⟩ tabOk mixed (by show 2 ≤ Tryz.f142.ntmps; decide) ?_
 refine W.r fun K hK => ?_
 simp (disch := omega) only [↓RU,RV,RH,↓reduceIte,reduceEqDiff,reduceCtorEq,if_pos,ty4,ty16,tyint,ty27]
 refine hK _ _ ?_;clear hK K
 refine W.k fun K hK => ?_
 simp (disch := omega) only [↓RU,RV,RH,↓reduceIte,reduceEqDiff,reduceCtorEq,if_pos,w64,List.append_nil,tyint,tyuint]
 refine CallR.pc (len0_pc) rfl (.inl rfl) ?_
 simp (disch := omega) only [↓RU,RV,RH,↓reduceIte,reduceEqDiff,reduceCtorEq,if_pos,w64,List.append_nil,tyint,tyuint]
 refine CallR.pc (pdqSh0_pc) rfl (.inl rfl) ?_
 simp (disch := omega) only [↓RU,RV,RH,↓reduceIte,reduceEqDiff,reduceCtorEq,if_pos,w64,List.append_nil,tyint,tyuint]
 refine hK _ _ ?_;clear hK K
 refine BodyQ.norm rfl ?_
 rfl
theorem best0_pc  : PC Tryz.prog 92 [.sl [] 0] (.sl [] 0) true := by
 refine PC.of ⟨Tryz.func92,by kernel_rfl,rfl,by kernel_rfl⟩ tabOk mixed (by show 1 ≤ Tryz.f92.ntmps; decide) ?_
 refine W.r fun K hK => ?_
 simp (disch := omega) only [↓RU,RV,RH,↓reduceIte,reduceEqDiff,reduceCtorEq,if_pos,↓RS,RG,reduceAdd,reduceMul,reduceLeDiff]
 refine hK _ _ ?_;clear hK K
 refine W.r fun K hK => ?_
 simp (disch := omega) only [↓RU,RV,RH,↓reduceIte,reduceEqDiff,reduceCtorEq,if_pos,List.append_nil,↓RS,RG,reduceAdd,reduceMul,reduceLeDiff]
 refine CallR.pc (sortSh0_pc) rfl (.inl rfl) ?_
 simp (disch := omega) only [↓RU,RV,RH,↓reduceIte,reduceEqDiff,reduceCtorEq,if_pos,List.append_nil,↓RS,RG,reduceAdd,reduceMul,reduceLeDiff]
 refine hK _ _ ?_;clear hK K
 refine W.r fun K hK => ?_
 simp (disch := omega) only [↓RU,RV,RH,↓reduceIte,reduceEqDiff,reduceCtorEq,if_pos,↓RS,RG,reduceAdd,reduceMul,reduceLeDiff]
 refine hK _ _ ?_;clear hK K
 refine W.seq ?_
 refine W.r fun K hK => ?_
 simp (disch := omega) only [↓RU,RV,RH,↓reduceIte,reduceEqDiff,reduceCtorEq,if_pos,↓RS,RG,reduceAdd,reduceMul,reduceLeDiff,ty4,ty16,tyint,ty27]
 refine hK _ _ ?_;clear hK K
 refine W.block ?_
 refine W.loop [3,8,9,10] (fun n vs S => n = 0 ∧ vs = [.nils,.sl [] 0,.int .i64 0,.int .i64 0] ∧ S = ⟨[],0⟩) 0 ?_ ?_
 ·refine ⟨_,rfl,?_,take_all⟩
  simp [Env.put,Env.of,argEnv]
 rintro n vs S - ⟨rfl,rfl,rfl⟩
 refine W.r fun K hK => ?_
 simp (disch := omega) only [↓RU,RV,RH,↓reduceIte,reduceEqDiff,reduceCtorEq,if_pos,w64,↓RS,RG,reduceAdd,reduceMul,reduceLeDiff,tyint]
 refine hK _ _ ?_;clear hK K
 refine W.seq ?_
 refine W.cond rfl (fun h => ?_) (fun h => ?_)
 ·try simp only [RL] at h
  exact absurd h (by decide)
 ·try simp only [RL] at h
  refine W.exit ?_
  refine xe ?_
  refine xe ?_
  refine XBlock.hit ?_
  refine xn ?_
  refine W.r fun K hK => ?_
  simp (disch := omega) only [↓RU,RV,RH,↓reduceIte,reduceEqDiff,reduceCtorEq,if_pos,↓RS,RG,reduceAdd,reduceMul,reduceLeDiff]
  refine hK _ _ ?_;clear hK K
  refine W.ret ?_
  refine Br rfl ?_
  rfl
theorem best_ev {l : List Shp} (hl : l.length ≤ 1048576) (h1 : 1 ≤ l.length) {o0 : Ob} {ver t : Nat} : Ev Tryz.prog 92 [.loc 1 ver 0 l.length] ⟨[o0,.arr ver 142 2 (scs l)],t⟩ fun v S => ∃ (z : List Shp) (ver2 v2 t2 : Nat),z.Perm l ∧ z.Pairwise LexLe ∧ v = .loc 1 v2 0 (bsF z).length ∧ S = ⟨[.arr ver2 142 2 (scs z),.arr v2 142 2 (scs (bsF z))],t2⟩ := by
 refine Ev.of ⟨Tryz.func92,by kernel_rfl,rfl,by kernel_rfl⟩ tabOk mixed (by show 1 ≤ Tryz.f92.ntmps; decide) ?_
 refine W.r fun K hK => ?_
 simp (disch := omega) only [↓RU,RV,RH,↓reduceIte,reduceEqDiff,reduceCtorEq,if_pos,↓RS,RG,reduceAdd,reduceMul,reduceLeDiff]
 refine hK _ _ ?_;clear hK K
 refine W.r fun K hK => ?_
 simp (disch := omega) only [↓RU,RV,RH,↓reduceIte,reduceEqDiff,reduceCtorEq,if_pos,List.append_nil,↓RS,RG,reduceAdd,reduceMul,reduceLeDiff]
 refine CallR.ev (sortSh_ev (F := [o0]) (R := []) (by omega)) ?_
 rintro _ _ ⟨rfl,z,hzp,hzs,rfl⟩
 have hzl : z.length = l.length := hzp.length_eq
 simp (disch := omega) only [↓RU,RV,RH,↓reduceIte,reduceEqDiff,reduceCtorEq,if_pos,List.append_nil,↓RS,RG,reduceAdd,reduceMul,reduceLeDiff]
 refine hK _ _ ?_;clear hK K
 refine W.r fun K hK => ?_
 simp (disch := omega) only [↓RU,RV,RH,↓reduceIte,reduceEqDiff,reduceCtorEq,if_pos,↓RS,RG,reduceAdd,reduceMul,reduceLeDiff]
 refine hK _ _ ?_;clear hK K
 refine W.seq ?_
 refine W.r fun K hK => ?_
 simp (disch := omega) only [↓RU,RV,RH,↓reduceIte,reduceEqDiff,reduceCtorEq,if_pos,↓RS,RG,reduceAdd,reduceMul,reduceLeDiff,ty4,ty16,tyint,ty27]
 refine hK _ _ ?_;clear hK K
 refine W.block ?_
 refine W.loopS [3,8,9,10] (fun n vs S => ∃ i ver v t : Nat,n = l.length - i ∧ i ≤ l.length ∧ vs = [slC 1 (bsF (z.take i)) v,.loc 0 ver 0 l.length,.int .i64 l.length,.int .i64 i] ∧ S = ⟨.arr ver 142 2 (scs z) :: tlC (bsF (z.take i)) v,t⟩) l.length ?_ ?_
 ·refine ⟨0,[1],[.nils,.loc 0 t 0 l.length,.int .i64 l.length,.int .i64 (0 : Nat)],⟨[.arr t 142 2 (scs z)],t + 1⟩,?_,?_,0,t,0,t + 1,rfl,Nat.zero_le _,rfl,rfl⟩
  ·simp [-List.mapM_map,Env.put,Env.of,argEnv,Srn_eq,rnObs_cons,rnObs_nil,rnOb_arr,rnOb_map,rn_loc,rn_ref,rn_mp,rn_int,rn_bool,rn_str,rn_ip,rn_sl,rn_nils,rn_nilp,rn_undef,rn_agg,rn_tup,rn_fn,rfq_loc,rfq_int,rfq_bool,rfq_str,rfq_sl,frOf,List.range_succ,List.mapM_append,List.mapM_cons]
  ·simp [-List.mapM_map,Env.put,Env.of,argEnv,Srn_eq,rnObs_cons,rnObs_nil,rnOb_arr,rnOb_map,rn_loc,rn_ref,rn_mp,rn_int,rn_bool,rn_str,rn_ip,rn_sl,rn_nils,rn_nilp,rn_undef,rn_agg,rn_tup,rn_fn,rfq_loc,rfq_int,rfq_bool,rfq_str,rfq_sl,frOf,List.range_succ,List.mapM_append,List.mapM_cons,rn_scs]
 rintro n vs S - ⟨i,ver2,v,t2,rfl,h_i,rfl,rfl⟩
 refine W.r fun K hK => ?_
 simp (disch := omega) only [↓RU,RV,RH,↓reduceIte,reduceEqDiff,reduceCtorEq,if_pos,w64,↓RS,RG,reduceAdd,reduceMul,reduceLeDiff,tyint]
 refine hK _ _ ?_;clear hK K
 refine W.seq ?_
 refine W.cond rfl (fun h => ?_) (fun h => ?_)
 ·try simp only [RL] at h
  obtain ⟨x,hx,-⟩ := get_of (show i < z.length by omega)
  have hsu := bsF_succ hx
  have hol := bsF_len (z := z) (i := i) (by omega)
  have hpx : ((scs z).drop (i * 2)).take 2 = [.int .i64 x.1,.int .i64 x.2] := scs_at hx
  refine W.skip ?_
  refine xn ?_
  refine W.seq ?_
  refine W.block ?_
  refine W.r fun K hK => ?_
  by_cases hi0 : i = 0
  ·skip
   subst hi0
   have ho : bsF (z.take 0) = [] := rfl
   rw [ho] at hsu
   simp only [ho,slC_nil,tlC_nil]
   have hpx : (scs z).take 2 = [.int .i64 x.1,.int .i64 x.2] := by simpa using hpx
   have hpq := True.intro
   have ho0 := True.intro
   have ho1 := True.intro
   simp (disch := omega) only [↓RU,RV,RH,↓reduceIte,reduceEqDiff,reduceCtorEq,if_pos,↓RS,RG,reduceAdd,reduceMul,reduceLeDiff,ty4,ty16,tyint,ty27,hpx,scs_len,hzl]
   refine hK _ _ ?_;clear hK K
   refine W.seq_draw (by kernel_rfl) fun K hK => ?_
   simp (disch := omega) only [↓RU,RV,RH,↓reduceIte,reduceEqDiff,reduceCtorEq,if_pos,w64,↓RS,RG,reduceAdd,reduceMul,reduceLeDiff,ty4,ty16,tyint,ty27,hpq,ho0,toNat_pred,scs_len]
   refine hK _ _ ?_;clear hK K
   refine W.cond rfl (fun h1 => ?_) (fun h1 => ?_)
   ·try simp only [RL] at h1
    refine W.k fun K hK => ?_
    simp (disch := omega) only [↓RU,RV,RH,↓reduceIte,reduceEqDiff,reduceCtorEq,if_pos,↓RS,RG,reduceAdd,reduceMul,reduceLeDiff,ty4,ty16,tyint,ty27,scs_len,scs_tk]
    refine hK _ _ ?_;clear hK K
    refine XbN ?_
    refine xn ?_
    refine W.k fun K hK => ?_
    simp (disch := omega) only [↓RU,RV,RH,↓reduceIte,reduceEqDiff,reduceCtorEq,if_pos,w64,↓RS,RG,reduceAdd,reduceMul,reduceLeDiff,tyint]
    refine hK _ _ ?_;clear hK K
    refine xn ?_
    refine ⟨l.length - (0 + 1),by omega,1,[3],[.loc 1 (t2 + 3) 0 1,.loc 0 ver2 0 l.length,.int .i64 l.length,.int .i64 ((0 + 1 : Nat) : Int)],⟨[.arr ver2 142 2 (scs z),.arr (t2 + 3) 142 2 ([.int .i64 x.1,.int .i64 x.2])],t2 + 4⟩,?_,?_,1,ver2,t2 + 3,t2 + 4,rfl,by omega,by rw [hsu]; rfl,by rw [hsu]; rfl⟩
    ·simp [-List.mapM_map,Env.put,Env.of,argEnv,Srn_eq,rnObs_cons,rnObs_nil,rnOb_arr,rnOb_map,rn_loc,rn_ref,rn_mp,rn_int,rn_bool,rn_str,rn_ip,rn_sl,rn_nils,rn_nilp,rn_undef,rn_agg,rn_tup,rn_fn,rfq_loc,rfq_int,rfq_bool,rfq_str,rfq_sl,frOf,List.range_succ,List.mapM_append,List.mapM_cons]
    ·simp [-List.mapM_map,Env.put,Env.of,argEnv,Srn_eq,rnObs_cons,rnObs_nil,rnOb_arr,rnOb_map,rn_loc,rn_ref,rn_mp,rn_int,rn_bool,rn_str,rn_ip,rn_sl,rn_nils,rn_nilp,rn_undef,rn_agg,rn_tup,rn_fn,rfq_loc,rfq_int,rfq_bool,rfq_str,rfq_sl,frOf,List.range_succ,List.mapM_append,List.mapM_cons,rn_scs]
   ·try simp only [RL] at h1
    exact absurd h1 (by simp)
  ·skip
   have hne := bsF_ne hi0 (show i ≤ z.length by omega)
   generalize bsF (z.take i) = o at hsu hol hne ⊢
   simp only [slC_ne hne,tlC_ne hne]
   obtain ⟨q,hq,hq2⟩ := last_at hne
   have hpq := scs_at1 hq
   have ho1 : 1 ≤ o.length := List.length_pos_iff.2 hne
   have ho0 : ((o.length : Int) == 0) = false := by simp; omega
   rw [bsS_some hq2] at hsu
   simp (disch := omega) only [↓RU,RV,RH,↓reduceIte,reduceEqDiff,reduceCtorEq,if_pos,↓RS,RG,reduceAdd,reduceMul,reduceLeDiff,ty4,ty16,tyint,ty27,hpx,scs_len,hzl]
   refine hK _ _ ?_;clear hK K
   refine W.seq_draw (by kernel_rfl) fun K hK => ?_
   simp (disch := omega) only [↓RU,RV,RH,↓reduceIte,reduceEqDiff,reduceCtorEq,if_pos,w64,↓RS,RG,reduceAdd,reduceMul,reduceLeDiff,ty4,ty16,tyint,ty27,hpq,ho0,toNat_pred,scs_len]
   refine hK _ _ ?_;clear hK K
   refine W.cond rfl (fun h1 => ?_) (fun h1 => ?_)
   ·try simp only [RL] at h1
    have h1 : x.2 < q.2 := by simpa using h1
    rw [if_pos h1] at hsu
    refine W.k fun K hK => ?_
    simp (disch := omega) only [↓RU,RV,RH,↓reduceIte,reduceEqDiff,reduceCtorEq,if_pos,↓RS,RG,reduceAdd,reduceMul,reduceLeDiff,ty4,ty16,tyint,ty27,scs_len,scs_tk]
    refine hK _ _ ?_;clear hK K
    refine XbN ?_
    refine xn ?_
    refine W.k fun K hK => ?_
    simp (disch := omega) only [↓RU,RV,RH,↓reduceIte,reduceEqDiff,reduceCtorEq,if_pos,w64,↓RS,RG,reduceAdd,reduceMul,reduceLeDiff,tyint]
    refine hK _ _ ?_;clear hK K
    refine xn ?_
    refine ⟨l.length - (i + 1),by omega,2,[],[.loc 1 (t2 + 2) 0 (o.length + 1),.loc 0 ver2 0 l.length,.int .i64 l.length,.int .i64 ((i + 1 : Nat) : Int)],⟨[.arr ver2 142 2 (scs z),.arr (t2 + 2) 142 2 (scs o ++ [.int .i64 x.1,.int .i64 x.2])],t2 + 4⟩,?_,?_,i + 1,ver2,t2 + 2,t2 + 4,rfl,by omega,by rw [hsu,slC_ne (by simp)]; simp,by rw [hsu,tlC_ne (by simp),scs_snoc]⟩
    ·simp [-List.mapM_map,Env.put,Env.of,argEnv,Srn_eq,rnObs_cons,rnObs_nil,rnOb_arr,rnOb_map,rn_loc,rn_ref,rn_mp,rn_int,rn_bool,rn_str,rn_ip,rn_sl,rn_nils,rn_nilp,rn_undef,rn_agg,rn_tup,rn_fn,rfq_loc,rfq_int,rfq_bool,rfq_str,rfq_sl,frOf,List.range_succ,List.mapM_append,List.mapM_cons]
    ·simp [-List.mapM_map,Env.put,Env.of,argEnv,Srn_eq,rnObs_cons,rnObs_nil,rnOb_arr,rnOb_map,rn_loc,rn_ref,rn_mp,rn_int,rn_bool,rn_str,rn_ip,rn_sl,rn_nils,rn_nilp,rn_undef,rn_agg,rn_tup,rn_fn,rfq_loc,rfq_int,rfq_bool,rfq_str,rfq_sl,frOf,List.range_succ,List.mapM_append,List.mapM_cons,rn_scs]
   ·try simp only [RL] at h1
    have h1 : ¬ x.2 < q.2 := by simpa using h1
    rw [if_neg h1] at hsu
    refine W.skip ?_
    refine XbN ?_
    refine xn ?_
    refine W.k fun K hK => ?_
    simp (disch := omega) only [↓RU,RV,RH,↓reduceIte,reduceEqDiff,reduceCtorEq,if_pos,w64,↓RS,RG,reduceAdd,reduceMul,reduceLeDiff,tyint]
    refine hK _ _ ?_;clear hK K
    refine xn ?_
    refine ⟨l.length - (i + 1),by omega,2,[],[.loc 1 v 0 o.length,.loc 0 ver2 0 l.length,.int .i64 l.length,.int .i64 ((i + 1 : Nat) : Int)],⟨[.arr ver2 142 2 (scs z),.arr v 142 2 (scs o)],t2 + 2⟩,?_,?_,i + 1,ver2,v,t2 + 2,rfl,by omega,by rw [hsu,slC_ne hne],by rw [hsu,tlC_ne hne]⟩
    ·simp [-List.mapM_map,Env.put,Env.of,argEnv,Srn_eq,rnObs_cons,rnObs_nil,rnOb_arr,rnOb_map,rn_loc,rn_ref,rn_mp,rn_int,rn_bool,rn_str,rn_ip,rn_sl,rn_nils,rn_nilp,rn_undef,rn_agg,rn_tup,rn_fn,rfq_loc,rfq_int,rfq_bool,rfq_str,rfq_sl,frOf,List.range_succ,List.mapM_append,List.mapM_cons]
    ·simp [-List.mapM_map,Env.put,Env.of,argEnv,Srn_eq,rnObs_cons,rnObs_nil,rnOb_arr,rnOb_map,rn_loc,rn_ref,rn_mp,rn_int,rn_bool,rn_str,rn_ip,rn_sl,rn_nils,rn_nilp,rn_undef,rn_agg,rn_tup,rn_fn,rfq_loc,rfq_int,rfq_bool,rfq_str,rfq_sl,frOf,List.range_succ,List.mapM_append,List.mapM_cons,rn_scs]
 ·try simp only [RL] at h
  obtain rfl : i = l.length := by omega
  refine W.exit ?_
  refine xe ?_
  refine xe ?_
  refine XBlock.hit ?_
  refine xn ?_
  refine W.r fun K hK => ?_
  simp (disch := omega) only [↓RU,RV,RH,↓reduceIte,reduceEqDiff,reduceCtorEq,if_pos,↓RS,RG,reduceAdd,reduceMul,reduceLeDiff]
  refine hK _ _ ?_;clear hK K
  refine W.ret ?_
  refine Br rfl ?_
  have hne := bsF_ne (z := z) (show l.length ≠ 0 by omega) (by omega)
  rw [List.take_of_length_le (by omega)] at hne ⊢
  rw [slC_ne hne,tlC_ne hne]
  exact ⟨2,z,_,_,_,hzp,hzs,rfl,rfl⟩
theorem rowsOf_succ {l : List Shp} {i : Nat} {x : Shp} (h : l[i]? = some x) : rowsOf (l.take (i + 1)) = rowsOf (l.take i) ++ [[x.1,x.2]] := by rw [tk h,rowsOf_app,rowsOf_one]
theorem rfq_scs {S : Store} {fr : Nat → Bool} {f : Nat} (l : List Shp) : (scs l).mapM (rfq S fr (f + 1)) = some (scs l) := by
 have h := scal_scs l
 rw [List.all_eq_true] at h
 exact mapM_same fun x hx => by have := h x hx; cases x <;> simp [scal] at this <;> rfl
theorem listed0_pc  : PC Tryz.prog 91 [.sl [] 0] (.sl [] 0) true := by
 refine PC.of ⟨Tryz.func91,by kernel_rfl,rfl,by kernel_rfl⟩ tabOk mixed (by show 1 ≤ Tryz.f91.ntmps; decide) ?_
 refine W.r fun K hK => ?_
 simp (disch := omega) only [↓RU,RV,RH,↓reduceIte,reduceEqDiff,reduceCtorEq,if_pos,↓RS,RG,reduceAdd,reduceMul,reduceLeDiff]
 refine hK _ _ ?_;clear hK K
 refine W.r fun K hK => ?_
 simp (disch := omega) only [↓RU,RV,RH,↓reduceIte,reduceEqDiff,reduceCtorEq,if_pos,↓RS,RG,reduceAdd,reduceMul,reduceLeDiff]
 refine hK _ _ ?_;clear hK K
 refine W.seq ?_
 refine W.r fun K hK => ?_
 simp (disch := omega) only [↓RU,RV,RH,↓reduceIte,reduceEqDiff,reduceCtorEq,if_pos,↓RS,RG,reduceAdd,reduceMul,reduceLeDiff,ty4,ty16,tyint,ty27]
 refine hK _ _ ?_;clear hK K
 refine W.block ?_
 refine W.loop [3,6,7,8] (fun n vs S => n = 0 ∧ vs = [.nils,.sl [] 0,.int .i64 0,.int .i64 0] ∧ S = ⟨[],0⟩) 0 ?_ ?_
 ·refine ⟨_,rfl,?_,take_all⟩
  simp [Env.put,Env.of,argEnv]
 rintro n vs S - ⟨rfl,rfl,rfl⟩
 refine W.r fun K hK => ?_
 simp (disch := omega) only [↓RU,RV,RH,↓reduceIte,reduceEqDiff,reduceCtorEq,if_pos,w64,↓RS,RG,reduceAdd,reduceMul,reduceLeDiff,tyint]
 refine hK _ _ ?_;clear hK K
 refine W.seq ?_
 refine W.cond rfl (fun h => ?_) (fun h => ?_)
 ·try simp only [RL] at h
  exact absurd h (by decide)
 ·try simp only [RL] at h
  refine W.exit ?_
  refine xe ?_
  refine xe ?_
  refine XBlock.hit ?_
  refine xn ?_
  refine W.r fun K hK => ?_
  simp (disch := omega) only [↓RU,RV,RH,↓reduceIte,reduceEqDiff,reduceCtorEq,if_pos,↓RS,RG,reduceAdd,reduceMul,reduceLeDiff]
  refine hK _ _ ?_;clear hK K
  refine W.ret ?_
  refine Br rfl ?_
  rfl
theorem listed_ev {l : List Shp} (hl : l.length ≤ 1048576) {o0 : Ob} {ver t : Nat} : Ev Tryz.prog 91 [.loc 1 ver 0 l.length] ⟨[o0,.arr ver 142 2 (scs l)],t⟩ fun v S => ∃ v2 t2 : Nat,v = slR (rowsOf l) v2 ∧ S = stR (rowsOf l) v2 t2 := by
 refine Ev.of ⟨Tryz.func91,by kernel_rfl,rfl,by kernel_rfl⟩ tabOk mixed (by show 1 ≤ Tryz.f91.ntmps; decide) ?_
 refine W.r fun K hK => ?_
 simp (disch := omega) only [↓RU,RV,RH,↓reduceIte,reduceEqDiff,reduceCtorEq,if_pos,↓RS,RG,reduceAdd,reduceMul,reduceLeDiff]
 refine hK _ _ ?_;clear hK K
 refine W.r fun K hK => ?_
 simp (disch := omega) only [↓RU,RV,RH,↓reduceIte,reduceEqDiff,reduceCtorEq,if_pos,↓RS,RG,reduceAdd,reduceMul,reduceLeDiff]
 refine hK _ _ ?_;clear hK K
 refine W.seq ?_
 refine W.r fun K hK => ?_
 simp (disch := omega) only [↓RU,RV,RH,↓reduceIte,reduceEqDiff,reduceCtorEq,if_pos,↓RS,RG,reduceAdd,reduceMul,reduceLeDiff,ty4,ty16,tyint,ty27]
 refine hK _ _ ?_;clear hK K
 refine W.block ?_
 refine W.loopS [3,6,7,8] (fun n vs S => ∃ (i v t : Nat),n = l.length - i ∧ i ≤ l.length ∧ vs = [slR (rowsOf (l.take i)) v,eShl l,.int .i64 l.length,.int .i64 i] ∧ S = stR (rowsOf (l.take i)) v t) l.length ?_ ?_
 ·refine ⟨0,[],[.nils,eShl l,.int .i64 l.length,.int .i64 (0 : Nat)],⟨[],t + 1⟩,?_,?_,0,0,t + 1,rfl,Nat.zero_le _,rfl,rfl⟩
  ·simp [-List.mapM_map,Env.put,Env.of,argEnv,Srn_eq,rnObs_cons,rnObs_nil,rnOb_arr,rnOb_map,rn_loc,rn_ref,rn_mp,rn_int,rn_bool,rn_str,rn_ip,rn_sl,rn_nils,rn_nilp,rn_undef,rn_agg,rn_tup,rn_fn,rfq_loc,rfq_int,rfq_bool,rfq_str,rfq_sl,frOf,List.range_succ,List.mapM_append,List.mapM_cons,rfq_scs,scs_len,scs_tk]
  ·simp [-List.mapM_map,Env.put,Env.of,argEnv,Srn_eq,rnObs_cons,rnObs_nil,rnOb_arr,rnOb_map,rn_loc,rn_ref,rn_mp,rn_int,rn_bool,rn_str,rn_ip,rn_sl,rn_nils,rn_nilp,rn_undef,rn_agg,rn_tup,rn_fn,rfq_loc,rfq_int,rfq_bool,rfq_str,rfq_sl,frOf,List.range_succ,List.mapM_append,List.mapM_cons]
 rintro n vs S - ⟨i,v,t,rfl,h_i,rfl,rfl⟩
 refine W.r fun K hK => ?_
 simp (disch := omega) only [↓RU,RV,RH,↓reduceIte,reduceEqDiff,reduceCtorEq,if_pos,w64,↓RS,RG,reduceAdd,reduceMul,reduceLeDiff,tyint]
 refine hK _ _ ?_;clear hK K
 refine W.seq ?_
 refine W.cond rfl (fun h1 => ?_) (fun h1 => ?_)
 ·try simp only [RL] at h1
  obtain ⟨x,hx,-⟩ := get_of (show i < l.length by omega)
  have hrl : (rowsOf (l.take i)).length = i := by rw [rowsOf_len,List.length_take]; omega
  have hrs := rowsOf_succ hx
  have hpx : ((scs l).drop (i * 2)).take 2 = [.int .i64 x.1,.int .i64 x.2] := scs_at hx
  refine W.skip ?_
  refine xn ?_
  refine W.seq ?_
  refine W.block ?_
  refine W.r fun K hK => ?_
  by_cases hi0 : i = 0
  ·skip
   subst hi0
   have hr0 : rowsOf (l.take 0) = [] := rfl
   rw [hr0,slR_nil,stR_nil]
   have hpx : (scs l).take 2 = [.int .i64 x.1,.int .i64 x.2] := by simpa using hpx
   simp (disch := omega) only [↓RU,RV,RH,↓reduceIte,reduceEqDiff,reduceCtorEq,if_pos,↓RS,RG,reduceAdd,reduceMul,reduceLeDiff,ty4,ty16,tyint,ty27,hpx,scs_len]
   refine hK _ _ ?_;clear hK K
   refine W.k fun K hK => ?_
   simp (disch := omega) only [↓RU,RV,RH,↓reduceIte,reduceEqDiff,reduceCtorEq,if_pos,↓RS,RG,reduceAdd,reduceMul,reduceLeDiff,ty1,tyLint,ty16,tyint,ty27,hrl,List.length_append,List.map_append,List.map_cons,List.map_nil]
   refine hK _ _ ?_;clear hK K
   refine XbN ?_
   refine xn ?_
   refine W.k fun K hK => ?_
   simp (disch := omega) only [↓RU,RV,RH,↓reduceIte,reduceEqDiff,reduceCtorEq,if_pos,w64,↓RS,RG,reduceAdd,reduceMul,reduceLeDiff,tyint]
   refine hK _ _ ?_;clear hK K
   refine xn ?_
   rw [hr0,List.nil_append] at hrs
   refine ⟨l.length - (0 + 1),by omega,0,[3],[.loc 0 (t + 4) 0 1,eShl l,.int .i64 l.length,.int .i64 ((0 + 1 : Nat) : Int)],⟨[.arr (t + 4) 24 1 [eInts [x.1,x.2]]],t + 5⟩,?_,?_,1,t + 4,t + 5,rfl,by omega,by rw [hrs]; rfl,by rw [hrs]; rfl⟩
   ·simp [-List.mapM_map,Env.put,Env.of,argEnv,Srn_eq,rnObs_cons,rnObs_nil,rnOb_arr,rnOb_map,rn_loc,rn_ref,rn_mp,rn_int,rn_bool,rn_str,rn_ip,rn_sl,rn_nils,rn_nilp,rn_undef,rn_agg,rn_tup,rn_fn,rfq_loc,rfq_int,rfq_bool,rfq_str,rfq_sl,frOf,List.range_succ,List.mapM_append,List.mapM_cons]
   ·simp [-List.mapM_map,Env.put,Env.of,argEnv,Srn_eq,rnObs_cons,rnObs_nil,rnOb_arr,rnOb_map,rn_loc,rn_ref,rn_mp,rn_int,rn_bool,rn_str,rn_ip,rn_sl,rn_nils,rn_nilp,rn_undef,rn_agg,rn_tup,rn_fn,rfq_loc,rfq_int,rfq_bool,rfq_str,rfq_sl,frOf,List.range_succ,List.mapM_append,List.mapM_cons,rn_eIntss]
  ·skip
   have hne : rowsOf (l.take i) ≠ [] := fun e => hi0 (by rw [e] at hrl; simpa using hrl.symm)
   rw [slR_ne hne,stR_ne hne,hrl]
   simp (disch := omega) only [↓RU,RV,RH,↓reduceIte,reduceEqDiff,reduceCtorEq,if_pos,↓RS,RG,reduceAdd,reduceMul,reduceLeDiff,ty4,ty16,tyint,ty27,hpx,scs_len]
   refine hK _ _ ?_;clear hK K
   refine W.k fun K hK => ?_
   simp (disch := omega) only [↓RU,RV,RH,↓reduceIte,reduceEqDiff,reduceCtorEq,if_pos,↓RS,RG,reduceAdd,reduceMul,reduceLeDiff,ty1,tyLint,ty16,tyint,ty27,hrl,List.length_append,List.map_append,List.map_cons,List.map_nil]
   refine hK _ _ ?_;clear hK K
   refine XbN ?_
   refine xn ?_
   refine W.k fun K hK => ?_
   simp (disch := omega) only [↓RU,RV,RH,↓reduceIte,reduceEqDiff,reduceCtorEq,if_pos,w64,↓RS,RG,reduceAdd,reduceMul,reduceLeDiff,tyint]
   refine hK _ _ ?_;clear hK K
   refine xn ?_
   have hne2 : rowsOf (l.take (i + 1)) ≠ [] := by rw [hrs]; simp
   refine ⟨l.length - (i + 1),by omega,1,[],[.loc 0 (t + 3) 0 (i + 1),eShl l,.int .i64 l.length,.int .i64 ((i + 1 : Nat) : Int)],⟨[.arr (t + 3) 24 1 ((rowsOf (l.take i)).map eInts ++ [eInts [x.1,x.2]])],t + 5⟩,?_,?_,i + 1,t + 3,t + 5,rfl,by omega,by rw [slR_ne hne2,hrs]; simp [hrl],by rw [stR_ne hne2,hrs]; simp⟩
   ·simp [-List.mapM_map,Env.put,Env.of,argEnv,Srn_eq,rnObs_cons,rnObs_nil,rnOb_arr,rnOb_map,rn_loc,rn_ref,rn_mp,rn_int,rn_bool,rn_str,rn_ip,rn_sl,rn_nils,rn_nilp,rn_undef,rn_agg,rn_tup,rn_fn,rfq_loc,rfq_int,rfq_bool,rfq_str,rfq_sl,frOf,List.range_succ,List.mapM_append,List.mapM_cons]
   ·simp [-List.mapM_map,Env.put,Env.of,argEnv,Srn_eq,rnObs_cons,rnObs_nil,rnOb_arr,rnOb_map,rn_loc,rn_ref,rn_mp,rn_int,rn_bool,rn_str,rn_ip,rn_sl,rn_nils,rn_nilp,rn_undef,rn_agg,rn_tup,rn_fn,rfq_loc,rfq_int,rfq_bool,rfq_str,rfq_sl,frOf,List.range_succ,List.mapM_append,List.mapM_cons,rn_eIntss]
 ·try simp only [RL] at h1
  obtain rfl : i = l.length := by omega
  refine W.exit ?_
  refine xe ?_
  refine xe ?_
  refine XBlock.hit ?_
  refine xn ?_
  refine W.r fun K hK => ?_
  simp (disch := omega) only [↓RU,RV,RH,↓reduceIte,reduceEqDiff,reduceCtorEq,if_pos,↓RS,RG,reduceAdd,reduceMul,reduceLeDiff]
  refine hK _ _ ?_;clear hK K
  refine W.ret ?_
  refine Br rfl ?_
  rw [List.take_length]
  exact ⟨_,_,_,rfl,take_all⟩
theorem tried_ev {p : List Txt} (hs : Sm p) {ws ht : List Int} (hw : ws.length ≤ 1048576) (hh : ht.length ≤ 1048576) (hv : givenI p ws ht = true) : Ev Tryz.prog 90 [eStrs p,eInts ws,eInts ht] ⟨[],0⟩ fun v S => ∃ (o0 : Ob) (v1 t1 : Nat),v = .tup [.loc 1 v1 0 (shL (leftG (gP p) p.length (w0 (readG p)) (rP p).length) (aboveG (gP p) p.length (w0 (readG p)) (rP p).length) (rP p).length ws ht (2 ^ (rP p).length)).length,.bool true] ∧ S = ⟨[o0,.arr v1 142 2 (scs (shL (leftG (gP p) p.length (w0 (readG p)) (rP p).length) (aboveG (gP p) p.length (w0 (readG p)) (rP p).length) (rP p).length ws ht (2 ^ (rP p).length)))],t1⟩ := by
 obtain ⟨hv1,hv2,hn8⟩ := givenI_ok hv
 obtain ⟨hpl,hwl,hwok⟩ := needV_one hv1
 obtain ⟨-,hhl,hhok⟩ := needV_one hv2
 have hok := (plain_okB hpl).1
 have hg := okB_gw hok
 have hn9 := okB_rooms hok
 have hn1 := okB_rooms1 hok
 obtain ⟨hrm,⟨rk,hu⟩,⟨rk2,hu2⟩⟩ := plan_all hpl
 generalize hMe : (leftG (gP p) p.length (w0 (readG p)) (rP p).length) = M at hu ⊢
 generalize hAe : (aboveG (gP p) p.length (w0 (readG p)) (rP p).length) = A at hu2 ⊢
 obtain ⟨nr,hnr⟩ : ∃ nr : Nat,(rP p).length = nr := ⟨_,rfl⟩
 rw [hnr] at hwl hhl hn8 hn9 hn1 hu hu2
 have hp8 := pow8 hn8
 obtain ⟨N,hN⟩ : ∃ N : Nat,2 ^ nr = N := ⟨_,rfl⟩
 have hsh := w_shl (b := nr) (by omega)
 rw [hN] at hp8 hsh
 refine Ev.of ⟨Tryz.func90,by kernel_rfl,rfl,by kernel_rfl⟩ tabOk mixed (by show 3 ≤ Tryz.f90.ntmps; decide) ?_
 refine W.r fun K hK => ?_
 simp (disch := omega) only [↓RU,RV,RH,↓reduceIte,reduceEqDiff,reduceCtorEq,if_pos,↓RS,RG,reduceAdd,reduceMul,reduceLeDiff]
 refine hK _ _ ?_;clear hK K
 refine W.r fun K hK => ?_
 simp (disch := omega) only [↓RU,RV,RH,↓reduceIte,reduceEqDiff,reduceCtorEq,if_pos,List.append_nil,↓RS,RG,reduceAdd,reduceMul,reduceLeDiff,hv]
 refine CallR.ev (shaping_ev hs hw hh) ?_
 rintro _ _ ⟨x,rfl,hx,rfl⟩
 simp (disch := omega) only [↓RU,RV,RH,↓reduceIte,reduceEqDiff,reduceCtorEq,if_pos,List.append_nil,↓RS,RG,reduceAdd,reduceMul,reduceLeDiff,hv]
 refine hK _ _ ?_;clear hK K
 refine W.seq ?_
 refine W.r fun K hK => ?_
 simp (disch := omega) only [↓RU,RV,RH,↓reduceIte,reduceEqDiff,reduceCtorEq,if_pos,↓RS,RG,reduceAdd,reduceMul,reduceLeDiff]
 refine hK _ _ ?_;clear hK K
 refine W.cond rfl (fun h => ?_) (fun h => ?_)
 ·try simp only [RL] at h
  exact absurd h (by simp)
 ·try simp only [RL] at h
  obtain rfl := hx hv
  refine W.skip ?_
  refine xn ?_
  refine W.r fun K hK => ?_
  simp (disch := omega) only [↓RU,RV,RH,↓reduceIte,reduceEqDiff,reduceCtorEq,if_pos,List.append_nil,↓RS,RG,reduceAdd,reduceMul,reduceLeDiff,ty0,ty2,tybool,ty13,ty15,ty24,hMe,hAe]
  refine CallR.pc (orders_pc hg rfl (by omega) hrm) rfl (.inl rfl) ?_
  simp (disch := omega) only [↓RU,RV,RH,↓reduceIte,reduceEqDiff,reduceCtorEq,if_pos,List.append_nil,↓RS,RG,reduceAdd,reduceMul,reduceLeDiff,ty0,ty2,tybool,ty13,ty15,ty24,hMe,hAe]
  refine hK _ _ ?_;clear hK K
  refine W.r fun K hK => ?_
  simp (disch := omega) only [↓RU,RV,RH,↓reduceIte,reduceEqDiff,reduceCtorEq,if_pos,↓RS,RG,reduceAdd,reduceMul,reduceLeDiff]
  refine hK _ _ ?_;clear hK K
  refine W.seq ?_
  refine W.r fun K hK => ?_
  simp (disch := omega) only [↓RU,RV,RH,↓reduceIte,reduceEqDiff,reduceCtorEq,if_pos,w64,↓RS,RG,reduceAdd,reduceMul,reduceLeDiff,ty1,ty3,tyLint,ty11,ty12,ty14,tyint,ty23,ty26,rcs_len,hnr,pShl,hsh]
  refine hK _ _ ?_;clear hK K
  refine W.block ?_
  refine W.loopS [1,2,10,11,32,33] (fun n vs S => ∃ k vo v t : Nat,n = N - k ∧ k ≤ N ∧ vs = [eInts ws,eInts ht,.ref 0 vo 0,slC 1 (shL M A nr ws ht k) v,.int .i64 N,.int .i64 k] ∧ S = ⟨.arr vo 62 2 [eRel M,eRel A] :: tlC (shL M A nr ws ht k) v,t⟩) N ?_ ?_
  ·refine ⟨0,[1],[eInts ws,eInts ht,.ref 0 2 0,.nils,.int .i64 N,.int .i64 (0 : Nat)],⟨[.arr 2 62 2 [eRel M,eRel A]],3⟩,?_,?_,0,2,0,3,rfl,by omega,rfl,rfl⟩
   ·simp [-List.mapM_map,Env.put,Env.of,argEnv,Srn_eq,rnObs_cons,rnObs_nil,rnOb_arr,rnOb_map,rn_loc,rn_ref,rn_mp,rn_int,rn_bool,rn_str,rn_ip,rn_sl,rn_nils,rn_nilp,rn_undef,rn_agg,rn_tup,rn_fn,rfq_loc,rfq_int,rfq_bool,rfq_str,rfq_sl,frOf,List.range_succ,List.mapM_append,List.mapM_cons]
   ·simp [-List.mapM_map,Env.put,Env.of,argEnv,Srn_eq,rnObs_cons,rnObs_nil,rnOb_arr,rnOb_map,rn_loc,rn_ref,rn_mp,rn_int,rn_bool,rn_str,rn_ip,rn_sl,rn_nils,rn_nilp,rn_undef,rn_agg,rn_tup,rn_fn,rfq_loc,rfq_int,rfq_bool,rfq_str,rfq_sl,frOf,List.range_succ,List.mapM_append,List.mapM_cons]
  rintro n vs S - ⟨k,vo,v,t,rfl,h_k,rfl,rfl⟩
  refine W.r fun K hK => ?_
  simp (disch := omega) only [↓RU,RV,RH,↓reduceIte,reduceEqDiff,reduceCtorEq,if_pos,w64,↓RS,RG,reduceAdd,reduceMul,reduceLeDiff,tyint]
  refine hK _ _ ?_;clear hK K
  refine W.seq ?_
  refine W.cond rfl (fun h1 => ?_) (fun h1 => ?_)
  ·try simp only [RL] at h1
   refine W.skip ?_
   refine xn ?_
   refine W.seq ?_
   refine W.block ?_
   refine W.r fun K hK => ?_
   simp (disch := omega) only [↓RU,RV,RH,↓reduceIte,reduceEqDiff,reduceCtorEq,if_pos,↓RS,RG,reduceAdd,reduceMul,reduceLeDiff]
   refine hK _ _ ?_;clear hK K
   refine W.joinS [1,2,10,11,32,33,12,13,14] (fun vs S => ∃ v t : Nat,vs = [eInts ws,eInts ht,.ref 2 v 0,slC 3 (shL M A nr ws ht k) v,.int .i64 N,.int .i64 k,.int .i64 k,.loc 0 v 0 nr,.loc 1 v 0 nr] ∧ S = ⟨.arr v 3 1 (ws.map (.int .i64)) :: .arr v 3 1 (ht.map (.int .i64)) :: .arr v 62 2 [eRel M,eRel A] :: tlC (shL M A nr ws ht k) v,t⟩) ?_ ?_
   ·
    refine W.k fun K hK => ?_
    by_cases hk : k = 0
    ·skip
     have hk0 : shL M A nr ws ht k = [] := by subst hk; rfl
     simp only [hk0,slC_nil,tlC_nil]
     simp (disch := omega) only [↓RU,RV,RH,↓reduceIte,reduceEqDiff,reduceCtorEq,if_pos,List.append_nil,↓RS,RG,reduceAdd,reduceMul,reduceLeDiff]
     refine CallR.pn (clone_pn (l := ws) (by omega) (by omega)) rfl (.inl rfl) ?_
     simp (disch := omega) only [↓RU,RV,RH,↓reduceIte,reduceEqDiff,reduceCtorEq,if_pos,List.append_nil,↓RS,RG,reduceAdd,reduceMul,reduceLeDiff,RN]
     refine CallR.pn (clone_pn (l := ht) (by omega) (by omega)) rfl (.inl rfl) ?_
     simp (disch := omega) only [↓RU,RV,RH,↓reduceIte,reduceEqDiff,reduceCtorEq,if_pos,List.append_nil,↓RS,RG,reduceAdd,reduceMul,reduceLeDiff,RN]
     refine hK _ _ ?_;clear hK K
     refine xn ?_
     refine ⟨0,[1,2,0],[eInts ws,eInts ht,.ref 2 (t + 2) 0,slC 3 (shL M A nr ws ht k) (t + 2),.int .i64 N,.int .i64 k,.int .i64 k,.loc 0 (t + 2) 0 nr,.loc 1 (t + 2) 0 nr],⟨.arr (t + 2) 3 1 (ws.map (.int .i64)) :: .arr (t + 2) 3 1 (ht.map (.int .i64)) :: .arr (t + 2) 62 2 [eRel M,eRel A] :: tlC (shL M A nr ws ht k) (t + 2),t + 3⟩,?_,?_,t + 2,t + 3,rfl,rfl⟩
     ·rw [hk0,slC_nil]; simp [-List.mapM_map,Env.put,Env.of,argEnv,Srn_eq,rnObs_cons,rnObs_nil,rnOb_arr,rnOb_map,rn_loc,rn_ref,rn_mp,rn_int,rn_bool,rn_str,rn_ip,rn_sl,rn_nils,rn_nilp,rn_undef,rn_agg,rn_tup,rn_fn,rfq_loc,rfq_int,rfq_bool,rfq_str,rfq_sl,frOf,List.range_succ,List.mapM_append,List.mapM_cons,hwl,hhl] <;> decide
     ·rw [hk0,tlC_nil]; simp [-List.mapM_map,Env.put,Env.of,argEnv,Srn_eq,rnObs_cons,rnObs_nil,rnOb_arr,rnOb_map,rn_loc,rn_ref,rn_mp,rn_int,rn_bool,rn_str,rn_ip,rn_sl,rn_nils,rn_nilp,rn_undef,rn_agg,rn_tup,rn_fn,rfq_loc,rfq_int,rfq_bool,rfq_str,rfq_sl,frOf,List.range_succ,List.mapM_append,List.mapM_cons,rn_ints]
    ·skip
     simp only [slC_ne (shL_ne hk),tlC_ne (shL_ne hk)]
     simp (disch := omega) only [↓RU,RV,RH,↓reduceIte,reduceEqDiff,reduceCtorEq,if_pos,List.append_nil,↓RS,RG,reduceAdd,reduceMul,reduceLeDiff]
     refine CallR.pn (clone_pn (l := ws) (by omega) (by omega)) rfl (.inl rfl) ?_
     simp (disch := omega) only [↓RU,RV,RH,↓reduceIte,reduceEqDiff,reduceCtorEq,if_pos,List.append_nil,↓RS,RG,reduceAdd,reduceMul,reduceLeDiff,RN]
     refine CallR.pn (clone_pn (l := ht) (by omega) (by omega)) rfl (.inl rfl) ?_
     simp (disch := omega) only [↓RU,RV,RH,↓reduceIte,reduceEqDiff,reduceCtorEq,if_pos,List.append_nil,↓RS,RG,reduceAdd,reduceMul,reduceLeDiff,RN]
     refine hK _ _ ?_;clear hK K
     refine xn ?_
     refine ⟨0,[2,3,0,1],[eInts ws,eInts ht,.ref 2 (t + 2) 0,slC 3 (shL M A nr ws ht k) (t + 2),.int .i64 N,.int .i64 k,.int .i64 k,.loc 0 (t + 2) 0 nr,.loc 1 (t + 2) 0 nr],⟨.arr (t + 2) 3 1 (ws.map (.int .i64)) :: .arr (t + 2) 3 1 (ht.map (.int .i64)) :: .arr (t + 2) 62 2 [eRel M,eRel A] :: tlC (shL M A nr ws ht k) (t + 2),t + 3⟩,?_,?_,t + 2,t + 3,rfl,rfl⟩
     ·rw [slC_ne (shL_ne hk)]; simp [-List.mapM_map,Env.put,Env.of,argEnv,Srn_eq,rnObs_cons,rnObs_nil,rnOb_arr,rnOb_map,rn_loc,rn_ref,rn_mp,rn_int,rn_bool,rn_str,rn_ip,rn_sl,rn_nils,rn_nilp,rn_undef,rn_agg,rn_tup,rn_fn,rfq_loc,rfq_int,rfq_bool,rfq_str,rfq_sl,frOf,List.range_succ,List.mapM_append,List.mapM_cons,hwl,hhl] <;> decide
     ·rw [tlC_ne (shL_ne hk)]; simp [-List.mapM_map,Env.put,Env.of,argEnv,Srn_eq,rnObs_cons,rnObs_nil,rnOb_arr,rnOb_map,rn_loc,rn_ref,rn_mp,rn_int,rn_bool,rn_str,rn_ip,rn_sl,rn_nils,rn_nilp,rn_undef,rn_agg,rn_tup,rn_fn,rfq_loc,rfq_int,rfq_bool,rfq_str,rfq_sl,frOf,List.range_succ,List.mapM_append,List.mapM_cons,rn_ints,rn_scs]
   rintro vs S - ⟨v2,t2,rfl,rfl⟩
   refine W.seq ?_
   refine W.r fun K hK => ?_
   simp (disch := omega) only [↓RU,RV,RH,↓reduceIte,reduceEqDiff,reduceCtorEq,if_pos,↓RS,RG,reduceAdd,reduceMul,reduceLeDiff,tyLint,tyint,hwl]
   refine hK _ _ ?_;clear hK K
   refine W.block ?_
   refine W.loop [1,2,10,11,32,33,12,13,14,41,42] (fun n vs S => ∃ i t : Nat,n = nr - i ∧ i ≤ nr ∧ vs = [eInts ws,eInts ht,.ref 2 v2 0,slC 3 (shL M A nr ws ht k) v2,.int .i64 N,.int .i64 k,.int .i64 k,.loc 0 v2 0 nr,.loc 1 v2 0 nr,.int .i64 nr,.int .i64 i] ∧ S = ⟨.arr v2 3 1 (((swp ws ht k).take i ++ ws.drop i).map (.int .i64)) :: .arr v2 3 1 (((swp ht ws k).take i ++ ht.drop i).map (.int .i64)) :: .arr v2 62 2 [eRel M,eRel A] :: tlC (shL M A nr ws ht k) v2,t⟩) nr ?_ ?_
   ·refine ⟨_,0,t2,rfl,by omega,?_,take_all_of (by simp)⟩
    simp [Env.put,Env.of]
   rintro n vs S - ⟨i,t3,rfl,h_i,rfl,rfl⟩
   refine W.r fun K hK => ?_
   simp (disch := omega) only [↓RU,RV,RH,↓reduceIte,reduceEqDiff,reduceCtorEq,if_pos,w64,↓RS,RG,reduceAdd,reduceMul,reduceLeDiff,tyint]
   refine hK _ _ ?_;clear hK K
   refine W.seq ?_
   refine W.cond rfl (fun h2 => ?_) (fun h2 => ?_)
   ·try simp only [RL] at h2
    obtain ⟨x,hx,-⟩ := get_of (show i < ws.length by omega)
    obtain ⟨y,hy,-⟩ := get_of (show i < ht.length by omega)
    have hs1 := swp_at (set := k) hx hy
    have hs2 := swp_at (set := k) hy hx
    have hl1 : (swp ws ht k).length = ws.length := swp_len
    have hl2 : (swp ht ws k).length = ht.length := swp_len
    have hm1 := mix_at (i := i) hl1
    have hm2 := mix_at (i := i) hl2
    rw [hx] at hm1
    rw [hy] at hm2
    have hn1a := mix_len (i := i) hl1
    have hn2a := mix_len (i := i) hl2
    refine W.skip ?_
    refine xn ?_
    refine W.seq ?_
    refine W.block ?_
    refine W.r fun K hK => ?_
    simp (disch := omega) only [↓RU,RV,RH,↓reduceIte,reduceEqDiff,reduceCtorEq,if_pos,↓RS,RG,reduceAdd,reduceMul,reduceLeDiff]
    refine hK _ _ ?_;clear hK K
    refine W.r fun K hK => ?_
    simp (disch := omega) only [↓RU,RV,RH,↓reduceIte,reduceEqDiff,reduceCtorEq,if_pos,w64,↓RS,RG,reduceAdd,reduceMul,reduceLeDiff,tyint,pShr,w_bit]
    refine hK _ _ ?_;clear hK K
    refine W.cond rfl (fun h3 => ?_) (fun h3 => ?_)
    ·try simp only [RL] at h3
     rw [h3] at hs1 hs2
     simp only [if_true] at hs1 hs2
     refine W.draw_k (by kernel_rfl) fun K hK => ?_
     simp (disch := omega) only [↓RU,RV,RH,↓reduceIte,reduceEqDiff,reduceCtorEq,if_pos,↓RS,RG,reduceAdd,reduceMul,reduceLeDiff,tyLint,tyint,hm1,hm2,hn1a,hn2a,set_spl,set_int]
     refine hK _ _ ?_;clear hK K
     refine XbN ?_
     refine xn ?_
     refine W.k fun K hK => ?_
     simp (disch := omega) only [↓RU,RV,RH,↓reduceIte,reduceEqDiff,reduceCtorEq,if_pos,w64,↓RS,RG,reduceAdd,reduceMul,reduceLeDiff,tyint]
     refine hK _ _ ?_;clear hK K
     refine xn ?_
     refine ⟨nr - (i + 1),by omega,_,i + 1,t3,rfl,by omega,?_,take_all_of (by rw [mix_succ hs1 hl1,mix_succ hs2 hl2])⟩
     simp [Env.put,Env.of]
    ·try simp only [RL] at h3
     rw [h3] at hs1 hs2
     simp only [Bool.false_eq_true,if_false] at hs1 hs2
     refine W.skip ?_
     refine XbN ?_
     refine xn ?_
     refine W.k fun K hK => ?_
     simp (disch := omega) only [↓RU,RV,RH,↓reduceIte,reduceEqDiff,reduceCtorEq,if_pos,w64,↓RS,RG,reduceAdd,reduceMul,reduceLeDiff,tyint]
     refine hK _ _ ?_;clear hK K
     refine xn ?_
     refine ⟨nr - (i + 1),by omega,_,i + 1,t3,rfl,by omega,?_,take_all_of (by rw [← mix_same hs1 hx,← mix_same hs2 hy])⟩
     simp [Env.put,Env.of]
   ·try simp only [RL] at h2
    obtain rfl : i = nr := by omega
    rw [List.take_of_length_le (by rw [swp_len]; omega),List.drop_of_length_le (by omega),List.append_nil,List.take_of_length_le (by rw [swp_len]; omega),List.drop_of_length_le (by omega),List.append_nil]
    have hok1 := swp_ok (set := k) hwok hhok (by omega)
    have hok2 := swp_ok (set := k) hhok hwok (by omega)
    have hl1 : (swp ws ht k).length = i := by rw [swp_len]; omega
    have hl2 : (swp ht ws k).length = i := by rw [swp_len]; omega
    have hh1 := heaviest_len (M := M) (ws := swp ws ht k) (n := i)
    have hh2 := heaviest_len (M := A) (ws := swp ht ws k) (n := i)
    obtain ⟨y1,hy1,-⟩ := get_of (show 0 < (heaviest M (swp ws ht k) i).length by omega)
    obtain ⟨y2,hy2,-⟩ := get_of (show 0 < (heaviest A (swp ht ws k) i).length by omega)
    have hSl := shL_len (L := M) (A := A) (n := i) (ws := ws) (ht := ht) (k := k)
    have hcl := scs_len (shL M A i ws ht k)
    have hct : (scs (shL M A i ws ht k)).take (k * 2) = scs (shL M A i ws ht k) := List.take_of_length_le (by omega)
    refine W.exit ?_
    refine xe ?_
    refine xe ?_
    refine XBlock.hit ?_
    refine xn ?_
    refine W.draw_k (by kernel_rfl) fun K hK => ?_
    by_cases hk : k = 0
    ·skip
     have hk0 : shL M A i ws ht k = [] := by subst hk; rfl
     simp only [hk0,slC_nil,tlC_nil]
     simp (disch := omega) only [↓RU,RV,RH,↓reduceIte,reduceEqDiff,reduceCtorEq,if_pos,List.append_nil,↓RS,RG,reduceAdd,reduceMul,reduceLeDiff,ty0,ty2,ty4,tybool,ty13,ty15,ty16,tyint,ty24,ty27]
     refine CallR.pc (heaviest_pc hu hn9 hl1 hok1) (mapM_one rfl (mapM_one (reify_ints_n (k := 8) rfl hl1) rfl)) (.inl rfl) ?_
     simp (disch := omega) only [↓RU,RV,RH,↓reduceIte,reduceEqDiff,reduceCtorEq,if_pos,List.append_nil,↓RS,RG,reduceAdd,reduceMul,reduceLeDiff,ty0,ty2,ty4,tybool,ty13,ty15,ty16,tyint,ty24,ty27]
     refine CallR.pc (max_pc hy1 (by omega)) rfl (.inl rfl) ?_
     simp (disch := omega) only [↓RU,RV,RH,↓reduceIte,reduceEqDiff,reduceCtorEq,if_pos,List.append_nil,↓RS,RG,reduceAdd,reduceMul,reduceLeDiff,ty0,ty2,ty4,tybool,ty13,ty15,ty16,tyint,ty24,ty27]
     refine CallR.pc (heaviest_pc hu2 hn9 hl2 hok2) (mapM_one rfl (mapM_one (reify_ints_n (k := 8) rfl hl2) rfl)) (.inl rfl) ?_
     simp (disch := omega) only [↓RU,RV,RH,↓reduceIte,reduceEqDiff,reduceCtorEq,if_pos,List.append_nil,↓RS,RG,reduceAdd,reduceMul,reduceLeDiff,ty0,ty2,ty4,tybool,ty13,ty15,ty16,tyint,ty24,ty27]
     refine CallR.pc (max_pc hy2 (by omega)) rfl (.inl rfl) ?_
     simp (disch := omega) only [↓RU,RV,RH,↓reduceIte,reduceEqDiff,reduceCtorEq,if_pos,List.append_nil,↓RS,RG,reduceAdd,reduceMul,reduceLeDiff,ty0,ty2,ty4,tybool,ty13,ty15,ty16,tyint,ty24,ty27]
     refine hK _ _ ?_;clear hK K
     refine XbN ?_
     refine xn ?_
     refine W.k fun K hK => ?_
     simp (disch := omega) only [↓RU,RV,RH,↓reduceIte,reduceEqDiff,reduceCtorEq,if_pos,w64,↓RS,RG,reduceAdd,reduceMul,reduceLeDiff,tyint]
     refine hK _ _ ?_;clear hK K
     refine xn ?_
     refine ⟨N - (k + 1),by omega,0,[2,4],[eInts ws,eInts ht,.ref 0 (t3 + 2) 0,slC 1 (shL M A i ws ht (k + 1)) (t3 + 2),.int .i64 N,.int .i64 ((k + 1 : Nat) : Int)],⟨.arr (t3 + 2) 62 2 [eRel M,eRel A] :: tlC (shL M A i ws ht (k + 1)) (t3 + 2),t3 + 3⟩,?_,?_,k + 1,t3 + 2,t3 + 2,t3 + 3,rfl,by omega,rfl,rfl⟩
     ·rw [slC_ne (shL_ne (by omega)),shL_succ,hk0]; simp [-List.mapM_map,Env.put,Env.of,argEnv,Srn_eq,rnObs_cons,rnObs_nil,rnOb_arr,rnOb_map,rn_loc,rn_ref,rn_mp,rn_int,rn_bool,rn_str,rn_ip,rn_sl,rn_nils,rn_nilp,rn_undef,rn_agg,rn_tup,rn_fn,rfq_loc,rfq_int,rfq_bool,rfq_str,rfq_sl,frOf,List.range_succ,List.mapM_append,List.mapM_cons] <;> decide
     ·rw [tlC_ne (shL_ne (by omega)),shL_succ,hk0]; simp [-List.mapM_map,Env.put,Env.of,argEnv,Srn_eq,rnObs_cons,rnObs_nil,rnOb_arr,rnOb_map,rn_loc,rn_ref,rn_mp,rn_int,rn_bool,rn_str,rn_ip,rn_sl,rn_nils,rn_nilp,rn_undef,rn_agg,rn_tup,rn_fn,rfq_loc,rfq_int,rfq_bool,rfq_str,rfq_sl,frOf,List.range_succ,List.mapM_append,List.mapM_cons,scs,eShp,shI]
    ·skip
     simp only [slC_ne (shL_ne hk),tlC_ne (shL_ne hk)]
     simp (disch := omega) only [↓RU,RV,RH,↓reduceIte,reduceEqDiff,reduceCtorEq,if_pos,List.append_nil,↓RS,RG,reduceAdd,reduceMul,reduceLeDiff,ty0,ty2,ty4,tybool,ty13,ty15,ty16,tyint,ty24,ty27,hcl,hSl]
     refine CallR.pc (heaviest_pc hu hn9 hl1 hok1) (mapM_one rfl (mapM_one (reify_ints_n (k := 8) rfl hl1) rfl)) (.inl rfl) ?_
     simp (disch := omega) only [↓RU,RV,RH,↓reduceIte,reduceEqDiff,reduceCtorEq,if_pos,List.append_nil,↓RS,RG,reduceAdd,reduceMul,reduceLeDiff,ty0,ty2,ty4,tybool,ty13,ty15,ty16,tyint,ty24,ty27,hcl,hSl]
     refine CallR.pc (max_pc hy1 (by omega)) rfl (.inl rfl) ?_
     simp (disch := omega) only [↓RU,RV,RH,↓reduceIte,reduceEqDiff,reduceCtorEq,if_pos,List.append_nil,↓RS,RG,reduceAdd,reduceMul,reduceLeDiff,ty0,ty2,ty4,tybool,ty13,ty15,ty16,tyint,ty24,ty27,hcl,hSl]
     refine CallR.pc (heaviest_pc hu2 hn9 hl2 hok2) (mapM_one rfl (mapM_one (reify_ints_n (k := 8) rfl hl2) rfl)) (.inl rfl) ?_
     simp (disch := omega) only [↓RU,RV,RH,↓reduceIte,reduceEqDiff,reduceCtorEq,if_pos,List.append_nil,↓RS,RG,reduceAdd,reduceMul,reduceLeDiff,ty0,ty2,ty4,tybool,ty13,ty15,ty16,tyint,ty24,ty27,hcl,hSl]
     refine CallR.pc (max_pc hy2 (by omega)) rfl (.inl rfl) ?_
     simp (disch := omega) only [↓RU,RV,RH,↓reduceIte,reduceEqDiff,reduceCtorEq,if_pos,List.append_nil,↓RS,RG,reduceAdd,reduceMul,reduceLeDiff,ty0,ty2,ty4,tybool,ty13,ty15,ty16,tyint,ty24,ty27,hcl,hSl]
     refine hK _ _ ?_;clear hK K
     refine XbN ?_
     refine xn ?_
     refine W.k fun K hK => ?_
     simp (disch := omega) only [↓RU,RV,RH,↓reduceIte,reduceEqDiff,reduceCtorEq,if_pos,w64,↓RS,RG,reduceAdd,reduceMul,reduceLeDiff,tyint]
     refine hK _ _ ?_;clear hK K
     refine xn ?_
     refine ⟨N - (k + 1),by omega,0,[2,3],[eInts ws,eInts ht,.ref 0 (t3 + 2) 0,slC 1 (shL M A i ws ht (k + 1)) (t3 + 2),.int .i64 N,.int .i64 ((k + 1 : Nat) : Int)],⟨.arr (t3 + 2) 62 2 [eRel M,eRel A] :: tlC (shL M A i ws ht (k + 1)) (t3 + 2),t3 + 3⟩,?_,?_,k + 1,t3 + 2,t3 + 2,t3 + 3,rfl,by omega,rfl,rfl⟩
     ·rw [slC_ne (shL_ne (by omega)),shL_succ]; simp [-List.mapM_map,Env.put,Env.of,argEnv,Srn_eq,rnObs_cons,rnObs_nil,rnOb_arr,rnOb_map,rn_loc,rn_ref,rn_mp,rn_int,rn_bool,rn_str,rn_ip,rn_sl,rn_nils,rn_nilp,rn_undef,rn_agg,rn_tup,rn_fn,rfq_loc,rfq_int,rfq_bool,rfq_str,rfq_sl,frOf,List.range_succ,List.mapM_append,List.mapM_cons,hSl] <;> decide
     ·rw [tlC_ne (shL_ne (by omega)),shL_succ,scs_snoc]; simp [-List.mapM_map,Env.put,Env.of,argEnv,Srn_eq,rnObs_cons,rnObs_nil,rnOb_arr,rnOb_map,rn_loc,rn_ref,rn_mp,rn_int,rn_bool,rn_str,rn_ip,rn_sl,rn_nils,rn_nilp,rn_undef,rn_agg,rn_tup,rn_fn,rfq_loc,rfq_int,rfq_bool,rfq_str,rfq_sl,frOf,List.range_succ,List.mapM_append,List.mapM_cons,rn_scs,shI,hct]
  ·try simp only [RL] at h1
   obtain rfl : k = N := by omega
   refine W.exit ?_
   refine xe ?_
   refine xe ?_
   refine XBlock.hit ?_
   refine xn ?_
   refine W.r fun K hK => ?_
   simp (disch := omega) only [↓RU,RV,RH,↓reduceIte,reduceEqDiff,reduceCtorEq,if_pos,↓RS,RG,reduceAdd,reduceMul,reduceLeDiff]
   refine hK _ _ ?_;clear hK K
   refine W.ret ?_
   refine Br rfl ?_
   rw [hnr,hN,slC_ne (shL_ne (by omega)),tlC_ne (shL_ne (by omega))]
   exact ⟨2,_,_,_,rfl,rfl⟩
theorem shapeAll_no {p : List Txt} (hs : Sm p) {ws ht : List Int} (hw : ws.length ≤ 1048576) (hh : ht.length ≤ 1048576) (hv : givenI p ws ht = false) : PC Tryz.prog 32 [eStrs p,eInts ws,eInts ht] (.tup [.sl [] 0,.bool false]) true := by
 refine PC.of ⟨Tryz.func32,by kernel_rfl,rfl,by kernel_rfl⟩ tabOk mixed (by show 3 ≤ Tryz.f32.ntmps; decide) ?_
 refine W.r fun K hK => ?_
 simp (disch := omega) only [↓RU,RV,RH,↓reduceIte,reduceEqDiff,reduceCtorEq,if_pos,↓RS,RG,reduceAdd,reduceMul,reduceLeDiff]
 refine hK _ _ ?_;clear hK K
 refine W.r fun K hK => ?_
 simp (disch := omega) only [↓RU,RV,RH,↓reduceIte,reduceEqDiff,reduceCtorEq,if_pos,List.append_nil,↓RS,RG,reduceAdd,reduceMul,reduceLeDiff]
 refine CallR.pc (tried_no hs hw hh hv) rfl (.inl rfl) ?_
 simp (disch := omega) only [↓RU,RV,RH,↓reduceIte,reduceEqDiff,reduceCtorEq,if_pos,List.append_nil,↓RS,RG,reduceAdd,reduceMul,reduceLeDiff]
 refine hK _ _ ?_;clear hK K
 refine W.r fun K hK => ?_
 simp (disch := omega) only [↓RU,RV,RH,↓reduceIte,reduceEqDiff,reduceCtorEq,if_pos,List.append_nil,↓RS,RG,reduceAdd,reduceMul,reduceLeDiff]
 refine CallR.pc (best0_pc) rfl (.inl rfl) ?_
 simp (disch := omega) only [↓RU,RV,RH,↓reduceIte,reduceEqDiff,reduceCtorEq,if_pos,List.append_nil,↓RS,RG,reduceAdd,reduceMul,reduceLeDiff]
 refine CallR.pc (listed0_pc) rfl (.inl rfl) ?_
 simp (disch := omega) only [↓RU,RV,RH,↓reduceIte,reduceEqDiff,reduceCtorEq,if_pos,List.append_nil,↓RS,RG,reduceAdd,reduceMul,reduceLeDiff]
 refine hK _ _ ?_;clear hK K
 refine W.ret ?_
 refine Br rfl ?_
 rfl
theorem shapeAll_yes {p : List Txt} (hs : Sm p) {ws ht : List Int} (hw : ws.length ≤ 1048576) (hh : ht.length ≤ 1048576) (hv : givenI p ws ht = true) : PC Tryz.prog 32 [eStrs p,eInts ws,eInts ht] (.tup [eShps (allP (shI (leftG (gP p) p.length (w0 (readG p)) (rP p).length) (aboveG (gP p) p.length (w0 (readG p)) (rP p).length) (rP p).length ws ht) (2 ^ (rP p).length)),.bool true]) false := by
 have hp8 := pow8 (givenI_ok hv).2.2
 have hp1 : 1 ≤ 2 ^ (rP p).length := Nat.one_le_two_pow
 have hsl : (shL (leftG (gP p) p.length (w0 (readG p)) (rP p).length) (aboveG (gP p) p.length (w0 (readG p)) (rP p).length) (rP p).length ws ht (2 ^ (rP p).length)).length = 2 ^ (rP p).length := shL_len
 refine PC.of ⟨Tryz.func32,by kernel_rfl,rfl,by kernel_rfl⟩ tabOk mixed (by show 3 ≤ Tryz.f32.ntmps; decide) ?_
 refine W.r fun K hK => ?_
 simp (disch := omega) only [↓RU,RV,RH,↓reduceIte,reduceEqDiff,reduceCtorEq,if_pos,↓RS,RG,reduceAdd,reduceMul,reduceLeDiff]
 refine hK _ _ ?_;clear hK K
 refine W.r fun K hK => ?_
 simp (disch := omega) only [↓RU,RV,RH,↓reduceIte,reduceEqDiff,reduceCtorEq,if_pos,List.append_nil,↓RS,RG,reduceAdd,reduceMul,reduceLeDiff]
 refine CallR.ev (tried_ev hs hw hh hv) ?_
 rintro _ _ ⟨o0,v1,t1,rfl,rfl⟩
 simp (disch := omega) only [↓RU,RV,RH,↓reduceIte,reduceEqDiff,reduceCtorEq,if_pos,List.append_nil,↓RS,RG,reduceAdd,reduceMul,reduceLeDiff]
 refine hK _ _ ?_;clear hK K
 refine W.r fun K hK => ?_
 simp (disch := omega) only [↓RU,RV,RH,↓reduceIte,reduceEqDiff,reduceCtorEq,if_pos,List.append_nil,↓RS,RG,reduceAdd,reduceMul,reduceLeDiff]
 refine CallR.ev (best_ev (l := (shL (leftG (gP p) p.length (w0 (readG p)) (rP p).length) (aboveG (gP p) p.length (w0 (readG p)) (rP p).length) (rP p).length ws ht (2 ^ (rP p).length))) (by omega) (by omega)) ?_
 rintro _ _ ⟨z,ver2,v2,t2,hzp,hzs,rfl,rfl⟩
 have hbs := best_same hzs hzp
 have hbl : (bsF z).length ≤ 1048576 := by have := bsF_len z z.length (Nat.le_refl _); rw [List.take_length] at this; have := hzp.length_eq; omega
 simp (disch := omega) only [↓RU,RV,RH,↓reduceIte,reduceEqDiff,reduceCtorEq,if_pos,List.append_nil,↓RS,RG,reduceAdd,reduceMul,reduceLeDiff]
 refine CallR.ev (listed_ev hbl) ?_
 rintro _ _ ⟨v3,t3,rfl,rfl⟩
 simp (disch := omega) only [↓RU,RV,RH,↓reduceIte,reduceEqDiff,reduceCtorEq,if_pos,List.append_nil,↓RS,RG,reduceAdd,reduceMul,reduceLeDiff]
 refine hK _ _ ?_;clear hK K
 refine W.ret ?_
 refine Br rfl ?_
 rw [← hbs]
 exact reify_tup2 (k := 9) (reify_slR.trans (by rw [eGrid,rowsOf_len])) rfl
section
theorem PC.old {P : Program} {f : FuncId} {args : List PV} {r : PV} (h : PC P f args r true) : PC P f args r false :=
 ⟨h.ent,fun F w c h1 h2 h3 => (h.run F w c h1 h2 h3).mono fun _ _ ⟨cv,a,b,d⟩ => ⟨cv,a,b,d.mono (fun _ hb => .inl (hb.resolve_right (by simp))) (fun _ _ => rfl)⟩⟩
theorem allP_congr {f g : Nat → Shp} : ∀ {k : Nat},(∀ s,s < k → f s = g s) → allP f k = allP g k
 | 0,_ => rfl
 | k + 1,h => by rw [allP_succ,allP_succ,allP_congr (k := k) fun s hs => h s (by omega),h k (by omega)]
section
variable {p : List Txt} {ws ht : List Int}
def bestV (p : List Txt) (ws ht : List Int) : List Shp := if givenI p ws ht then allP (shS p ws ht) (2 ^ ws.length) else []
theorem shapeAll_pc (hs : Sm p) (hw : ws.length ≤ 1048576) (hh : ht.length ≤ 1048576) : PC Tryz.prog 32 [eStrs p,eInts ws,eInts ht] (.tup [eShps (bestV p ws ht),.bool (givenI p ws ht)]) false := by
 cases hv : givenI p ws ht with
 | false =>
  have e : bestV p ws ht = [] := by unfold bestV; rw [hv,if_neg Bool.false_ne_true]
  rw [e]
  exact (shapeAll_no hs hw hh hv).old
 | true =>
  obtain ⟨h1,h2,-⟩ := givenI_ok hv
  have e : bestV p ws ht = allP (shI (leftG (gP p) p.length (w0 (readG p)) (rP p).length) (aboveG (gP p) p.length (w0 (readG p)) (rP p).length) (rP p).length ws ht) (2 ^ (rP p).length) := by
   unfold bestV
   rw [hv,if_pos rfl,(needV_one h1).2.1]
   exact allP_congr fun s _ => (sh_eq h1 h2 s).symm
  rw [e]
  exact shapeAll_yes hs hw hh hv
theorem given_len (h : givenI p ws ht = true) : ht.length = ws.length ∧ ws.length ≤ 8 := by
 obtain ⟨h1,h2,h3⟩ := givenI_ok h
 have := (needV_one h1).2.1
 have := (needV_one h2).2.1
 omega
theorem bestV_yes (h : givenI p ws ht = true) : bestV p ws ht = allP (shS p ws ht) (2 ^ ws.length) := by unfold bestV; rw [h,if_pos rfl]
theorem bestV_facts (h : givenI p ws ht = true) : 1 ≤ (bestV p ws ht).length ∧ (bestV p ws ht).length ≤ 256 ∧
  (∀ x ∈ bestV p ws ht,0 ≤ x.1 ∧ x.1 ≤ 6570 ∧ 0 ≤ x.2 ∧ x.2 ≤ 6570 ∧ 0 ≤ x.1 * x.2 ∧ x.1 * x.2 ≤ 43164900 ∧ ∃ s,s < 2 ^ ws.length ∧ x = shS p ws ht s) ∧ (∀ s,s < 2 ^ ws.length → ∃ y ∈ bestV p ws ht,y.1 ≤ (shS p ws ht s).1 ∧ y.2 ≤ (shS p ws ht s).2) ∧ Stc (bestV p ws ht) := by
 have hp := pow8 (given_len h).2
 obtain ⟨g1,g2,-⟩ := givenI_ok h
 rw [← needs_is] at g1 g2
 rw [bestV_yes h]
 obtain ⟨h1,h2,h3⟩ := allP_inv (sh := shS p ws ht) (2 ^ ws.length)
 refine ⟨List.length_pos_iff.2 (allP_ne hp.1),by omega,fun x hx => ?_,h2,(all_best _).st⟩
 obtain ⟨s,q1,rfl⟩ := h1 x hx
 obtain ⟨a,b,c,d⟩ := shS_bnd g1 g2 s
 have e := areaF_bnd g1 g2 s
 exact ⟨a,b,c,d,e.1,e.2,s,q1,rfl⟩
def lsA (X : List Shp) : Nat → Int
 | 0 => -1
 | i + 1 => let v := (X[i]?.getD (0,0)).1 * (X[i]?.getD (0,0)).2; if lsA X i < 0 ∨ v < lsA X i then v else lsA X i
theorem lsA_is {X : List Shp} (hX : ∀ x ∈ X,0 ≤ x.1 * x.2) : ∀ i,1 ≤ i → i ≤ X.length → 0 ≤ lsA X i ∧ (∃ x ∈ X,lsA X i = x.1 * x.2) ∧ ∀ (j : Nat) x,j < i → X[j]? = some x → lsA X i ≤ x.1 * x.2
 | i + 1,_,hi => by
  obtain ⟨x,hx,hxm⟩ := get_of (show i < X.length by omega)
  have hx0 := hX x hxm
  have e : lsA X (i + 1) = if lsA X i < 0 ∨ x.1 * x.2 < lsA X i then x.1 * x.2 else lsA X i := by rw [lsA]; simp only [hx,Option.getD_some]
  rw [e]
  by_cases h0 : i = 0
  ·subst h0
   rw [if_pos (.inl (by rw [lsA]; omega))]
   refine ⟨hx0,⟨x,hxm,rfl⟩,fun j y hj hy => ?_⟩
   obtain rfl : j = 0 := by omega
   rw [hx] at hy; cases hy; exact Int.le_refl _
  ·obtain ⟨k1,k2,k3⟩ := lsA_is hX i (by omega) (by omega)
   split
   ·rename_i c
    refine ⟨hx0,⟨x,hxm,rfl⟩,fun j y hj hy => ?_⟩
    by_cases hji : j = i
    ·subst hji; rw [hx] at hy; cases hy; exact Int.le_refl _
    ·have := k3 j y (by omega) hy; omega
   ·rename_i c
    refine ⟨k1,k2,fun j y hj hy => ?_⟩
    by_cases hji : j = i
    ·subst hji; rw [hx] at hy; cases hy; omega
    ·exact k3 j y (by omega) hy
def tryV (p : List Txt) (ws ht : List Int) : Int := if givenI p ws ht then areaF p ws ht (bestS p ws ht) else 0
theorem shapeTry_pc (hs : Sm p) (hw : ws.length ≤ 1048576) (hh : ht.length ≤ 1048576) : PC Tryz.prog 48 [eStrs p,eInts ws,eInts ht] (.tup [.int .i64 (tryV p ws ht),.bool (givenI p ws ht)]) true := by
 unfold tryV
 cases hv : givenI p ws ht with
 | false => exact shapeTry_no (tried_no hs hw hh hv)
 | true =>
  have h := shapeTry_yes (X := X8 p ws ht) (tried_yes hs hw hh hv) (X8_rooms hv).2.1 (X8_rooms hv).2.2 (X8_bnd hv)
  rwa [X8_area hv] at h
def sideV (p : List Txt) (ws ht : List Int) : Int := if givenI p ws ht then minS (bestV p ws ht) else 0
theorem shapeSquare_pc (hs : Sm p) (hw : ws.length ≤ 1048576) (hh : ht.length ≤ 1048576) : PC Tryz.prog 52 [eStrs p,eInts ws,eInts ht] (.tup [.int .i64 (sideV p ws ht),.bool (givenI p ws ht)]) true := by
 unfold sideV
 cases hv : givenI p ws ht with
 | false => exact shapeSquare_no (tried_no hs hw hh hv)
 | true =>
  have h := shapeSquare_yes (X := X8 p ws ht) (tried_yes hs hw hh hv) (X8_rooms hv).2.1 (X8_rooms hv).2.2
  rwa [X8_side hv,← bestV_yes hv] at h
theorem sSide_is : (if given8 p ws ht then minS (allP (shS p ws ht) (2 ^ ws.length)) else 0) = sideV p ws ht := by
 rw [given_eq]; unfold sideV
 split
 ·rename_i h; rw [bestV_yes h]
 ·rfl
theorem try_is (h : givenI p ws ht = true) : lsA (bestV p ws ht) (bestV p ws ht).length = tryV p ws ht := by
 obtain ⟨h1,-,h3,h4,-⟩ := bestV_facts h
 obtain ⟨k1,⟨x,hx,kx⟩,k3⟩ := lsA_is (fun x hx => (h3 x hx).2.2.2.2.1) _ h1 (Nat.le_refl _)
 have e : tryV p ws ht = areaF p ws ht (bestS p ws ht) := by unfold tryV; rw [h,if_pos rfl]
 rw [e]
 have hp : 1 ≤ 2 ^ ws.length := Nat.one_le_two_pow
 have hb := bst_lt (f := areaF p ws ht) hp
 unfold bestS
 have mle := fun s (hs : s < 2 ^ ws.length) => bst_le (f := areaF p ws ht) hs
 generalize bst (areaF p ws ht) (2 ^ ws.length) = b at hb mle ⊢
 obtain ⟨g1,g2,-⟩ := givenI_ok h
 rw [← needs_is] at g1 g2
 have hbb := shS_bnd g1 g2 b
 obtain ⟨y,hy,y1,y2⟩ := h4 _ hb
 obtain ⟨j,hj,hjy⟩ := List.getElem_of_mem hy
 have hle := k3 j y hj (by rw [List.getElem?_eq_getElem hj,hjy])
 have hy3 := h3 y hy
 have m1 : y.1 * y.2 ≤ (shS p ws ht b).1 * (shS p ws ht b).2 := Int.mul_le_mul y1 y2 hy3.2.2.1 hbb.1
 obtain ⟨-,-,-,-,-,-,s,hs,rfl⟩ := h3 x hx
 have m2 := mle s hs
 have m4 : (shS p ws ht b).1 * (shS p ws ht b).2 = areaF p ws ht b := rfl
 have m3 : (shS p ws ht s).1 * (shS p ws ht s).2 = areaF p ws ht s := rfl
 omega
def anyS (X : List Shp) (m : Int) (i : Nat) : Bool := (X.take i).any fun x => decide (sideF x = m)
theorem anyS_succ {X : List Shp} {m : Int} {i : Nat} {x : Shp} (h : X[i]? = some x) : anyS X m (i + 1) = (anyS X m i || decide (sideF x = m)) := by simp [anyS,tk h,List.any_append]
theorem side_facts (h : givenI p ws ht = true) : (∀ x ∈ bestV p ws ht,sideV p ws ht ≤ sideF x) ∧ anyS (bestV p ws ht) (sideV p ws ht) (bestV p ws ht).length = true ∧ tryV p ws ht ≤ sideV p ws ht * sideV p ws ht ∧ 0 ≤ sideV p ws ht ∧ sideV p ws ht ≤ 6570 := by
 obtain ⟨h1,-,h3,h4,-⟩ := bestV_facts h
 have e : sideV p ws ht = minS (bestV p ws ht) := by unfold sideV; rw [h,if_pos rfl]
 obtain ⟨m1,x,hx,m2⟩ := minS_is (List.length_pos_iff.1 h1)
 rw [← e] at m2
 rw [← e] at m1
 have hx3 := h3 x hx
 have hs : 0 ≤ sideF x ∧ sideF x ≤ 6570 := by unfold sideF; omega
 refine ⟨m1,List.any_eq_true.2 ⟨x,by rw [List.take_length]; exact hx,by simpa using m2.symm⟩,?_,by omega,by omega⟩
 obtain ⟨k1,-,k3⟩ := lsA_is (fun x hx => (h3 x hx).2.2.2.2.1) _ h1 (Nat.le_refl _)
 obtain ⟨j,hj,hjy⟩ := List.getElem_of_mem hx
 have hle := k3 j x hj (by rw [List.getElem?_eq_getElem hj,hjy])
 rw [try_is h] at hle
 have m3 : x.1 * x.2 ≤ sideF x * sideF x := Int.mul_le_mul (by unfold sideF; omega) (by unfold sideF; omega) hx3.2.2.1 hs.1
 rw [m2]; omega
end
end

theorem square_law {code : Txt} (hcode : code.length ≤ 9223372036854775807) : PC Tryz.prog 12 [eBy code] (.bool true) true := by
 refine PC.of ⟨Tryz.func12,by kernel_rfl,rfl,by kernel_rfl⟩ tabOk mixed (by show 1 ≤ Tryz.f12.ntmps; decide) ?_
 refine W.r fun K hK => ?_
 simp (disch := omega) only [↓RU,RV,RH,↓reduceIte,reduceEqDiff,reduceCtorEq,if_pos,↓RS,RG,reduceAdd,reduceMul,reduceLeDiff]
 refine hK _ _ ?_;clear hK K
 refine W.seq ?_
 refine W.r fun K hK => ?_
 simp (disch := omega) only [↓RU,RV,RH,↓reduceIte,reduceEqDiff,reduceCtorEq,if_pos,w64,↓RS,RG,reduceAdd,reduceMul,reduceLeDiff,ty7,tyint,ty29]
 refine hK _ _ ?_;clear hK K
 refine W.cond rfl (fun h0 => ?_) (fun h0 => ?_)
 ·try simp only [RL] at h0
  refine W.r fun K hK => ?_
  simp (disch := omega) only [↓RU,RV,RH,↓reduceIte,reduceEqDiff,reduceCtorEq,if_pos,↓RS,RG,reduceAdd,reduceMul,reduceLeDiff]
  refine hK _ _ ?_;clear hK K
  refine W.ret ?_
  refine XThen.ret ?_
  refine Br rfl ?_
  rfl
 ·try simp only [RL] at h0
  have hcl : code.length ≤ 1048576 := by omega
  refine W.skip ?_
  refine xn ?_
  refine W.r fun K hK => ?_
  simp (disch := omega) only [↓RU,RV,RH,↓reduceIte,reduceEqDiff,reduceCtorEq,if_pos,List.append_nil,↓RS,RG,reduceAdd,reduceMul,reduceLeDiff]
  refine CallR.ev (drawShapeSquare_ev hcl) ?_
  rintro _ _ ⟨p,ws,ht,t,hs,hwl,htl,rfl,rfl⟩
  simp (disch := omega) only [↓RU,RV,RH,↓reduceIte,reduceEqDiff,reduceCtorEq,if_pos,List.append_nil,↓RS,RG,reduceAdd,reduceMul,reduceLeDiff]
  refine hK _ _ ?_;clear hK K
  refine W.r fun K hK => ?_
  simp (disch := omega) only [↓RU,RV,RH,↓reduceIte,reduceEqDiff,reduceCtorEq,if_pos,List.append_nil,↓RS,RG,reduceAdd,reduceMul,reduceLeDiff]
  refine CallR.pc (shapeSquare_pc hs (by omega) (by omega)) rfl (.inl rfl) ?_
  simp (disch := omega) only [↓RU,RV,RH,↓reduceIte,reduceEqDiff,reduceCtorEq,if_pos,List.append_nil,↓RS,RG,reduceAdd,reduceMul,reduceLeDiff]
  refine hK _ _ ?_;clear hK K
  refine W.r fun K hK => ?_
  simp (disch := omega) only [↓RU,RV,RH,↓reduceIte,reduceEqDiff,reduceCtorEq,if_pos,List.append_nil,↓RS,RG,reduceAdd,reduceMul,reduceLeDiff]
  refine CallR.pc (sShapeSquare_pc hs (by omega) (by omega)) rfl (.inl rfl) ?_
  simp (disch := omega) only [↓RU,RV,RH,↓reduceIte,reduceEqDiff,reduceCtorEq,if_pos,List.append_nil,↓RS,RG,reduceAdd,reduceMul,reduceLeDiff]
  refine hK _ _ ?_;clear hK K
  rw [sSide_is,given_eq]
  refine W.seq ?_
  refine W.r fun K hK => ?_
  cases hv : (givenI p ws ht)
  ·skip
   simp (disch := omega) only [↓RU,RV,RH,↓reduceIte,reduceEqDiff,reduceCtorEq,if_pos,w64,↓RS,RG,reduceAdd,reduceMul,reduceLeDiff,tybool,tyint,pEq_bb,Option.map_some,bne_self_eq_false,beq_self_eq_true,Bool.not_true,Bool.not_false,hv]
   refine hK _ _ ?_;clear hK K
   refine W.cond rfl (fun h1 => ?_) (fun h1 => ?_)
   ·try simp only [RL] at h1
    refine W.r fun K hK => ?_
    simp (disch := omega) only [↓RU,RV,RH,↓reduceIte,reduceEqDiff,reduceCtorEq,if_pos,w64,↓RS,RG,reduceAdd,reduceMul,reduceLeDiff,tybool,tyint,pEq_bb,Option.map_some,bne_self_eq_false,beq_self_eq_true,Bool.not_true,Bool.not_false]
    refine hK _ _ ?_;clear hK K
    refine W.ret ?_
    refine XThen.ret ?_
    refine Br rfl ?_
    rfl
   ·try simp only [RL] at h1
    exact absurd h1 (by simp)
  ·skip
   simp (disch := omega) only [↓RU,RV,RH,↓reduceIte,reduceEqDiff,reduceCtorEq,if_pos,w64,↓RS,RG,reduceAdd,reduceMul,reduceLeDiff,tybool,tyint,pEq_bb,Option.map_some,bne_self_eq_false,beq_self_eq_true,Bool.not_true,Bool.not_false,hv]
   refine hK _ _ ?_;clear hK K
   refine W.cond rfl (fun h1 => ?_) (fun h1 => ?_)
   ·try simp only [RL] at h1
    exact absurd h1 (by simp)
   ·try simp only [RL] at h1
    obtain ⟨hX1,hX2,hX3,-,hXs⟩ := bestV_facts hv
    obtain ⟨hs1,hs2,hs3,hs4,hs5⟩ := side_facts hv
    refine W.skip ?_
    refine xn ?_
    refine W.r fun K hK => ?_
    simp (disch := omega) only [↓RU,RV,RH,↓reduceIte,reduceEqDiff,reduceCtorEq,if_pos,List.append_nil,↓RS,RG,reduceAdd,reduceMul,reduceLeDiff,hv]
    refine CallR.pc (shapeTry_pc hs (by omega) (by omega)) rfl (.inl rfl) ?_
    simp (disch := omega) only [↓RU,RV,RH,↓reduceIte,reduceEqDiff,reduceCtorEq,if_pos,List.append_nil,↓RS,RG,reduceAdd,reduceMul,reduceLeDiff,hv]
    refine hK _ _ ?_;clear hK K
    refine W.r fun K hK => ?_
    simp (disch := omega) only [↓RU,RV,RH,↓reduceIte,reduceEqDiff,reduceCtorEq,if_pos,List.append_nil,↓RS,RG,reduceAdd,reduceMul,reduceLeDiff,hv]
    refine CallR.pc (shapeAll_pc (ws := ws) (ht := ht) hs (by omega) (by omega)) rfl (.inr rfl) ?_
    simp (disch := omega) only [↓RU,RV,RH,↓reduceIte,reduceEqDiff,reduceCtorEq,if_pos,List.append_nil,↓RS,RG,reduceAdd,reduceMul,reduceLeDiff,hv]
    refine hK _ _ ?_;clear hK K
    generalize hXe : (bestV p ws ht) = X at hX1 hX2 hX3 hXs hs1 hs2 ⊢
    generalize hTe : tryV p ws ht = T at hs3 ⊢
    generalize hSe : sideV p ws ht = m at hs1 hs2 hs3 hs4 hs5 ⊢
    have hrl := rowsOf_len (l := X)
    refine W.r fun K hK => ?_
    simp (disch := omega) only [↓RU,RV,RH,↓reduceIte,reduceEqDiff,reduceCtorEq,if_pos,↓RS,RG,reduceAdd,reduceMul,reduceLeDiff]
    refine hK _ _ ?_;clear hK K
    refine W.seq ?_
    refine W.r fun K hK => ?_
    simp (disch := omega) only [↓RU,RV,RH,↓reduceIte,reduceEqDiff,reduceCtorEq,if_pos,↓RS,RG,reduceAdd,reduceMul,reduceLeDiff]
    refine hK _ _ ?_;clear hK K
    refine W.block ?_
    refine W.loop [6,10,11,12,13,14,15] (fun n vs S => ∃ i tk : Nat,n = X.length - i ∧ i ≤ X.length ∧ vs = [.int .i64 m,.int .i64 T,.bool true,eShps X,.bool true,.bool (anyS X m i),.int .i64 i] ∧ S = ⟨[],tk⟩) X.length ?_ ?_
    ·refine ⟨0,0,t,rfl,Nat.zero_le _,?_,rfl⟩
     simp [Env.put,Env.of,argEnv,anyS]
    rintro n vs S - ⟨i,tk,rfl,h_i,rfl,rfl⟩
    refine W.seq ?_
    refine W.r fun K hK => ?_
    simp (disch := omega) only [↓RU,RV,RH,↓reduceIte,reduceEqDiff,reduceCtorEq,if_pos,w64,↓RS,RG,reduceAdd,reduceMul,reduceLeDiff,ty1,tyLint,tyint]
    refine hK _ _ ?_;clear hK K
    refine W.cond rfl (fun h2 => ?_) (fun h2 => ?_)
    ·try simp only [RL] at h2
     obtain ⟨x,hx,hxm⟩ := get_of (show i < X.length by omega)
     have hxr := rowsOf_at hx
     have hle := hs1 x hxm
     have hsf : max x.1 x.2 = sideF x := rfl
     have hbq : (max x.1 x.2 == m) = decide (max x.1 x.2 = m) := by by_cases e : max x.1 x.2 = m <;> simp [e]
     refine W.skip ?_
     refine xn ?_
     refine W.seq ?_
     refine W.block ?_
     refine W.seq_draw (by kernel_rfl) fun K hK => ?_
     simp (disch := omega) only [↓RU,RV,RH,↓reduceIte,reduceEqDiff,reduceCtorEq,if_pos,ite_max,↓RS,RG,reduceAdd,reduceMul,reduceLeDiff,ty1,tyLint,tyint,Int.toNat_zero,Nat.zero_mul,Int.reduceToNat,reduceMul,Nat.zero_add,Nat.mul_one,hxr,hrl]
     refine hK _ _ ?_;clear hK K
     refine W.r fun K hK => ?_
     rcases hd1 : anyS X m i with _ | _
     ·skip
      simp (disch := omega) only [↓RU,RV,RH,↓reduceIte,reduceEqDiff,reduceCtorEq,if_pos,w64,↓RS,RG,reduceAdd,reduceMul,reduceLeDiff,tyint,hd1,hbq]
      refine hK _ _ ?_;clear hK K
      refine W.r fun K hK => ?_
      simp (disch := omega) only [↓RU,RV,RH,↓reduceIte,reduceEqDiff,reduceCtorEq,if_pos,w64,↓RS,RG,reduceAdd,reduceMul,reduceLeDiff,tyint]
      refine hK _ _ ?_;clear hK K
      refine W.cond rfl (fun h3 => ?_) (fun h3 => ?_)
      ·try simp only [RL] at h3
       exact absurd (show max x.1 x.2 < m by simpa using h3) (by omega)
      ·try simp only [RL] at h3
       refine W.skip ?_
       refine XbN ?_
       refine xn ?_
       refine W.k fun K hK => ?_
       simp (disch := omega) only [↓RU,RV,RH,↓reduceIte,reduceEqDiff,reduceCtorEq,if_pos,w64,↓RS,RG,reduceAdd,reduceMul,reduceLeDiff,tyint]
       refine hK _ _ ?_;clear hK K
       refine xn ?_
       refine ⟨X.length - (i + 1),by omega,0,i + 1,tk,rfl,by omega,?_,rfl⟩
       simp [Env.put,Env.of,anyS_succ hx,hd1,sideF] <;> (first | rfl | congr)
     ·skip
      simp (disch := omega) only [↓RU,RV,RH,↓reduceIte,reduceEqDiff,reduceCtorEq,if_pos,w64,↓RS,RG,reduceAdd,reduceMul,reduceLeDiff,tyint,hd1,hbq]
      refine hK _ _ ?_;clear hK K
      refine W.r fun K hK => ?_
      simp (disch := omega) only [↓RU,RV,RH,↓reduceIte,reduceEqDiff,reduceCtorEq,if_pos,w64,↓RS,RG,reduceAdd,reduceMul,reduceLeDiff,tyint]
      refine hK _ _ ?_;clear hK K
      refine W.cond rfl (fun h3 => ?_) (fun h3 => ?_)
      ·try simp only [RL] at h3
       exact absurd (show max x.1 x.2 < m by simpa using h3) (by omega)
      ·try simp only [RL] at h3
       refine W.skip ?_
       refine XbN ?_
       refine xn ?_
       refine W.k fun K hK => ?_
       simp (disch := omega) only [↓RU,RV,RH,↓reduceIte,reduceEqDiff,reduceCtorEq,if_pos,w64,↓RS,RG,reduceAdd,reduceMul,reduceLeDiff,tyint]
       refine hK _ _ ?_;clear hK K
       refine xn ?_
       refine ⟨X.length - (i + 1),by omega,0,i + 1,tk,rfl,by omega,?_,rfl⟩
       simp [Env.put,Env.of,anyS_succ hx,hd1,sideF] <;> (first | rfl | congr)
    ·try simp only [RL] at h2
     obtain rfl : i = X.length := by omega
     refine W.exit ?_
     refine xe ?_
     refine xe ?_
     refine XBlock.hit ?_
     refine xn ?_
     refine W.r fun K hK => ?_
     have k0 := Int.mul_nonneg hs4 hs4
     have k2 := Int.mul_le_mul hs5 hs5 hs4 (show (0 : Int) ≤ 6570 by omega)
     have k1 : decide (m * m ≥ T) = true := decide_eq_true (by omega)
     simp (disch := omega) only [↓RU,RV,RH,↓reduceIte,reduceEqDiff,reduceCtorEq,if_pos,w64,↓RS,RG,reduceAdd,reduceMul,reduceLeDiff,tyint,k1,hs2]
     refine hK _ _ ?_;clear hK K
     refine W.ret ?_
     refine Br rfl ?_
     rfl
end Fw
end Go.Proofs.YtclmfemhboogpaaGreat
namespace Go.Proofs.YtclmfemhboogpaaGreat
open Go Go.ChangeShapes Go.WideShapes Go.ChangeAt Go.RowKit Fw
theorem Tryz.ownRmg : ownKnob Tryz.prog.godebug = none := by kernel_rfl
theorem Tryz.laidOutRmg : laidOutB Tryz.prog = true := by kernel_rfl
set_option maxRecDepth 100000 in
theorem rmg_lifted (os : Os) (started : os.Started) (H : Type) (enc : TypeId × Value → H) :
  ReturnsInHanded {} Tryz.checked os 12 .any (Rows.fnSquareSpec.pre6 enc Tryz.prog Tryz.f12 Rows.fnSquareRow.domain false) (Rows.fnSquareSpec.post enc Tryz.prog Tryz.f12 false true false false) := by
 refine returnsInHanded_of_change (C := Tryz.checked) Tryz.ownRmg started (by kernel_rfl) Tryz.func12
  (ChangeSpec.witness6 (enc := enc) (C := Tryz.checked) false ⟨#[],#[.slice none 0 0],[]⟩ 8 (by kernel_rfl) (by kernel_rfl) (by kernel_rfl) (by kernel_rfl)) ?_
 intro W base args ds gs before hval0 hW hcnd _
 have hval : ∀ (j : Nat) t v,Tryz.f12.params[j]? = some t → args[j]? = some v → Value.okWide Tryz.prog W .any base t v := hval0
 have hW' := hW
 obtain ⟨p,q,hA0,hV,rfl,hfz,hnd⟩ := hW
 have hA : DataW.TrodAll enc Tryz.prog W 0 (fun _ => true) true Tryz.f12.params.toList args.toList ds p := hA0
 rw [Tryz.params12] at hA hval
 obtain ⟨v0,d0,rfl,rfl,h0⟩ := trodAll_one hA
 obtain ⟨rfl,rfl⟩ := trodVars_none hV
 obtain ⟨l0,i0,b0⟩ := vi_bytes (hval 0 _ v0 rfl rfl) h0
 have hlt : ∀ x ∈ p,x.block < W.heap.size := fun x hx => hW'.lt x (by simp [hx])
 refine ((square_law b0).run (fun b => b < W.heap.size) W #[v0] (fun _ h => h) rfl ?_).mono ?_
 ·rintro (_ | i) p c hp hc
  ·cases hp; cases hc; exact i0
  ·simp at hp
 ·rintro e W' ⟨cv,rfl,⟨hB,_⟩,hr⟩
  have hcv : cv = .bool true := by cases hr; rfl
  subst hcv
  have t0 := Below.trod Tryz.laidOutRmg (by kernel_rfl) (of_decide_eq_true (by kernel_rfl)) h0 hB fun x hx => hlt x (by simp [hx])
  refine ⟨_,rfl,_,_,_,[],p,[],hW',?_,?_,?_,hB.frame _,fun h => by cases h⟩
  ·exact trodAll_mk1 (shut_bool Tryz.underlying4 true)
  ·rw [Tryz.params12]; exact trodAll_mk1 t0
  ·trivial
theorem rmg_holds : Rows.FnSquareSaid :=
 OpenClaim.holds_of_wide 12 Tryz.f12 rfl rfl rfl rfl rfl rfl rfl ⟨rfl,rfl,rfl,rfl,rfl⟩ rfl rfl rfl rfl rfl (by kernel_rfl) Tryz.func12 (by kernel_rfl)
  (of_decide_eq_true (by kernel_rfl)) (by unfold Func.isWrapper; first | (rw [if_pos (by decide +kernel)]; kernel_rfl) | (rw [if_neg (by decide +kernel)]; exact ⟨rfl,rfl⟩))
  (fun os started H enc _ => rmg_lifted os started H enc)
end Go.Proofs.YtclmfemhboogpaaGreat
