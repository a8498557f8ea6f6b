/- The program's OrderFirst answers as the specification's, for all arguments, and leaves what it should: the statement FnExactOrderFirst. No condition. -/
import Derived.Test.YtclmfemhboogpaaJ4
import Derived.Test.YtclmfemhboogpaaJ1
import Derived.Lib.ConvBytes
import Derived.Test.YtclmfemhboogpaaJ2
set_option linter.all false
namespace Go.Proofs.Ytclmfemhboogpaa
namespace Fw
open Go
open Nat (reduceEqDiff reduceLeDiff reduceAdd reduceMul)
section
section
variable {n : Nat} {M X : List (List Bool)}
def rvB (M : List (List Bool)) (a : Nat) (X : List (List Bool)) (b : Nat) : List (List Bool) := setB X b a (getB M a b)
def rvA (n : Nat) (M : List (List Bool)) (X : List (List Bool)) (a : Nat) : List (List Bool) := (List.range n).foldl (rvB M a) X
def rv (n : Nat) (M : List (List Bool)) : List (List Bool) := (List.range n).foldl (rvA n M) (emptyM n)
end
end
theorem rn_rep0 {S : Store} {k f n : Nat} {sel : List Nat} : (List.replicate n (PV.int .i64 0)).mapM (rn S k sel (f + 1)) = some (List.replicate n (PV.int .i64 0)) := rn_scal (by simp [List.all_replicate, scal])
theorem sh_one2 {S : Store} {im : Bool} {v et n : Nat} {b : Bool} {cells : List PV} (hS : S.obs = [.arr v et 1 cells]) (hc : cells.mapM (sh (S.take 1) im 10) = some cells) : ∃ k, sh (S.take k) im 10 (.tup [.loc 0 v 0 n, .bool b]) = some (.tup [.loc 0 0 0 n, .bool b]) ∧ shObs (S.take k) im (S.take k).obs = some [.arr 0 et 1 cells] := by
 refine ⟨1, ?_, ?_⟩
 ·simp [sh, Store.take, hS]
 ·simp only [Store.take, hS] at hc ⊢
  simp only [List.take_succ_cons, List.take_zero] at hc ⊢
  simp only [shObs, shOb, hc]
  rfl
section
theorem before_pc {L A : List (List Bool)} {n a b : Nat} (hL : Sq n L) (hA : Sq n A) (ha : a < n) (hb : b < n) : PC Try.prog 29 [(.agg [eRel L, eRel A]), .int .i64 a, .int .i64 b] (.bool (getB L a b || getB A a b)) true := by
 have hL1 := hL.1
 have hA1 := hA.1
 obtain ⟨row, hrow, hrl, hrb⟩ := hL.at_ ha hb
 obtain ⟨sow, hsow, hsl, hsb⟩ := hA.at_ ha hb
 refine PC.of ⟨Try.func29, by kernel_rfl, rfl, by kernel_rfl⟩ tabOk mixed (by show 3 ≤ Try.f29.ntmps; decide) ?_
 refine W.seq_region fun K hK => ?_
 simp (disch := omega) only [↓RU, RV, RH, ↓reduceIte, reduceEqDiff, reduceCtorEq, if_pos, ↓RS, RG, reduceAdd, reduceMul, reduceLeDiff, ty0, ty2, tybool, ty12, ty14, ty20]
 refine hK _ _ ?_;clear hK K
 refine W.seq_region fun K hK => ?_
 cases hc : getB L a b
 ·skip
  rw [hc] at hrb
  simp (disch := omega) only [↓RU, RV, RH, ↓reduceIte, reduceEqDiff, reduceCtorEq, if_pos, ↓RS, RG, reduceAdd, reduceMul, reduceLeDiff, ty0, ty2, tybool, ty12, ty14, ty20, hrow, hrl, hrb, hsow, hsl, hsb, hL1, hA1]
  refine hK _ _ ?_;clear hK K
  refine W.ret ?_
  refine BodyQ.ret rfl ?_
  rw [hc]
  rfl
 ·skip
  rw [hc] at hrb
  simp (disch := omega) only [↓RU, RV, RH, ↓reduceIte, reduceEqDiff, reduceCtorEq, if_pos, ↓RS, RG, reduceAdd, reduceMul, reduceLeDiff, ty0, ty2, tybool, ty12, ty14, ty20, hrow, hrl, hrb, hsow, hsl, hsb, hL1, hA1]
  refine hK _ _ ?_;clear hK K
  refine W.ret ?_
  refine BodyQ.ret rfl ?_
  rw [hc]
  rfl
def cmV (b1 b2 : Bool) : Int := if b1 then -1 else if b2 then 1 else 0
theorem cmV_lt {b1 b2 : Bool} : cmV b1 b2 < 0 ↔ b1 = true := by cases b1 <;> cases b2 <;> simp [cmV]
theorem sorted1_pc {q : FuncId} {L A : List (List Bool)} {x y : Int} {b1 b2 : Bool} (h1 : PC Try.prog q [(.agg [eRel L, eRel A]), .int .i64 x, .int .i64 y] (.bool b1) true) (h2 : PC Try.prog q [(.agg [eRel L, eRel A]), .int .i64 y, .int .i64 x] (.bool b2) true) : PC Try.prog 43 [.int .i64 x, .int .i64 y, .ip [.bm q (.agg [eRel L, eRel A])] 0] (.int .i64 (cmV b1 b2)) true := by
 refine PC.of ⟨Try.func43, by kernel_rfl, rfl, by kernel_rfl⟩ tabOk mixed (by show 3 ≤ Try.f43.ntmps; decide) ?_
 refine W.seq_region fun K hK => ?_
 simp (disch := omega) only [↓RU, RV, RH, ↓reduceIte, reduceEqDiff, reduceCtorEq, if_pos, ↓RS, RG, reduceAdd, reduceMul, reduceLeDiff]
 refine hK _ _ ?_;clear hK K
 refine W.seq ?_
 refine W.block ?_
 refine W.seq_region fun K hK => ?_
 simp (disch := omega) only [↓RU, RV, RH, ↓reduceIte, reduceEqDiff, reduceCtorEq, if_pos, List.append_nil, ↓RS, RG, reduceAdd, reduceMul, reduceLeDiff, ty9]
 refine CallR.pc (h1) rfl (.inl rfl) ?_
 simp (disch := omega) only [↓RU, RV, RH, ↓reduceIte, reduceEqDiff, reduceCtorEq, if_pos, List.append_nil, ↓RS, RG, reduceAdd, reduceMul, reduceLeDiff, ty9]
 refine hK _ _ ?_;clear hK K
 refine W.cond rfl (fun k1 => ?_) (fun k1 => ?_)
 ·try simp only [RL] at k1
  refine W.seq_region fun K hK => ?_
  simp (disch := omega) only [↓RU, RV, RH, ↓reduceIte, reduceEqDiff, reduceCtorEq, if_pos, ↓RS, RG, reduceAdd, reduceMul, reduceLeDiff]
  refine hK _ _ ?_;clear hK K
  refine W.ret ?_
  refine XBlock.ret ?_
  refine XThen.ret ?_
  refine BodyQ.ret rfl ?_
  subst k1
  rfl
 ·try simp only [RL] at k1
  refine W.seq_region fun K hK => ?_
  simp (disch := omega) only [↓RU, RV, RH, ↓reduceIte, reduceEqDiff, reduceCtorEq, if_pos, List.append_nil, ↓RS, RG, reduceAdd, reduceMul, reduceLeDiff, ty9]
  refine CallR.pc (h2) rfl (.inl rfl) ?_
  simp (disch := omega) only [↓RU, RV, RH, ↓reduceIte, reduceEqDiff, reduceCtorEq, if_pos, List.append_nil, ↓RS, RG, reduceAdd, reduceMul, reduceLeDiff, ty9]
  refine hK _ _ ?_;clear hK K
  refine W.cond rfl (fun k2 => ?_) (fun k2 => ?_)
  ·try simp only [RL] at k2
   refine W.seq_region fun K hK => ?_
   simp (disch := omega) only [↓RU, RV, RH, ↓reduceIte, reduceEqDiff, reduceCtorEq, if_pos, ↓RS, RG, reduceAdd, reduceMul, reduceLeDiff]
   refine hK _ _ ?_;clear hK K
   refine W.ret ?_
   refine XBlock.ret ?_
   refine XThen.ret ?_
   refine BodyQ.ret rfl ?_
   have k1 : b1 = false := by simpa using k1
   subst k1
   subst k2
   rfl
  ·try simp only [RL] at k2
   refine W.skip ?_
   refine XBlock.norm ?_
   refine XThen.norm ?_
   refine W.seq_region fun K hK => ?_
   simp (disch := omega) only [↓RU, RV, RH, ↓reduceIte, reduceEqDiff, reduceCtorEq, if_pos, ↓RS, RG, reduceAdd, reduceMul, reduceLeDiff]
   refine hK _ _ ?_;clear hK K
   refine W.ret ?_
   refine BodyQ.ret rfl ?_
   have k1 : b1 = false := by simpa using k1
   have k2 : b2 = false := by simpa using k2
   subst k1
   subst k2
   rfl
theorem pure_oa {L A : List (List Bool)} : pureV 10 (.agg [eRel L, eRel A]) = true := rfl
section
variable {S : Store} {fr : Nat → Bool} {f : Nat}
theorem rfq_ref {o ver off : Nat} : rfq S fr (f + 1) (.ref o ver off) = if fr o = true then (S.cellsOf o ver).bind fun cells => (cells.mapM (rfq S fr f)).map (.ip · off) else none := rfl
theorem rfq_bm {g : FuncId} {b : PV} : rfq S fr (f + 1) (.bm g b) = some (.bm g b) := rfl
theorem cells_bm {g : FuncId} {b : PV} : (PV.bm g b).cells = [.bm g b] := rfl
theorem ic_bm {g : FuncId} {b : PV} : (PV.bm g b).isCell = true := rfl
end
theorem sorted_pn {q : FuncId} {L A : List (List Bool)} {n : Nat} (hL : Sq n L) (h1 : 1 ≤ n) (h9 : n ≤ 9) {bf : Nat → Nat → Bool} {f : Nat → Nat} (hq : ∀ a b : Nat, a < n → b < n → PC Try.prog q [(.agg [eRel L, eRel A]), .int .i64 a, .int .i64 b] (.bool (bf a b)) true) (hf : ∀ a b, a < n → b < n → (bf a b = true ↔ f a < f b)) {Z : List Int} (hZ : ∀ z : List Int, z.Perm (rooms n) → (z.map fun x => ((f x.toNat : Nat) : Int)).Pairwise (· ≤ ·) → z = Z) : PN Try.prog 28 [(.agg [eRel L, eRel A]), .bm q (.agg [eRel L, eRel A])] (.loc 0 0 0 n) [.arr 0 3 1 (Z.map (.int .i64))] false := by
 have hL1 := hL.1
 obtain ⟨l, hl, hln⟩ : ∃ l, l = rooms n ∧ l.length = n := ⟨_, rfl, rooms_len⟩
 subst hln
 have hmem : ∀ x, x ∈ l → ∃ a : Nat, x = a ∧ a < l.length := fun x hx => by rw [hl, mem_rooms] at hx; exact ⟨x.toNat, by omega, by omega⟩
 have hcm : ∀ x y, x ∈ l → y ∈ l → PC Try.prog 43 [.int .i64 x, .int .i64 y, .ip [.bm q (.agg [eRel L, eRel A])] 0] (.int .i64 (cmV (bf x.toNat y.toNat) (bf y.toNat x.toNat))) true := fun x y hx hy => by
  obtain ⟨a, rfl, ha⟩ := hmem x hx
  obtain ⟨b, rfl, hb⟩ := hmem y hy
  exact sorted1_pc (hq a b ha hb) (hq b a hb ha)
 have hlt : ∀ x y, x ∈ l → y ∈ l → (cmV (bf x.toNat y.toNat) (bf y.toNat x.toNat) < 0 ↔ (fun x : Int => ((f x.toNat : Nat) : Int)) x < (fun x : Int => ((f x.toNat : Nat) : Int)) y) := fun x y hx hy => by
  obtain ⟨a, rfl, ha⟩ := hmem x hx
  obtain ⟨b, rfl, hb⟩ := hmem y hy
  rw [cmV_lt, hf _ _ (by simpa using ha) (by simpa using hb)]
  simp only; omega
 refine PN.of ⟨Try.func28, by kernel_rfl, rfl, by kernel_rfl⟩ tabOk mixed (by show 2 ≤ Try.f28.ntmps; decide) ?_
 refine W.seq_region fun K hK => ?_
 simp (disch := omega) only [↓RU, RV, RH, ↓reduceIte, reduceEqDiff, reduceCtorEq, if_pos, ↓RS, RG, reduceAdd, reduceMul, reduceLeDiff, ty0, ty2, tybool, ty9, ty12, ty14, ty20, cells_bm, ic_bm]
 refine hK _ _ ?_;clear hK K
 refine W.joinS [3, 5] (fun vs S => ∃ t tk : Nat, vs = [.ip [.bm q (.agg [eRel L, eRel A])] 0, .loc 0 t 0 l.length] ∧ S = ⟨[.arr t 3 1 ((List.replicate l.length 0).map (.int .i64))], tk⟩) ?_ ?_
 ·
  refine W.region_k fun K hK => ?_
  simp (disch := omega) only [↓RU, RV, RH, ↓reduceIte, reduceEqDiff, reduceCtorEq, if_pos, ↓RS, RG, reduceAdd, reduceMul, reduceLeDiff, ty0, ty2, tyLint, tybool, ty12, ty14, tyint, ty20, hL1, repz_int, ile_true]
  refine hK _ _ ?_;clear hK K
  refine XThen.norm ?_
  refine ⟨0, [2], [.ip [.bm q (.agg [eRel L, eRel A])] 0, .loc 0 3 0 l.length], ⟨[.arr 3 3 1 ((List.replicate l.length 0).map (.int .i64))], 4⟩, ?_, ?_, 3, 4, rfl, rfl⟩
  ·simp [-List.mapM_map, Env.put, Env.of, argEnv, Srn_eq, rnObs_cons, rnObs_nil, rnOb_arr, rnOb_map, rn_loc, rn_ref, rn_mp, rn_int, rn_bool, rn_str, rn_ip, rn_sl, rn_nils, rn_nilp, rn_undef, rn_agg, rn_tup, rn_fn, rfq_loc, rfq_int, rfq_bool, rfq_str, rfq_sl, frOf, List.range_succ, List.mapM_append, List.mapM_cons, rfq_ref, rfq_bm, Store.cellsOf]
  ·simp [-List.mapM_map, Env.put, Env.of, argEnv, Srn_eq, rnObs_cons, rnObs_nil, rnOb_arr, rnOb_map, rn_loc, rn_ref, rn_mp, rn_int, rn_bool, rn_str, rn_ip, rn_sl, rn_nils, rn_nilp, rn_undef, rn_agg, rn_tup, rn_fn, rfq_loc, rfq_int, rfq_bool, rfq_str, rfq_sl, frOf, List.range_succ, List.mapM_append, List.mapM_cons, rn_rep0]
 rintro vs S - ⟨t0, tk0, rfl, rfl⟩
 refine W.seq ?_
 refine W.seq_region fun K hK => ?_
 simp (disch := omega) only [↓RU, RV, RH, ↓reduceIte, reduceEqDiff, reduceCtorEq, if_pos, ↓RS, RG, reduceAdd, reduceMul, reduceLeDiff, tyLint, tyint]
 refine hK _ _ ?_;clear hK K
 refine W.block ?_
 refine W.loop [3, 5, 12, 13] (fun n vs S => ∃ i t tk : Nat, n = l.length - i ∧ i ≤ l.length ∧ vs = [.ip [.bm q (.agg [eRel L, eRel A])] 0, .loc 0 t 0 l.length, .int .i64 l.length, .int .i64 i] ∧ S = ⟨[.arr t 3 1 ((l.take i ++ List.replicate (l.length - i) 0).map (.int .i64))], tk⟩) l.length ?_ ?_
 ·refine ⟨1, 0, t0, tk0, rfl, by omega, ?_, by simp [Store.take]⟩
  simp [Env.put, Env.of, argEnv]
 rintro n vs S - ⟨i, t, tk, rfl, h_i, rfl, rfl⟩
 refine W.seq_region fun K hK => ?_
 simp (disch := omega) only [↓RU, RV, RH, ↓reduceIte, reduceEqDiff, reduceCtorEq, if_pos, w64, ↓RS, RG, reduceAdd, reduceMul, reduceLeDiff, tyint]
 refine hK _ _ ?_;clear hK K
 refine W.seq ?_
 refine W.cond rfl (fun h => ?_) (fun h => ?_)
 ·try simp only [RL] at h
  have hix : l[i]? = some (i : Int) := by rw [hl]; exact rooms_at (by omega)
  have hol : (l.take i ++ List.replicate (l.length - i) 0).length = l.length := by simp; omega
  refine W.skip ?_
  refine XThen.norm ?_
  refine W.seq ?_
  refine W.block ?_
  refine W.seq_region fun K hK => ?_
  simp (disch := omega) only [↓RU, RV, RH, ↓reduceIte, reduceEqDiff, reduceCtorEq, if_pos, ↓RS, RG, reduceAdd, reduceMul, reduceLeDiff]
  refine hK _ _ ?_;clear hK K
  refine W.region_k fun K hK => ?_
  simp (disch := omega) only [↓RU, RV, RH, ↓reduceIte, reduceEqDiff, reduceCtorEq, if_pos, ↓RS, RG, reduceAdd, reduceMul, reduceLeDiff, tyLint, tyint, set_spl, set_int, hol]
  refine hK _ _ ?_;clear hK K
  refine XBlock.norm ?_
  refine XThen.norm ?_
  refine W.region_k fun K hK => ?_
  simp (disch := omega) only [↓RU, RV, RH, ↓reduceIte, reduceEqDiff, reduceCtorEq, if_pos, w64, ↓RS, RG, reduceAdd, reduceMul, reduceLeDiff, tyint]
  refine hK _ _ ?_;clear hK K
  refine XThen.norm ?_
  refine ⟨l.length - (i + 1), by omega, 1, i + 1, t, tk, rfl, by omega, ?_, ?_⟩
  ·simp [Env.put, Env.of]
  ·simp only [take_eq, copy_succ hix]; rfl
 ·try simp only [RL] at h
  obtain rfl : l.length = i := by omega
  rw [List.take_length, Nat.sub_self]
  simp only [List.replicate_zero, List.append_nil]
  refine W.exit ?_
  refine XThen.exit ?_
  refine XThen.exit ?_
  refine XBlock.hit ?_
  refine XThen.norm ?_
  refine W.seq_region fun K hK => ?_
  simp (disch := omega) only [↓RU, RV, RH, ↓reduceIte, reduceEqDiff, reduceCtorEq, if_pos, List.append_nil, ↓RS, RG, reduceAdd, reduceMul, reduceLeDiff]
  refine CallR.ev (sortF_ev (F := []) (R := []) hcm hlt h9 h1) ?_
  rintro _ _ ⟨rfl, z, hz1, hz2, rfl⟩
  simp (disch := omega) only [↓RU, RV, RH, ↓reduceIte, reduceEqDiff, reduceCtorEq, if_pos, List.append_nil, ↓RS, RG, reduceAdd, reduceMul, reduceLeDiff]
  refine hK _ _ ?_;clear hK K
  refine W.seq_region fun K hK => ?_
  simp (disch := omega) only [↓RU, RV, RH, ↓reduceIte, reduceEqDiff, reduceCtorEq, if_pos, ↓RS, RG, reduceAdd, reduceMul, reduceLeDiff]
  refine hK _ _ ?_;clear hK K
  refine W.ret ?_
  refine BodyQ.ret rfl ?_
  have e := hZ z (by rw [← hl]; exact hz1) hz2
  subst e
  exact sh_one rfl (sh_ints _)
end
theorem orderFirst_no {p : List Txt} (hs : Sm p) (hv : plainI p = false) : PC Try.prog 12 [eStrs p] (.tup [eInts [], .bool false]) true := by
 refine PC.of ⟨Try.func12, by kernel_rfl, rfl, by kernel_rfl⟩ tabOk mixed (by show 1 ≤ Try.f12.ntmps; decide) ?_
 refine W.seq_region fun K hK => ?_
 simp (disch := omega) only [↓RU, RV, RH, ↓reduceIte, reduceEqDiff, reduceCtorEq, if_pos, ↓RS, RG, reduceAdd, reduceMul, reduceLeDiff]
 refine hK _ _ ?_;clear hK K
 refine W.seq_region fun K hK => ?_
 simp (disch := omega) only [↓RU, RV, RH, ↓reduceIte, reduceEqDiff, reduceCtorEq, if_pos, List.append_nil, ↓RS, RG, reduceAdd, reduceMul, reduceLeDiff, ty0, ty2, tybool, ty12, ty14, ty20]
 refine CallR.pc (ordersOf_no hs hv) rfl (.inr rfl) ?_
 simp (disch := omega) only [↓RU, RV, RH, ↓reduceIte, reduceEqDiff, reduceCtorEq, if_pos, List.append_nil, ↓RS, RG, reduceAdd, reduceMul, reduceLeDiff, ty0, ty2, tybool, ty12, ty14, ty20]
 refine hK _ _ ?_;clear hK K
 refine W.seq ?_
 refine W.seq_region fun K hK => ?_
 simp (disch := omega) only [↓RU, RV, RH, ↓reduceIte, reduceEqDiff, reduceCtorEq, if_pos, ↓RS, RG, reduceAdd, reduceMul, reduceLeDiff]
 refine hK _ _ ?_;clear hK K
 refine W.cond rfl (fun h => ?_) (fun h => ?_)
 ·try simp only [RL] at h
  refine W.seq_region fun K hK => ?_
  simp (disch := omega) only [↓RU, RV, RH, ↓reduceIte, reduceEqDiff, reduceCtorEq, if_pos, ↓RS, RG, reduceAdd, reduceMul, reduceLeDiff]
  refine hK _ _ ?_;clear hK K
  refine W.ret ?_
  refine XThen.ret ?_
  refine BodyQ.ret rfl ?_
  rfl
 ·try simp only [RL] at h
  exact absurd h (by simp)
theorem orderFirst_yes {p : List Txt} (hs : Sm p) (hv : plainI p = true) : PN Try.prog 12 [eStrs p] (.tup [.loc 0 0 0 (rP p).length, .bool true]) [.arr 0 3 1 ((srt p false).map (.int .i64))] false := by
 have hok := (plain_okB hv).1
 have hn9 := okB_rooms hok
 have hn1 := okB_rooms1 hok
 have hlq := lfM_sq hv
 have haq := abM_sq hv
 have hp : plainB p = true := by rw [← plainI_plain]; exact hv
 obtain ⟨f, hf, hi⟩ := bf_rank hp false
 have hq : ∀ a b : Nat, a < (rP p).length → b < (rP p).length → PC Try.prog 29 [(.agg [eRel (lfM p), eRel (abM p)]), .int .i64 a, .int .i64 b] (.bool (bfK p false a b)) true := fun a b ha hb => before_pc hlq haq ha hb
 refine PN.of ⟨Try.func12, by kernel_rfl, rfl, by kernel_rfl⟩ tabOk mixed (by show 1 ≤ Try.f12.ntmps; decide) ?_
 refine W.seq_region fun K hK => ?_
 simp (disch := omega) only [↓RU, RV, RH, ↓reduceIte, reduceEqDiff, reduceCtorEq, if_pos, ↓RS, RG, reduceAdd, reduceMul, reduceLeDiff]
 refine hK _ _ ?_;clear hK K
 refine W.seq_region fun K hK => ?_
 simp (disch := omega) only [↓RU, RV, RH, ↓reduceIte, reduceEqDiff, reduceCtorEq, if_pos, List.append_nil, ↓RS, RG, reduceAdd, reduceMul, reduceLeDiff, ty0, ty2, tybool, ty12, ty14, ty20]
 refine CallR.pc (ordersOf_yes hs hv) rfl (.inr rfl) ?_
 simp (disch := omega) only [↓RU, RV, RH, ↓reduceIte, reduceEqDiff, reduceCtorEq, if_pos, List.append_nil, ↓RS, RG, reduceAdd, reduceMul, reduceLeDiff, ty0, ty2, tybool, ty12, ty14, ty20]
 refine hK _ _ ?_;clear hK K
 refine W.seq ?_
 refine W.seq_region fun K hK => ?_
 simp (disch := omega) only [↓RU, RV, RH, ↓reduceIte, reduceEqDiff, reduceCtorEq, if_pos, ↓RS, RG, reduceAdd, reduceMul, reduceLeDiff]
 refine hK _ _ ?_;clear hK K
 refine W.cond rfl (fun h => ?_) (fun h => ?_)
 ·try simp only [RL] at h
  exact absurd h (by simp)
 ·try simp only [RL] at h
  refine W.skip ?_
  refine XThen.norm ?_
  refine W.joinS [2, 3] (fun vs S => ∃ t tk : Nat, vs = [.loc 0 t 0 (rP p).length, .bool true] ∧ S = ⟨[.arr t 3 1 ((srt p false).map (.int .i64))], tk⟩) ?_ ?_
  ·
   refine W.region_k fun K hK => ?_
   simp (disch := omega) only [↓RU, RV, RH, ↓reduceIte, reduceEqDiff, reduceCtorEq, if_pos, List.append_nil, ↓RS, RG, reduceAdd, reduceMul, reduceLeDiff, ty0, ty2, tybool, ty12, ty14, ty20, pure_oa, List.isEmpty_nil, Bool.and_self]
   refine CallR.pn (sorted_pn hlq hn1 hn9 hq hf (fun z h1 h2 => srt_is hf hi h1 h2)) rfl (.inl rfl) ?_
   simp (disch := omega) only [↓RU, RV, RH, ↓reduceIte, reduceEqDiff, reduceCtorEq, if_pos, List.append_nil, ↓RS, RG, reduceAdd, reduceMul, reduceLeDiff, ty0, ty2, tybool, ty12, ty14, ty20, pure_oa, List.isEmpty_nil, Bool.and_self, RN]
   refine hK _ _ ?_;clear hK K
   refine XThen.norm ?_
   refine ⟨0, [1], [.loc 0 2 0 (rP p).length, .bool true], ⟨[.arr 2 3 1 ((srt p false).map (.int .i64))], 3⟩, ?_, ?_, 2, 3, rfl, rfl⟩
   ·simp [-List.mapM_map, Env.put, Env.of, argEnv, Srn_eq, rnObs_cons, rnObs_nil, rnOb_arr, rnOb_map, rn_loc, rn_ref, rn_mp, rn_int, rn_bool, rn_str, rn_ip, rn_sl, rn_nils, rn_nilp, rn_undef, rn_agg, rn_tup, rn_fn, rfq_loc, rfq_int, rfq_bool, rfq_str, rfq_sl, frOf, List.range_succ, List.mapM_append, List.mapM_cons, Store.cellsOf]
   ·simp [-List.mapM_map, Env.put, Env.of, argEnv, Srn_eq, rnObs_cons, rnObs_nil, rnOb_arr, rnOb_map, rn_loc, rn_ref, rn_mp, rn_int, rn_bool, rn_str, rn_ip, rn_sl, rn_nils, rn_nilp, rn_undef, rn_agg, rn_tup, rn_fn, rfq_loc, rfq_int, rfq_bool, rfq_str, rfq_sl, frOf, List.range_succ, List.mapM_append, List.mapM_cons, rn_ints]
  rintro vs S - ⟨t0, tk0, rfl, rfl⟩
  refine W.ret ?_
  refine BodyQ.ret rfl ?_
  exact sh_one2 rfl (sh_ints _)
theorem countP_succ {f : Nat → Bool} {b : Nat} : (List.range (b + 1)).countP f = (List.range b).countP f + (if f b then 1 else 0) := by
 rw [List.range_succ, List.countP_append]; simp
theorem plain_spec {p : List Txt} (hp : plainB p = true) : gridB p = true ∧ l1Rooms p = (rP p).length ∧ (rP p).length ≤ 9 ∧ 1 ≤ (rP p).length ∧ (∀ a b, a < (rP p).length → b < (rP p).length → bitOf (allS p 0) a b = getB (lfM p) a b) ∧ ∀ a b, a < (rP p).length → b < (rP p).length → bitOf (allS p 1) a b = getB (abM p) a b := by
 have hpl := plain_plan hp
 have hN := plan_named hpl
 have hr := hN.rooms
 have h1 := hp
 rw [← plainI_plain] at h1
 have hok : okB p = true := by
  have h9 := h1
  unfold plainI floorI at h9
  simp only [Bool.and_eq_true] at h9
  exact h9.1.1
 obtain ⟨s0, s1⟩ := same_all hN.hg (n := (rP p).length) (by omega) (fun i j hi hj => hN.cell hi hj) gP_room
 exact ⟨hN.hg, hr, okB_rooms hok, okB_rooms1 hok, fun a b ha hb => (s0.2.2 a b ha hb).symm, fun a b ha hb => (s1.2.2 a b ha hb).symm⟩
theorem l5Sorted_pn {p : List Txt} (hs : Sm p) (hp : plainB p = true) (below : Bool) : PN Try.prog 27 [eStrs p, .bool below] (.loc 0 0 0 (rP p).length) [.arr 0 3 1 ((srt p below).map (.int .i64))] false := by
 obtain ⟨hg, hr, hn9, hn1, e0, e1⟩ := plain_spec hp
 have h9 : l1Rooms p ≤ 9 := by omega
 have hm0 := allS_msk hg h9 0
 have hm1 := allS_msk hg h9 1
 obtain ⟨f, hf, hi⟩ := bf_rank hp below
 have hahl : ∀ a, a < (rP p).length → ahK p below a < (rP p).length := fun a ha => by rw [ahK_is hf ha]; exact ahead_n ha
 obtain ⟨nr, hnr⟩ : ∃ nr : Nat, (rP p).length = nr := ⟨_, rfl⟩
 unfold srt
 rw [hnr] at hr hn9 hn1 e0 e1 hahl ⊢
 rw [show (l1Rooms p).toNat = nr by omega] at hm0 hm1
 have hml := hm0.1
 have hml1 := hm1.1
 refine PN.of ⟨Try.func27, by kernel_rfl, rfl, by kernel_rfl⟩ tabOk mixed (by show 2 ≤ Try.f27.ntmps; decide) ?_
 refine W.seq_region fun K hK => ?_
 simp (disch := omega) only [↓RU, RV, RH, ↓reduceIte, reduceEqDiff, reduceCtorEq, if_pos, ↓RS, RG, reduceAdd, reduceMul, reduceLeDiff]
 refine hK _ _ ?_;clear hK K
 refine W.seq_region fun K hK => ?_
 simp (disch := omega) only [↓RU, RV, RH, ↓reduceIte, reduceEqDiff, reduceCtorEq, if_pos, List.append_nil, ↓RS, RG, reduceAdd, reduceMul, reduceLeDiff]
 refine CallR.pc (l5All_pc hs hg h9 0) rfl (.inl rfl) ?_
 simp (disch := omega) only [↓RU, RV, RH, ↓reduceIte, reduceEqDiff, reduceCtorEq, if_pos, List.append_nil, ↓RS, RG, reduceAdd, reduceMul, reduceLeDiff]
 refine hK _ _ ?_;clear hK K
 refine W.seq_region fun K hK => ?_
 simp (disch := omega) only [↓RU, RV, RH, ↓reduceIte, reduceEqDiff, reduceCtorEq, if_pos, List.append_nil, ↓RS, RG, reduceAdd, reduceMul, reduceLeDiff]
 refine CallR.pc (l5All_pc hs hg h9 1) rfl (.inl rfl) ?_
 simp (disch := omega) only [↓RU, RV, RH, ↓reduceIte, reduceEqDiff, reduceCtorEq, if_pos, List.append_nil, ↓RS, RG, reduceAdd, reduceMul, reduceLeDiff]
 refine hK _ _ ?_;clear hK K
 refine W.seq_region fun K hK => ?_
 simp (disch := omega) only [↓RU, RV, RH, ↓reduceIte, reduceEqDiff, reduceCtorEq, if_pos, ↓RS, RG, reduceAdd, reduceMul, reduceLeDiff, tyLint, tyint, hml]
 refine hK _ _ ?_;clear hK K
 refine W.seq_region fun K hK => ?_
 simp (disch := omega) only [↓RU, RV, RH, ↓reduceIte, reduceEqDiff, reduceCtorEq, if_pos, ↓RS, RG, reduceAdd, reduceMul, reduceLeDiff, tyLint, tyint, repz_int, ile_true]
 refine hK _ _ ?_;clear hK K
 refine W.seq ?_
 refine W.seq_region fun K hK => ?_
 simp (disch := omega) only [↓RU, RV, RH, ↓reduceIte, reduceEqDiff, reduceCtorEq, if_pos, ↓RS, RG, reduceAdd, reduceMul, reduceLeDiff]
 refine hK _ _ ?_;clear hK K
 refine W.block ?_
 refine W.loop [0, 1, 5, 6, 7, 8, 9] (fun n vs S => ∃ a : Nat, n = nr - a ∧ a ≤ nr ∧ vs = [eStrs p, .bool below, eNats (allS p 0), eNats (allS p 1), .int .i64 nr, .loc 0 0 0 nr, .int .i64 a] ∧ S = ⟨[.arr 0 3 1 ((putAll (ahK p below) nr a).map (.int .i64))], 1⟩) (nr) ?_ ?_
 ·refine ⟨1, 0, rfl, Nat.zero_le _, ?_, by simp [take_eq, putAll]⟩
  simp [Env.put, Env.of, argEnv]
 rintro n vs S - ⟨a, rfl, h_a, rfl, rfl⟩
 refine W.seq ?_
 refine W.seq_region fun K hK => ?_
 simp (disch := omega) only [↓RU, RV, RH, ↓reduceIte, reduceEqDiff, reduceCtorEq, if_pos, w64, ↓RS, RG, reduceAdd, reduceMul, reduceLeDiff, tyint]
 refine hK _ _ ?_;clear hK K
 refine W.cond rfl (fun h => ?_) (fun h => ?_)
 ·try simp only [RL] at h
  have hal := putAll_len (ah := ahK p below) (n := nr) a
  have hah := hahl a (by omega)
  refine W.skip ?_
  refine XThen.norm ?_
  refine W.seq ?_
  refine W.block ?_
  refine W.seq_region fun K hK => ?_
  simp (disch := omega) only [↓RU, RV, RH, ↓reduceIte, reduceEqDiff, reduceCtorEq, if_pos, ↓RS, RG, reduceAdd, reduceMul, reduceLeDiff]
  refine hK _ _ ?_;clear hK K
  refine W.seq ?_
  refine W.seq_region fun K hK => ?_
  simp (disch := omega) only [↓RU, RV, RH, ↓reduceIte, reduceEqDiff, reduceCtorEq, if_pos, ↓RS, RG, reduceAdd, reduceMul, reduceLeDiff]
  refine hK _ _ ?_;clear hK K
  refine W.block ?_
  refine W.loop [0, 1, 5, 6, 7, 8, 9, 10, 11] (fun n vs S => ∃ b : Nat, n = nr - b ∧ b ≤ nr ∧ vs = [eStrs p, .bool below, eNats (allS p 0), eNats (allS p 1), .int .i64 nr, .loc 0 0 0 nr, .int .i64 a, .int .i64 (((List.range b).countP fun c => bfK p below c a) : Nat), .int .i64 b] ∧ S = ⟨[.arr 0 3 1 ((putAll (ahK p below) nr a).map (.int .i64))], 1⟩) nr ?_ ?_
  ·refine ⟨1, 0, rfl, Nat.zero_le _, ?_, rfl⟩
   simp [Env.put, Env.of]
  rintro n vs S - ⟨b, rfl, h_b, rfl, rfl⟩
  refine W.seq ?_
  refine W.seq_region fun K hK => ?_
  simp (disch := omega) only [↓RU, RV, RH, ↓reduceIte, reduceEqDiff, reduceCtorEq, if_pos, w64, ↓RS, RG, reduceAdd, reduceMul, reduceLeDiff, tyint]
  refine hK _ _ ?_;clear hK K
  refine W.cond rfl (fun h1 => ?_) (fun h1 => ?_)
  ·try simp only [RL] at h1
   have hcl : ((List.range b).countP fun c => bfK p below c a) ≤ b := by have := List.countP_le_length (p := fun c => bfK p below c a) (l := List.range b); simpa using this
   obtain ⟨m, hm, hm5⟩ := hm0.at_ (show b < nr by omega)
   obtain ⟨k, hk, hk5⟩ := hm1.at_ (show a < nr by omega)
   obtain ⟨o, ho, ho5⟩ := hm1.at_ (show b < nr by omega)
   have e0m := e0 b a (by omega) (by omega)
   have e1k := e1 a b (by omega) (by omega)
   have e1o := e1 b a (by omega) (by omega)
   rw [bitOf_is hm] at e0m
   rw [bitOf_is hk] at e1k
   rw [bitOf_is ho] at e1o
   refine W.skip ?_
   refine XThen.norm ?_
   refine W.seq ?_
   refine W.block ?_
   refine W.seq_region fun K hK => ?_
   simp (disch := omega) only [↓RU, RV, RH, ↓reduceIte, reduceEqDiff, reduceCtorEq, if_pos, w64, ↓RS, RG, reduceAdd, reduceMul, reduceLeDiff, tyLint, tyint, hm, hml, pShr, w_bit]
   refine hK _ _ ?_;clear hK K
   refine W.join [0, 1, 5, 6, 7, 8, 9, 10, 11, 12] (fun vs S => vs = [eStrs p, .bool below, eNats (allS p 0), eNats (allS p 1), .int .i64 nr, .loc 0 0 0 nr, .int .i64 a, .int .i64 (((List.range b).countP fun c => bfK p below c a) : Nat), .int .i64 b, .bool (bfK p below b a)] ∧ S = ⟨[.arr 0 3 1 ((putAll (ahK p below) nr a).map (.int .i64))], 1⟩) ?_ ?_
   ·
    refine W.seq_region fun K hK => ?_
    simp (disch := omega) only [↓RU, RV, RH, ↓reduceIte, reduceEqDiff, reduceCtorEq, if_pos, ↓RS, RG, reduceAdd, reduceMul, reduceLeDiff]
    refine hK _ _ ?_;clear hK K
    refine W.cond rfl (fun h2 => ?_) (fun h2 => ?_)
    ·try simp only [RL] at h2
     refine W.region_k fun K hK => ?_
     cases hx : m.testBit a
     ·skip
      simp (disch := omega) only [↓RU, RV, RH, ↓reduceIte, reduceEqDiff, reduceCtorEq, if_pos, w64, ↓RS, RG, reduceAdd, reduceMul, reduceLeDiff, tyLint, tyint, hk, hml1, pShr, w_bit]
      refine hK _ _ ?_;clear hK K
      refine XThen.norm ?_
      refine ⟨1, ?_, ?_⟩
      ·simp [Env.put, Env.of, bfK, bf2, h2, ← e0m, ← e1k, hx]
      ·rfl
     ·skip
      simp (disch := omega) only [↓RU, RV, RH, ↓reduceIte, reduceEqDiff, reduceCtorEq, if_pos, w64, ↓RS, RG, reduceAdd, reduceMul, reduceLeDiff, tyLint, tyint, hk, hml1, pShr, w_bit]
      refine hK _ _ ?_;clear hK K
      refine XThen.norm ?_
      refine ⟨1, ?_, ?_⟩
      ·simp [Env.put, Env.of, bfK, bf2, h2, ← e0m, hx]
      ·rfl
    ·try simp only [RL] at h2
     refine W.region_k fun K hK => ?_
     cases hx : m.testBit a
     ·skip
      simp (disch := omega) only [↓RU, RV, RH, ↓reduceIte, reduceEqDiff, reduceCtorEq, if_pos, w64, ↓RS, RG, reduceAdd, reduceMul, reduceLeDiff, tyLint, tyint, ho, hml1, pShr, w_bit]
      refine hK _ _ ?_;clear hK K
      refine XThen.norm ?_
      refine ⟨1, ?_, ?_⟩
      ·simp [Env.put, Env.of, bfK, bf1, h2, ← e0m, ← e1o, hx]
      ·rfl
     ·skip
      simp (disch := omega) only [↓RU, RV, RH, ↓reduceIte, reduceEqDiff, reduceCtorEq, if_pos, w64, ↓RS, RG, reduceAdd, reduceMul, reduceLeDiff, tyLint, tyint, ho, hml1, pShr, w_bit]
      refine hK _ _ ?_;clear hK K
      refine XThen.norm ?_
      refine ⟨1, ?_, ?_⟩
      ·simp [Env.put, Env.of, bfK, bf1, h2, ← e0m, hx]
      ·rfl
   rintro vs S - ⟨rfl, rfl⟩
   refine W.seq_region fun K hK => ?_
   simp (disch := omega) only [↓RU, RV, RH, ↓reduceIte, reduceEqDiff, reduceCtorEq, if_pos, ↓RS, RG, reduceAdd, reduceMul, reduceLeDiff]
   refine hK _ _ ?_;clear hK K
   refine W.cond rfl (fun h3 => ?_) (fun h3 => ?_)
   ·try simp only [RL] at h3
    refine W.region_k fun K hK => ?_
    simp (disch := omega) only [↓RU, RV, RH, ↓reduceIte, reduceEqDiff, reduceCtorEq, if_pos, w64, ↓RS, RG, reduceAdd, reduceMul, reduceLeDiff, tyint]
    refine hK _ _ ?_;clear hK K
    refine XBlock.norm ?_
    refine XThen.norm ?_
    refine W.region_k fun K hK => ?_
    simp (disch := omega) only [↓RU, RV, RH, ↓reduceIte, reduceEqDiff, reduceCtorEq, if_pos, w64, ↓RS, RG, reduceAdd, reduceMul, reduceLeDiff, tyint]
    refine hK _ _ ?_;clear hK K
    refine XThen.norm ?_
    refine ⟨nr - (b + 1), by omega, 1, b + 1, rfl, by omega, ?_, rfl⟩
    simp only [countP_succ, h3]
    simp [Env.put, Env.of]
   ·try simp only [RL] at h3
    refine W.skip ?_
    refine XBlock.norm ?_
    refine XThen.norm ?_
    refine W.region_k fun K hK => ?_
    simp (disch := omega) only [↓RU, RV, RH, ↓reduceIte, reduceEqDiff, reduceCtorEq, if_pos, w64, ↓RS, RG, reduceAdd, reduceMul, reduceLeDiff, tyint]
    refine hK _ _ ?_;clear hK K
    refine XThen.norm ?_
    refine ⟨nr - (b + 1), by omega, 1, b + 1, rfl, by omega, ?_, rfl⟩
    simp only [countP_succ, h3]
    simp [Env.put, Env.of]
  ·try simp only [RL] at h1
   obtain rfl : nr = b := by omega
   have hcq : ((List.range nr).countP fun c => bfK p below c a) = ahK p below a := by unfold ahK; rw [hnr]
   refine W.exit ?_
   refine XThen.exit ?_
   refine XThen.exit ?_
   refine XBlock.hit ?_
   refine XThen.norm ?_
   refine W.region_k fun K hK => ?_
   rw [hcq]
   simp (disch := omega) only [↓RU, RV, RH, ↓reduceIte, reduceEqDiff, reduceCtorEq, if_pos, ↓RS, RG, reduceAdd, reduceMul, reduceLeDiff, tyLint, tyint, hal, set_spl, set_int]
   refine hK _ _ ?_;clear hK K
   refine XBlock.norm ?_
   refine XThen.norm ?_
   refine W.region_k fun K hK => ?_
   simp (disch := omega) only [↓RU, RV, RH, ↓reduceIte, reduceEqDiff, reduceCtorEq, if_pos, w64, ↓RS, RG, reduceAdd, reduceMul, reduceLeDiff, tyint]
   refine hK _ _ ?_;clear hK K
   refine XThen.norm ?_
   refine ⟨nr - (a + 1), by omega, 1, a + 1, rfl, by omega, ?_, ?_⟩
   ·simp [Env.put, Env.of]
   ·simp only [take_eq, putAll]; rfl
 ·try simp only [RL] at h
  obtain rfl : nr = a := by omega
  refine W.exit ?_
  refine XThen.exit ?_
  refine XThen.exit ?_
  refine XBlock.hit ?_
  refine XThen.norm ?_
  refine W.seq_region fun K hK => ?_
  simp (disch := omega) only [↓RU, RV, RH, ↓reduceIte, reduceEqDiff, reduceCtorEq, if_pos, ↓RS, RG, reduceAdd, reduceMul, reduceLeDiff]
  refine hK _ _ ?_;clear hK K
  refine W.ret ?_
  refine BodyQ.ret rfl ?_
  rw [← hnr]
  exact sh_one rfl (sh_ints _)
section
section
variable {p : List Txt} {below : Bool}
end
end
section
section
variable {P : Program} {T : Tab} {F : Nat → Prop} {G : GSt} {w : World} {e : Env} {a : Act} {F0 : Nat → Prop} {G0 : GSt} {w0 : World} {N : Nat}
end
section
variable {P : Program} {T : Tab} {Q : Exit → Env → Store → Prop} {e : Env} {S : Store} {b : Code}
end
end






section
section
variable {M : List (List Bool)} {ws : List Int} {n : Nat} {rk : Nat → Nat}
end
end




theorem PN.ints0 {P : Program} {f : FuncId} {args : List PV} {l : List Int} {n : Nat} {im : Bool} (h : PN P f args (.loc 0 0 0 n) [.arr 0 3 1 (l.map (.int .i64))] im) (h1 : args.mapM (reify ⟨[], 0⟩ true 10) = some args) (hl : l.length = n) : PC P f args (eInts l) true := by
 refine PN.pc h h1 ?_
 subst hl
 simp only [up_loc, List.map_cons, List.map_nil, upOb_arr, up_ints, Nat.add_zero]
 exact reify_loc (k := 9) rfl (by simp) (mapM_int _)
def ifL (b : Bool) (l : List Int) : List Int := if b then l else []
theorem l5Sorted_pc {p : List Txt} (hs : Sm p) (hp : plainB p = true) (below : Bool) : PC Try.prog 27 [eStrs p, .bool below] (eInts (srt p below)) true := PN.ints0 (l5Sorted_pn hs hp below) rfl srt_len
theorem sOrderFirst_pc {p : List Txt} (hs : Sm p) : PC Try.prog 10 [eStrs p] (.tup [eInts (ifL (plainB p) (srt p false)), .bool (plainB p)]) false := by
 refine PC.of ⟨Try.func10, by kernel_rfl, rfl, by kernel_rfl⟩ tabOk mixed (by show 1 ≤ Try.f10.ntmps; decide) ?_
 refine W.seq_region fun K hK => ?_
 simp (disch := omega) only [↓RU, RV, RH, ↓reduceIte, reduceEqDiff, reduceCtorEq, if_pos, ↓RS, RG, reduceAdd, reduceMul, reduceLeDiff]
 refine hK _ _ ?_;clear hK K
 refine W.seq ?_
 refine W.seq_region fun K hK => ?_
 simp (disch := omega) only [↓RU, RV, RH, ↓reduceIte, reduceEqDiff, reduceCtorEq, if_pos, List.append_nil, ↓RS, RG, reduceAdd, reduceMul, reduceLeDiff]
 refine CallR.pc (l5Plain_pc hs) rfl (.inl rfl) ?_
 simp (disch := omega) only [↓RU, RV, RH, ↓reduceIte, reduceEqDiff, reduceCtorEq, if_pos, List.append_nil, ↓RS, RG, reduceAdd, reduceMul, reduceLeDiff]
 refine hK _ _ ?_;clear hK K
 refine W.cond rfl (fun h0 => ?_) (fun h0 => ?_)
 ·try simp only [RL] at h0
  have h : plainB p = false := by simpa using h0
  refine W.seq_region fun K hK => ?_
  simp (disch := omega) only [↓RU, RV, RH, ↓reduceIte, reduceEqDiff, reduceCtorEq, if_pos, ↓RS, RG, reduceAdd, reduceMul, reduceLeDiff, tyLint, tyint]
  refine hK _ _ ?_;clear hK K
  refine W.ret ?_
  refine XThen.ret ?_
  refine BodyQ.ret rfl ?_
  rw [h]
  rfl
 ·try simp only [RL] at h0
  have h : plainB p = true := by simpa using h0
  refine W.skip ?_
  refine XThen.norm ?_
  refine W.seq_region fun K hK => ?_
  simp (disch := omega) only [↓RU, RV, RH, ↓reduceIte, reduceEqDiff, reduceCtorEq, if_pos, List.append_nil, ↓RS, RG, reduceAdd, reduceMul, reduceLeDiff]
  refine CallR.pc (l5Sorted_pc hs h false) rfl (.inl rfl) ?_
  simp (disch := omega) only [↓RU, RV, RH, ↓reduceIte, reduceEqDiff, reduceCtorEq, if_pos, List.append_nil, ↓RS, RG, reduceAdd, reduceMul, reduceLeDiff]
  refine hK _ _ ?_;clear hK K
  refine W.ret ?_
  refine BodyQ.ret rfl ?_
  rw [h]
  rfl
theorem tStr_pc {p : List Txt} (hp : p.length ≤ 1048576) : PC Try.prog 11 [eStrs p] (eStrs p) true :=
 PN.pc (toStringS_pn hp) rfl (by simp only [List.map_cons, List.map_nil, upOb_arr, up_loc, up_strs, Nat.add_zero]; exact reify_loc rfl (by simp) (mapM_str _))
theorem orderFirstLaw_no {p : List Txt} (hl : p.length ≤ 9223372036854775807) (hr : ∀ r ∈ p, r.length ≤ 9223372036854775807)
  (hspec : Sm p → PC Try.prog 10 [eStrs p] (.tup [eInts ([] : List Int), .bool false]) false)
  (himp : Sm p → PC Try.prog 12 [eStrs p] (.tup [eInts [], .bool false]) true) : PC Try.prog 4 [eStrs p] (.bool true) true := by
 refine PC.of ⟨Try.func4, by kernel_rfl, rfl, by kernel_rfl⟩ tabOk mixed (by show 1 ≤ Try.f4.ntmps; decide) ?_
 refine W.seq_region fun K hK => ?_
 simp (disch := omega) only [↓RU, RV, RH, ↓reduceIte, reduceEqDiff, reduceCtorEq, if_pos, ↓RS, RG, reduceAdd, reduceMul, reduceLeDiff]
 refine hK _ _ ?_;clear hK K
 refine W.seq_region fun K hK => ?_
 simp (disch := omega) only [↓RU, RV, RH, ↓reduceIte, reduceEqDiff, reduceCtorEq, if_pos, ↓RS, RG, reduceAdd, reduceMul, reduceLeDiff]
 refine hK _ _ ?_;clear hK K
 refine W.seq_region fun K hK => ?_
 simp (disch := omega) only [↓RU, RV, RH, ↓reduceIte, reduceEqDiff, reduceCtorEq, if_pos, List.append_nil, ↓RS, RG, reduceAdd, reduceMul, reduceLeDiff]
 refine CallR.pc (szStringS_pc hl hr (left := 1048576) (by omega) (by omega)) rfl (.inl rfl) ?_
 simp (disch := omega) only [↓RU, RV, RH, ↓reduceIte, reduceEqDiff, reduceCtorEq, if_pos, List.append_nil, ↓RS, RG, reduceAdd, reduceMul, reduceLeDiff]
 refine hK _ _ ?_;clear hK K
 refine W.seq ?_
 refine W.seq_region fun K hK => ?_
 simp (disch := omega) only [↓RU, RV, RH, ↓reduceIte, reduceEqDiff, reduceCtorEq, if_pos, w64, ↓RS, RG, reduceAdd, reduceMul, reduceLeDiff, tyint]
 refine hK _ _ ?_;clear hK K
 refine W.cond rfl (fun h0 => ?_) (fun h0 => ?_)
 ·try simp only [RL] at h0
  refine W.seq_region fun K hK => ?_
  simp (disch := omega) only [↓RU, RV, RH, ↓reduceIte, reduceEqDiff, reduceCtorEq, if_pos, ↓RS, RG, reduceAdd, reduceMul, reduceLeDiff]
  refine hK _ _ ?_;clear hK K
  refine W.ret ?_
  refine XThen.ret ?_
  refine BodyQ.ret rfl ?_
  rfl
 ·try simp only [RL] at h0
  have hs : Sm p := sz_sm (Int.le_refl _) (by omega)
  have hs1 := hs.1
  refine W.skip ?_
  refine XThen.norm ?_
  refine W.seq_region fun K hK => ?_
  simp (disch := omega) only [↓RU, RV, RH, ↓reduceIte, reduceEqDiff, reduceCtorEq, if_pos, List.append_nil, ↓RS, RG, reduceAdd, reduceMul, reduceLeDiff]
  refine CallR.pc (tStr_pc hs1) rfl (.inl rfl) ?_
  simp (disch := omega) only [↓RU, RV, RH, ↓reduceIte, reduceEqDiff, reduceCtorEq, if_pos, List.append_nil, ↓RS, RG, reduceAdd, reduceMul, reduceLeDiff]
  refine CallR.pc (hspec hs) rfl (.inr rfl) ?_
  simp (disch := omega) only [↓RU, RV, RH, ↓reduceIte, reduceEqDiff, reduceCtorEq, if_pos, List.append_nil, ↓RS, RG, reduceAdd, reduceMul, reduceLeDiff]
  refine hK _ _ ?_;clear hK K
  refine W.seq_region fun K hK => ?_
  simp (disch := omega) only [↓RU, RV, RH, ↓reduceIte, reduceEqDiff, reduceCtorEq, if_pos, List.append_nil, ↓RS, RG, reduceAdd, reduceMul, reduceLeDiff]
  refine CallR.pn (toStringS_pn hs1) rfl (.inl rfl) ?_
  simp (disch := omega) only [↓RU, RV, RH, ↓reduceIte, reduceEqDiff, reduceCtorEq, if_pos, List.append_nil, ↓RS, RG, reduceAdd, reduceMul, reduceLeDiff, RN]
  refine hK _ _ ?_;clear hK K
  refine W.seq_region fun K hK => ?_
  simp (disch := omega) only [↓RU, RV, RH, ↓reduceIte, reduceEqDiff, reduceCtorEq, if_pos, List.append_nil, ↓RS, RG, reduceAdd, reduceMul, reduceLeDiff]
  refine CallR.pc (himp hs) (mapM_one (reify_loc (k := 9) rfl (by simp) (mapM_str _)) rfl) (.inl rfl) ?_
  simp (disch := omega) only [↓RU, RV, RH, ↓reduceIte, reduceEqDiff, reduceCtorEq, if_pos, List.append_nil, ↓RS, RG, reduceAdd, reduceMul, reduceLeDiff]
  refine hK _ _ ?_;clear hK K
  refine W.seq ?_
  refine W.seq_region fun K hK => ?_
  simp (disch := omega) only [↓RU, RV, RH, ↓reduceIte, reduceEqDiff, reduceCtorEq, if_pos, List.append_nil, w64, ↓RS, RG, reduceAdd, reduceMul, reduceLeDiff, tybool]
  refine CallR.pc (eqIntS_pc (p := ([] : List Int)) (q := ([] : List Int)) (by simp) (by simp)) (mapM_one rfl (mapM_one rfl rfl)) (.inl rfl) ?_
  simp (disch := omega) only [↓RU, RV, RH, ↓reduceIte, reduceEqDiff, reduceCtorEq, if_pos, List.append_nil, w64, ↓RS, RG, reduceAdd, reduceMul, reduceLeDiff, tybool, decide_true, Bool.not_true, bne_self_eq_false]
  refine hK _ _ ?_;clear hK K
  refine W.cond rfl (fun h2 => ?_) (fun h2 => ?_)
  ·try simp only [RL] at h2
   first | (exfalso; omega) | exact absurd h2 (by simp)
  ·try simp only [RL] at h2
   refine W.skip ?_
   refine XThen.norm ?_
   refine W.seq ?_
   refine W.seq_region fun K hK => ?_
   simp (disch := omega) only [↓RU, RV, RH, ↓reduceIte, reduceEqDiff, reduceCtorEq, if_pos, List.append_nil, ↓RS, RG, reduceAdd, reduceMul, reduceLeDiff]
   refine CallR.pc (tStr_pc hs1) rfl (.inl rfl) ?_
   simp (disch := omega) only [↓RU, RV, RH, ↓reduceIte, reduceEqDiff, reduceCtorEq, if_pos, List.append_nil, ↓RS, RG, reduceAdd, reduceMul, reduceLeDiff]
   refine CallR.pc (eqStringS_pc (p := p) (q := p) (by omega) (by omega)) (mapM_one (reify_loc (k := 9) rfl (by simp) (mapM_str _)) (mapM_one rfl rfl)) (.inl rfl) ?_
   simp (disch := omega) only [↓RU, RV, RH, ↓reduceIte, reduceEqDiff, reduceCtorEq, if_pos, List.append_nil, ↓RS, RG, reduceAdd, reduceMul, reduceLeDiff]
   refine hK _ _ ?_;clear hK K
   refine W.cond rfl (fun h3 => ?_) (fun h3 => ?_)
   ·try simp only [RL] at h3
    first | (exfalso; omega) | exact absurd h3 (by simp)
   ·try simp only [RL] at h3
    refine W.skip ?_
    refine XThen.norm ?_
    refine W.seq_region fun K hK => ?_
    simp (disch := omega) only [↓RU, RV, RH, ↓reduceIte, reduceEqDiff, reduceCtorEq, if_pos, ↓RS, RG, reduceAdd, reduceMul, reduceLeDiff]
    refine hK _ _ ?_;clear hK K
    refine W.seq_region fun K hK => ?_
    simp (disch := omega) only [↓RU, RV, RH, ↓reduceIte, reduceEqDiff, reduceCtorEq, if_pos, List.append_nil, ↓RS, RG, reduceAdd, reduceMul, reduceLeDiff]
    refine CallR.ev (markStringS_ev (F := []) (R := []) (l := p) hs1 (k0 := 1) (by omega) (by omega)) ?_
    rintro _ _ ⟨rfl, t1, ht1, rfl⟩
    simp (disch := omega) only [↓RU, RV, RH, ↓reduceIte, reduceEqDiff, reduceCtorEq, if_pos, List.append_nil, ↓RS, RG, reduceAdd, reduceMul, reduceLeDiff, List.nil_append, List.cons_append, List.append_nil]
    refine hK _ _ ?_;clear hK K
    refine W.seq ?_
    refine W.seq_region fun K hK => ?_
    have hk0 : decide ((1 + (p.length : Int)) < 0) = false := by simp; omega
    simp (disch := omega) only [↓RU, RV, RH, ↓reduceIte, reduceEqDiff, reduceCtorEq, if_pos, w64, List.append_nil, ↓RS, RG, reduceAdd, reduceMul, reduceLeDiff, tybool, tyint, hk0]
    refine CallR.pc (eqIntS_pc (p := ([] : List Int)) (q := ([] : List Int)) (by simp) (by simp)) (mapM_one rfl (mapM_one rfl rfl)) (.inl rfl) ?_
    simp (disch := omega) only [↓RU, RV, RH, ↓reduceIte, reduceEqDiff, reduceCtorEq, if_pos, w64, List.append_nil, ↓RS, RG, reduceAdd, reduceMul, reduceLeDiff, tybool, tyint, hk0, decide_true, Bool.not_true, bne_self_eq_false]
    refine hK _ _ ?_;clear hK K
    refine W.cond rfl (fun h4 => ?_) (fun h4 => ?_)
    ·try simp only [RL] at h4
     first | (exfalso; omega) | exact absurd h4 (by simp)
    ·try simp only [RL] at h4
     refine W.skip ?_
     refine XThen.norm ?_
     refine W.seq_region fun K hK => ?_
     simp (disch := omega) only [↓RU, RV, RH, ↓reduceIte, reduceEqDiff, reduceCtorEq, if_pos, ↓RS, RG, reduceAdd, reduceMul, reduceLeDiff]
     refine hK _ _ ?_;clear hK K
     refine W.seq_region fun K hK => ?_
     simp (disch := omega) only [↓RU, RV, RH, ↓reduceIte, reduceEqDiff, reduceCtorEq, if_pos, List.append_nil, ↓RS, RG, reduceAdd, reduceMul, reduceLeDiff]
     refine CallR.pc (markIntS0_pc 1) rfl (.inl rfl) ?_
     simp (disch := omega) only [↓RU, RV, RH, ↓reduceIte, reduceEqDiff, reduceCtorEq, if_pos, List.append_nil, ↓RS, RG, reduceAdd, reduceMul, reduceLeDiff]
     refine hK _ _ ?_;clear hK K
     refine W.seq_region fun K hK => ?_
     simp (disch := omega) only [↓RU, RV, RH, ↓reduceIte, reduceEqDiff, reduceCtorEq, if_pos, ↓RS, RG, reduceAdd, reduceMul, reduceLeDiff]
     refine hK _ _ ?_;clear hK K
     refine W.seq_region fun K hK => ?_
     simp (disch := omega) only [↓RU, RV, RH, ↓reduceIte, reduceEqDiff, reduceCtorEq, if_pos, List.append_nil, ↓RS, RG, reduceAdd, reduceMul, reduceLeDiff]
     refine CallR.pc (heldIntS_pc (l := []) (k0 := 1) (by simp) (by omega) (by omega) (fun j h => absurd h (by simp))) rfl (.inl rfl) ?_
     simp (disch := omega) only [↓RU, RV, RH, ↓reduceIte, reduceEqDiff, reduceCtorEq, if_pos, List.append_nil, ↓RS, RG, reduceAdd, reduceMul, reduceLeDiff, List.length_nil]
     refine hK _ _ ?_;clear hK K
     refine W.seq ?_
     refine W.seq_region fun K hK => ?_
     simp (disch := omega) only [↓RU, RV, RH, ↓reduceIte, reduceEqDiff, reduceCtorEq, if_pos, w64, ↓RS, RG, reduceAdd, reduceMul, reduceLeDiff, tyint]
     refine hK _ _ ?_;clear hK K
     refine W.cond rfl (fun h5 => ?_) (fun h5 => ?_)
     ·try simp only [RL] at h5
      first | (exfalso; omega) | exact absurd h5 (by simp)
     ·try simp only [RL] at h5
      refine W.skip ?_
      refine XThen.norm ?_
      refine W.seq ?_
      refine W.seq_region fun K hK => ?_
      simp (disch := omega) only [↓RU, RV, RH, ↓reduceIte, reduceEqDiff, reduceCtorEq, if_pos, w64, ↓RS, RG, reduceAdd, reduceMul, reduceLeDiff, tyint]
      refine hK _ _ ?_;clear hK K
      refine W.cond rfl (fun h6 => ?_) (fun h6 => ?_)
      ·try simp only [RL] at h6
       first | (exfalso; omega) | exact absurd h6 (by simp)
      ·try simp only [RL] at h6
       refine W.skip ?_
       refine XThen.norm ?_
       refine W.seq_region fun K hK => ?_
       simp (disch := omega) only [↓RU, RV, RH, ↓reduceIte, reduceEqDiff, reduceCtorEq, if_pos, List.append_nil, ↓RS, RG, reduceAdd, reduceMul, reduceLeDiff]
       refine CallR.pc (tStr_pc hs1) rfl (.inl rfl) ?_
       simp (disch := omega) only [↓RU, RV, RH, ↓reduceIte, reduceEqDiff, reduceCtorEq, if_pos, List.append_nil, ↓RS, RG, reduceAdd, reduceMul, reduceLeDiff]
       refine CallR.pc (himp hs) rfl (.inl rfl) ?_
       simp (disch := omega) only [↓RU, RV, RH, ↓reduceIte, reduceEqDiff, reduceCtorEq, if_pos, List.append_nil, ↓RS, RG, reduceAdd, reduceMul, reduceLeDiff]
       refine hK _ _ ?_;clear hK K
       refine W.seq ?_
       refine W.seq_region fun K hK => ?_
       simp (disch := omega) only [↓RU, RV, RH, ↓reduceIte, reduceEqDiff, reduceCtorEq, if_pos, List.append_nil, w64, ↓RS, RG, reduceAdd, reduceMul, reduceLeDiff, tybool]
       refine CallR.pc (eqIntS_pc (p := ([] : List Int)) (q := ([] : List Int)) (by simp) (by simp)) (mapM_one rfl (mapM_one rfl rfl)) (.inl rfl) ?_
       simp (disch := omega) only [↓RU, RV, RH, ↓reduceIte, reduceEqDiff, reduceCtorEq, if_pos, List.append_nil, w64, ↓RS, RG, reduceAdd, reduceMul, reduceLeDiff, tybool, decide_true, Bool.not_true, bne_self_eq_false]
       refine hK _ _ ?_;clear hK K
       refine W.cond rfl (fun h7 => ?_) (fun h7 => ?_)
       ·try simp only [RL] at h7
        first | (exfalso; omega) | exact absurd h7 (by simp)
       ·try simp only [RL] at h7
        refine W.skip ?_
        refine XThen.norm ?_
        refine W.seq_region fun K hK => ?_
        simp (disch := omega) only [↓RU, RV, RH, ↓reduceIte, reduceEqDiff, reduceCtorEq, if_pos, ↓RS, RG, reduceAdd, reduceMul, reduceLeDiff]
        refine hK _ _ ?_;clear hK K
        refine W.seq_region fun K hK => ?_
        simp (disch := omega) only [↓RU, RV, RH, ↓reduceIte, reduceEqDiff, reduceCtorEq, if_pos, List.append_nil, ↓RS, RG, reduceAdd, reduceMul, reduceLeDiff]
        refine CallR.pc (heldIntS_pc (l := []) (k0 := 1) (by simp) (by omega) (by omega) (fun j h => absurd h (by simp))) rfl (.inl rfl) ?_
        simp (disch := omega) only [↓RU, RV, RH, ↓reduceIte, reduceEqDiff, reduceCtorEq, if_pos, List.append_nil, ↓RS, RG, reduceAdd, reduceMul, reduceLeDiff, List.length_nil]
        refine hK _ _ ?_;clear hK K
        refine W.seq ?_
        refine W.seq_region fun K hK => ?_
        simp (disch := omega) only [↓RU, RV, RH, ↓reduceIte, reduceEqDiff, reduceCtorEq, if_pos, w64, ↓RS, RG, reduceAdd, reduceMul, reduceLeDiff, tyint]
        refine hK _ _ ?_;clear hK K
        refine W.cond rfl (fun h8 => ?_) (fun h8 => ?_)
        ·try simp only [RL] at h8
         first | (exfalso; omega) | exact absurd h8 (by simp)
        ·try simp only [RL] at h8
         refine W.skip ?_
         refine XThen.norm ?_
         refine W.seq ?_
         refine W.seq_region fun K hK => ?_
         simp (disch := omega) only [↓RU, RV, RH, ↓reduceIte, reduceEqDiff, reduceCtorEq, if_pos, w64, ↓RS, RG, reduceAdd, reduceMul, reduceLeDiff, tyint]
         refine hK _ _ ?_;clear hK K
         refine W.cond rfl (fun h9 => ?_) (fun h9 => ?_)
         ·try simp only [RL] at h9
          first | (exfalso; omega) | exact absurd h9 (by simp)
         ·try simp only [RL] at h9
          refine W.skip ?_
          refine XThen.norm ?_
          refine W.seq_region fun K hK => ?_
          simp (disch := omega) only [↓RU, RV, RH, ↓reduceIte, reduceEqDiff, reduceCtorEq, if_pos, ↓RS, RG, reduceAdd, reduceMul, reduceLeDiff]
          refine hK _ _ ?_;clear hK K
          refine W.ret ?_
          refine BodyQ.ret rfl ?_
          rfl
theorem orderFirstLaw_yes {p : List Txt} (hl : p.length ≤ 9223372036854775807) (hr : ∀ r ∈ p, r.length ≤ 9223372036854775807) {Q : List Int} (hQ : Q.length ≤ 9)
  (hspec : Sm p → PC Try.prog 10 [eStrs p] (.tup [eInts Q, .bool true]) false)
  (himp : Sm p → PN Try.prog 12 [eStrs p] (.tup [.loc 0 0 0 Q.length, .bool true]) [.arr 0 3 1 (Q.map (.int .i64))] false) : PC Try.prog 4 [eStrs p] (.bool true) true := by
 refine PC.of ⟨Try.func4, by kernel_rfl, rfl, by kernel_rfl⟩ tabOk mixed (by show 1 ≤ Try.f4.ntmps; decide) ?_
 refine W.seq_region fun K hK => ?_
 simp (disch := omega) only [↓RU, RV, RH, ↓reduceIte, reduceEqDiff, reduceCtorEq, if_pos, ↓RS, RG, reduceAdd, reduceMul, reduceLeDiff]
 refine hK _ _ ?_;clear hK K
 refine W.seq_region fun K hK => ?_
 simp (disch := omega) only [↓RU, RV, RH, ↓reduceIte, reduceEqDiff, reduceCtorEq, if_pos, ↓RS, RG, reduceAdd, reduceMul, reduceLeDiff]
 refine hK _ _ ?_;clear hK K
 refine W.seq_region fun K hK => ?_
 simp (disch := omega) only [↓RU, RV, RH, ↓reduceIte, reduceEqDiff, reduceCtorEq, if_pos, List.append_nil, ↓RS, RG, reduceAdd, reduceMul, reduceLeDiff]
 refine CallR.pc (szStringS_pc hl hr (left := 1048576) (by omega) (by omega)) rfl (.inl rfl) ?_
 simp (disch := omega) only [↓RU, RV, RH, ↓reduceIte, reduceEqDiff, reduceCtorEq, if_pos, List.append_nil, ↓RS, RG, reduceAdd, reduceMul, reduceLeDiff]
 refine hK _ _ ?_;clear hK K
 refine W.seq ?_
 refine W.seq_region fun K hK => ?_
 simp (disch := omega) only [↓RU, RV, RH, ↓reduceIte, reduceEqDiff, reduceCtorEq, if_pos, w64, ↓RS, RG, reduceAdd, reduceMul, reduceLeDiff, tyint]
 refine hK _ _ ?_;clear hK K
 refine W.cond rfl (fun h0 => ?_) (fun h0 => ?_)
 ·try simp only [RL] at h0
  refine W.seq_region fun K hK => ?_
  simp (disch := omega) only [↓RU, RV, RH, ↓reduceIte, reduceEqDiff, reduceCtorEq, if_pos, ↓RS, RG, reduceAdd, reduceMul, reduceLeDiff]
  refine hK _ _ ?_;clear hK K
  refine W.ret ?_
  refine XThen.ret ?_
  refine BodyQ.ret rfl ?_
  rfl
 ·try simp only [RL] at h0
  have hs : Sm p := sz_sm (Int.le_refl _) (by omega)
  have hs1 := hs.1
  refine W.skip ?_
  refine XThen.norm ?_
  refine W.seq_region fun K hK => ?_
  simp (disch := omega) only [↓RU, RV, RH, ↓reduceIte, reduceEqDiff, reduceCtorEq, if_pos, List.append_nil, ↓RS, RG, reduceAdd, reduceMul, reduceLeDiff]
  refine CallR.pc (tStr_pc hs1) rfl (.inl rfl) ?_
  simp (disch := omega) only [↓RU, RV, RH, ↓reduceIte, reduceEqDiff, reduceCtorEq, if_pos, List.append_nil, ↓RS, RG, reduceAdd, reduceMul, reduceLeDiff]
  refine CallR.pc (hspec hs) rfl (.inr rfl) ?_
  simp (disch := omega) only [↓RU, RV, RH, ↓reduceIte, reduceEqDiff, reduceCtorEq, if_pos, List.append_nil, ↓RS, RG, reduceAdd, reduceMul, reduceLeDiff]
  refine hK _ _ ?_;clear hK K
  refine W.seq_region fun K hK => ?_
  simp (disch := omega) only [↓RU, RV, RH, ↓reduceIte, reduceEqDiff, reduceCtorEq, if_pos, List.append_nil, ↓RS, RG, reduceAdd, reduceMul, reduceLeDiff]
  refine CallR.pn (toStringS_pn hs1) rfl (.inl rfl) ?_
  simp (disch := omega) only [↓RU, RV, RH, ↓reduceIte, reduceEqDiff, reduceCtorEq, if_pos, List.append_nil, ↓RS, RG, reduceAdd, reduceMul, reduceLeDiff, RN]
  refine hK _ _ ?_;clear hK K
  refine W.seq_region fun K hK => ?_
  simp (disch := omega) only [↓RU, RV, RH, ↓reduceIte, reduceEqDiff, reduceCtorEq, if_pos, List.append_nil, ↓RS, RG, reduceAdd, reduceMul, reduceLeDiff]
  refine CallR.pn (himp hs) (mapM_one (reify_loc (k := 9) rfl (by simp) (mapM_str _)) rfl) (.inl rfl) ?_
  simp (disch := omega) only [↓RU, RV, RH, ↓reduceIte, reduceEqDiff, reduceCtorEq, if_pos, List.append_nil, ↓RS, RG, reduceAdd, reduceMul, reduceLeDiff, RN]
  refine hK _ _ ?_;clear hK K
  refine W.seq ?_
  refine W.seq_region fun K hK => ?_
  simp (disch := omega) only [↓RU, RV, RH, ↓reduceIte, reduceEqDiff, reduceCtorEq, if_pos, List.append_nil, w64, ↓RS, RG, reduceAdd, reduceMul, reduceLeDiff, tybool]
  refine CallR.pc (eqIntS_pc (p := Q) (q := Q) (by omega) (by omega)) (mapM_one (reify_loc (k := 9) rfl (by simp) (mapM_int _)) (mapM_one rfl rfl)) (.inl rfl) ?_
  simp (disch := omega) only [↓RU, RV, RH, ↓reduceIte, reduceEqDiff, reduceCtorEq, if_pos, List.append_nil, w64, ↓RS, RG, reduceAdd, reduceMul, reduceLeDiff, tybool, decide_true, Bool.not_true, bne_self_eq_false]
  refine hK _ _ ?_;clear hK K
  refine W.cond rfl (fun h2 => ?_) (fun h2 => ?_)
  ·try simp only [RL] at h2
   first | (exfalso; omega) | exact absurd h2 (by simp)
  ·try simp only [RL] at h2
   refine W.skip ?_
   refine XThen.norm ?_
   refine W.seq ?_
   refine W.seq_region fun K hK => ?_
   simp (disch := omega) only [↓RU, RV, RH, ↓reduceIte, reduceEqDiff, reduceCtorEq, if_pos, List.append_nil, ↓RS, RG, reduceAdd, reduceMul, reduceLeDiff]
   refine CallR.pc (tStr_pc hs1) rfl (.inl rfl) ?_
   simp (disch := omega) only [↓RU, RV, RH, ↓reduceIte, reduceEqDiff, reduceCtorEq, if_pos, List.append_nil, ↓RS, RG, reduceAdd, reduceMul, reduceLeDiff]
   refine CallR.pc (eqStringS_pc (p := p) (q := p) (by omega) (by omega)) (mapM_one (reify_loc (k := 9) rfl (by simp) (mapM_str _)) (mapM_one rfl rfl)) (.inl rfl) ?_
   simp (disch := omega) only [↓RU, RV, RH, ↓reduceIte, reduceEqDiff, reduceCtorEq, if_pos, List.append_nil, ↓RS, RG, reduceAdd, reduceMul, reduceLeDiff]
   refine hK _ _ ?_;clear hK K
   refine W.cond rfl (fun h3 => ?_) (fun h3 => ?_)
   ·try simp only [RL] at h3
    first | (exfalso; omega) | exact absurd h3 (by simp)
   ·try simp only [RL] at h3
    refine W.skip ?_
    refine XThen.norm ?_
    refine W.seq_region fun K hK => ?_
    simp (disch := omega) only [↓RU, RV, RH, ↓reduceIte, reduceEqDiff, reduceCtorEq, if_pos, ↓RS, RG, reduceAdd, reduceMul, reduceLeDiff]
    refine hK _ _ ?_;clear hK K
    refine W.seq_region fun K hK => ?_
    simp (disch := omega) only [↓RU, RV, RH, ↓reduceIte, reduceEqDiff, reduceCtorEq, if_pos, List.append_nil, ↓RS, RG, reduceAdd, reduceMul, reduceLeDiff]
    refine CallR.ev (markStringS_ev (F := []) (R := [_]) (l := p) hs1 (k0 := 1) (by omega) (by omega)) ?_
    rintro _ _ ⟨rfl, t1, ht1, rfl⟩
    simp (disch := omega) only [↓RU, RV, RH, ↓reduceIte, reduceEqDiff, reduceCtorEq, if_pos, List.append_nil, ↓RS, RG, reduceAdd, reduceMul, reduceLeDiff, List.nil_append, List.cons_append, List.append_nil]
    refine hK _ _ ?_;clear hK K
    refine W.seq ?_
    refine W.seq_region fun K hK => ?_
    have hk0 : decide ((1 + (p.length : Int)) < 0) = false := by simp; omega
    simp (disch := omega) only [↓RU, RV, RH, ↓reduceIte, reduceEqDiff, reduceCtorEq, if_pos, w64, List.append_nil, ↓RS, RG, reduceAdd, reduceMul, reduceLeDiff, tybool, tyint, hk0]
    refine CallR.pc (eqIntS_pc (p := Q) (q := Q) (by omega) (by omega)) (mapM_one (reify_loc (k := 9) rfl (by simp) (mapM_int _)) (mapM_one rfl rfl)) (.inl rfl) ?_
    simp (disch := omega) only [↓RU, RV, RH, ↓reduceIte, reduceEqDiff, reduceCtorEq, if_pos, w64, List.append_nil, ↓RS, RG, reduceAdd, reduceMul, reduceLeDiff, tybool, tyint, hk0, decide_true, Bool.not_true, bne_self_eq_false]
    refine hK _ _ ?_;clear hK K
    refine W.cond rfl (fun h4 => ?_) (fun h4 => ?_)
    ·try simp only [RL] at h4
     first | (exfalso; omega) | exact absurd h4 (by simp)
    ·try simp only [RL] at h4
     refine W.skip ?_
     refine XThen.norm ?_
     refine W.seq_region fun K hK => ?_
     simp (disch := omega) only [↓RU, RV, RH, ↓reduceIte, reduceEqDiff, reduceCtorEq, if_pos, ↓RS, RG, reduceAdd, reduceMul, reduceLeDiff]
     refine hK _ _ ?_;clear hK K
     refine W.seq_region fun K hK => ?_
     simp (disch := omega) only [↓RU, RV, RH, ↓reduceIte, reduceEqDiff, reduceCtorEq, if_pos, List.append_nil, ↓RS, RG, reduceAdd, reduceMul, reduceLeDiff]
     refine CallR.ev (markIntS_ev (F := [_]) (R := []) (l := Q) (by omega) (k0 := 1) (by omega) (by omega)) ?_
     rintro _ _ ⟨rfl, t3, ht3, hd3, rfl⟩
     simp (disch := omega) only [↓RU, RV, RH, ↓reduceIte, reduceEqDiff, reduceCtorEq, if_pos, List.append_nil, ↓RS, RG, reduceAdd, reduceMul, reduceLeDiff, List.nil_append, List.cons_append, List.append_nil]
     refine hK _ _ ?_;clear hK K
     refine W.seq_region fun K hK => ?_
     simp (disch := omega) only [↓RU, RV, RH, ↓reduceIte, reduceEqDiff, reduceCtorEq, if_pos, ↓RS, RG, reduceAdd, reduceMul, reduceLeDiff]
     refine hK _ _ ?_;clear hK K
     refine W.seq_region fun K hK => ?_
     simp (disch := omega) only [↓RU, RV, RH, ↓reduceIte, reduceEqDiff, reduceCtorEq, if_pos, List.append_nil, ↓RS, RG, reduceAdd, reduceMul, reduceLeDiff]
     refine CallR.pc (heldIntS_pc (l := t3) (k0 := 1) (by omega) (by omega) (by omega) (fun j h => hd3 j (by omega))) (mapM_one ((reify_loc (k := 9) (n := Q.length) rfl (by simp [ht3]) (mapM_int _)).trans (by rw [← ht3])) rfl) (.inl rfl) ?_
     simp (disch := omega) only [↓RU, RV, RH, ↓reduceIte, reduceEqDiff, reduceCtorEq, if_pos, List.append_nil, ↓RS, RG, reduceAdd, reduceMul, reduceLeDiff, ht3]
     refine hK _ _ ?_;clear hK K
     refine W.seq ?_
     refine W.seq_region fun K hK => ?_
     simp (disch := omega) only [↓RU, RV, RH, ↓reduceIte, reduceEqDiff, reduceCtorEq, if_pos, w64, ↓RS, RG, reduceAdd, reduceMul, reduceLeDiff, tyint]
     refine hK _ _ ?_;clear hK K
     refine W.cond rfl (fun h5 => ?_) (fun h5 => ?_)
     ·try simp only [RL] at h5
      first | (exfalso; omega) | exact absurd h5 (by simp)
     ·try simp only [RL] at h5
      refine W.skip ?_
      refine XThen.norm ?_
      refine W.seq ?_
      refine W.seq_region fun K hK => ?_
      simp (disch := omega) only [↓RU, RV, RH, ↓reduceIte, reduceEqDiff, reduceCtorEq, if_pos, w64, ↓RS, RG, reduceAdd, reduceMul, reduceLeDiff, tyint]
      refine hK _ _ ?_;clear hK K
      refine W.cond rfl (fun h6 => ?_) (fun h6 => ?_)
      ·try simp only [RL] at h6
       first | (exfalso; omega) | exact absurd h6 (by simp)
      ·try simp only [RL] at h6
       refine W.skip ?_
       refine XThen.norm ?_
       refine W.seq_region fun K hK => ?_
       simp (disch := omega) only [↓RU, RV, RH, ↓reduceIte, reduceEqDiff, reduceCtorEq, if_pos, List.append_nil, ↓RS, RG, reduceAdd, reduceMul, reduceLeDiff]
       refine CallR.pc (tStr_pc hs1) rfl (.inl rfl) ?_
       simp (disch := omega) only [↓RU, RV, RH, ↓reduceIte, reduceEqDiff, reduceCtorEq, if_pos, List.append_nil, ↓RS, RG, reduceAdd, reduceMul, reduceLeDiff]
       refine CallR.pn (himp hs) rfl (.inl rfl) ?_
       simp (disch := omega) only [↓RU, RV, RH, ↓reduceIte, reduceEqDiff, reduceCtorEq, if_pos, List.append_nil, ↓RS, RG, reduceAdd, reduceMul, reduceLeDiff, RN]
       refine hK _ _ ?_;clear hK K
       refine W.seq ?_
       refine W.seq_region fun K hK => ?_
       simp (disch := omega) only [↓RU, RV, RH, ↓reduceIte, reduceEqDiff, reduceCtorEq, if_pos, List.append_nil, w64, ↓RS, RG, reduceAdd, reduceMul, reduceLeDiff, tybool]
       refine CallR.pc (eqIntS_pc (p := Q) (q := Q) (by omega) (by omega)) (mapM_one (reify_loc (k := 9) rfl (by simp) (mapM_int _)) (mapM_one rfl rfl)) (.inl rfl) ?_
       simp (disch := omega) only [↓RU, RV, RH, ↓reduceIte, reduceEqDiff, reduceCtorEq, if_pos, List.append_nil, w64, ↓RS, RG, reduceAdd, reduceMul, reduceLeDiff, tybool, decide_true, Bool.not_true, bne_self_eq_false]
       refine hK _ _ ?_;clear hK K
       refine W.cond rfl (fun h7 => ?_) (fun h7 => ?_)
       ·try simp only [RL] at h7
        first | (exfalso; omega) | exact absurd h7 (by simp)
       ·try simp only [RL] at h7
        refine W.skip ?_
        refine XThen.norm ?_
        refine W.seq_region fun K hK => ?_
        simp (disch := omega) only [↓RU, RV, RH, ↓reduceIte, reduceEqDiff, reduceCtorEq, if_pos, ↓RS, RG, reduceAdd, reduceMul, reduceLeDiff]
        refine hK _ _ ?_;clear hK K
        refine W.seq_region fun K hK => ?_
        simp (disch := omega) only [↓RU, RV, RH, ↓reduceIte, reduceEqDiff, reduceCtorEq, if_pos, List.append_nil, ↓RS, RG, reduceAdd, reduceMul, reduceLeDiff]
        refine CallR.pc (heldIntS_pc (l := t3) (k0 := 1) (by omega) (by omega) (by omega) (fun j h => hd3 j (by omega))) (mapM_one ((reify_loc (k := 9) (n := Q.length) rfl (by simp [ht3]) (mapM_int _)).trans (by rw [← ht3])) rfl) (.inl rfl) ?_
        simp (disch := omega) only [↓RU, RV, RH, ↓reduceIte, reduceEqDiff, reduceCtorEq, if_pos, List.append_nil, ↓RS, RG, reduceAdd, reduceMul, reduceLeDiff, ht3]
        refine hK _ _ ?_;clear hK K
        refine W.seq ?_
        refine W.seq_region fun K hK => ?_
        simp (disch := omega) only [↓RU, RV, RH, ↓reduceIte, reduceEqDiff, reduceCtorEq, if_pos, w64, ↓RS, RG, reduceAdd, reduceMul, reduceLeDiff, tyint]
        refine hK _ _ ?_;clear hK K
        refine W.cond rfl (fun h8 => ?_) (fun h8 => ?_)
        ·try simp only [RL] at h8
         first | (exfalso; omega) | exact absurd h8 (by simp)
        ·try simp only [RL] at h8
         refine W.skip ?_
         refine XThen.norm ?_
         refine W.seq ?_
         refine W.seq_region fun K hK => ?_
         simp (disch := omega) only [↓RU, RV, RH, ↓reduceIte, reduceEqDiff, reduceCtorEq, if_pos, w64, ↓RS, RG, reduceAdd, reduceMul, reduceLeDiff, tyint]
         refine hK _ _ ?_;clear hK K
         refine W.cond rfl (fun h9 => ?_) (fun h9 => ?_)
         ·try simp only [RL] at h9
          first | (exfalso; omega) | exact absurd h9 (by simp)
         ·try simp only [RL] at h9
          refine W.skip ?_
          refine XThen.norm ?_
          refine W.seq_region fun K hK => ?_
          simp (disch := omega) only [↓RU, RV, RH, ↓reduceIte, reduceEqDiff, reduceCtorEq, if_pos, ↓RS, RG, reduceAdd, reduceMul, reduceLeDiff]
          refine hK _ _ ?_;clear hK K
          refine W.ret ?_
          refine BodyQ.ret rfl ?_
          rfl
theorem lawOrderFirst {p : List Txt} (hl : p.length ≤ 9223372036854775807) (hr : ∀ r ∈ p, r.length ≤ 9223372036854775807) : PC Try.prog 4 [eStrs p] (.bool true) true := by
 have hI := plainI_plain (p := p)
 cases hv : plainI p with
 | false =>
  refine orderFirstLaw_no hl hr (fun hs => ?_) (fun hs => orderFirst_no hs hv)
  have h := sOrderFirst_pc hs
  rw [← hI, hv] at h; exact h
 | true =>
  have hq : (srt p false).length ≤ 9 := by rw [srt_len]; exact okB_rooms (plain_okB hv).1
  refine orderFirstLaw_yes hl hr hq (fun hs => ?_) (fun hs => by rw [srt_len]; exact orderFirst_yes hs hv)
  have h := sOrderFirst_pc hs
  rw [← hI, hv] at h; exact h
end Fw
end Go.Proofs.Ytclmfemhboogpaa
namespace Go.Proofs.Ytclmfemhboogpaa
open Go Go.ChangeShapes Go.WideShapes Go.ChangeAt Go.RowKit Fw
theorem Try.ownRs : ownKnob Try.prog.godebug = none := by kernel_rfl
theorem Try.laidOutRs : laidOutB Try.prog = true := by kernel_rfl
set_option maxRecDepth 100000 in
theorem rs_lifted (os : Os) (started : os.Started) (H : Type) (enc : TypeId × Value → H) :
  ReturnsInHanded {} Try.checked os 4 .any (Rows.fnExactOrderFirstSpec.pre6 enc Try.prog Try.f4 Rows.fnExactOrderFirstRow.domain false) (Rows.fnExactOrderFirstSpec.post enc Try.prog Try.f4 false true false false) := by
 refine returnsInHanded_of_change (C := Try.checked) Try.ownRs started (by kernel_rfl) Try.func4
  (ChangeSpec.witness6 (enc := enc) (C := Try.checked) false ⟨#[], #[.slice none 0 0], []⟩ 8 (by kernel_rfl) (by kernel_rfl) (by kernel_rfl) (by kernel_rfl)) ?_
 intro W base args ds gs before hval0 hW hcnd _
 have hval : ∀ (j : Nat) t v, Try.f4.params[j]? = some t → args[j]? = some v → Value.okWide Try.prog W .any base t v := hval0
 have hW' := hW
 obtain ⟨p, q, hA0, hV, rfl, hfz, hnd⟩ := hW
 have hA : DataW.TrodAll enc Try.prog W 0 (fun _ => true) true Try.f4.params.toList args.toList ds p := hA0
 rw [Try.params4] at hA hval
 obtain ⟨v0, d0, rfl, rfl, h0⟩ := trodAll_one hA
 obtain ⟨rfl, rfl⟩ := trodVars_none hV
 obtain ⟨l0, i0, b0, c0⟩ := vi_strs (hval 0 _ v0 rfl rfl) h0
 have hlt : ∀ x ∈ p, x.block < W.heap.size := fun x hx => hW'.lt x (by simp [hx])
 refine ((lawOrderFirst b0 c0).run (fun b => b < W.heap.size) W #[v0] (fun _ h => h) rfl ?_).mono ?_
 ·rintro (_ | i) p c hp hc
  ·cases hp; cases hc; exact i0
  ·simp at hp
 ·rintro e W' ⟨cv, rfl, hB, hr⟩
  have hcv : cv = .bool true := by cases hr; rfl
  subst hcv
  have t0 := Below.trod Try.laidOutRs (by kernel_rfl) (of_decide_eq_true (by kernel_rfl)) h0 hB fun x hx => hlt x (by simp [hx])
  refine ⟨_, rfl, _, _, _, [], p, [], hW', ?_, ?_, ?_, hB.frame _, fun h => by cases h⟩
  ·exact trodAll_mk1 (shut_bool Try.underlying4 true)
  ·rw [Try.params4]; exact trodAll_mk1 t0
  ·trivial
theorem rs_holds : Rows.FnExactOrderFirstSaid :=
 OpenClaim.holds_of_wide 4 Try.f4 rfl rfl rfl rfl rfl rfl rfl ⟨rfl, rfl, rfl, rfl, rfl⟩ rfl rfl rfl rfl rfl (by kernel_rfl) Try.func4 (by kernel_rfl)
  (of_decide_eq_true (by kernel_rfl)) (by unfold Func.isWrapper; first | (rw [if_pos (by decide +kernel)]; kernel_rfl) | (rw [if_neg (by decide +kernel)]; exact ⟨rfl, rfl⟩))
  (fun os started H enc _ => rs_lifted os started H enc)
end Go.Proofs.Ytclmfemhboogpaa
