/- Sets of turned rooms lead to least products: the law FnTurned answers true for all codes. No condition. -/
import Derived.Test.YtcglmbijpjhbmaaGreatJ5
import Derived.Test.YtcglmbijpjhbmaaGreatJ4
set_option linter.all false
/-! Shapes by the specification, gone through. -/
namespace Go.Proofs.YtcglmbijpjhbmaaGreat
namespace Fw
open Go

def given8 (p : List Txt) (ws ht : List Int) : Bool := needsB p ws && needsB p ht && decide (ws.length ≤ 8)
theorem given8_ok {p : List Txt} {ws ht : List Int} (h : given8 p ws ht = true) : needsB p ws = true ∧ needsB p ht = true ∧ ws.length ≤ 8 := by
  unfold given8 at h; simp only [Bool.and_eq_true, decide_eq_true_eq] at h; exact ⟨h.1.1, h.1.2, h.2⟩
def areaF (p : List Txt) (ws ht : List Int) (s : Nat) : Int := (shS p ws ht s).1 * (shS p ws ht s).2
def bestS (p : List Txt) (ws ht : List Int) : Nat := bst (areaF p ws ht) (2 ^ ws.length)
theorem shS_bnd {p : List Txt} {ws ht : List Int} (h1 : needsB p ws = true) (h2 : needsB p ht = true) (s : Nat) : 0 ≤ (shS p ws ht s).1 ∧ (shS p ws ht s).1 ≤ 6570 ∧ 0 ≤ (shS p ws ht s).2 ∧ (shS p ws ht s).2 ≤ 6570 := by
  obtain ⟨-, -, -, k4, k5, k6⟩ := needsB_ok h1
  obtain ⟨-, -, -, l4, l5, l6⟩ := needsB_ok h2
  have a := least_bnd (sets := allS p 0) (swp_ok (set := s) k6 l6 (by omega)) (by rw [swp_len]; exact k5)
  have b := least_bnd (sets := allS p 1) (swp_ok (set := s) l6 k6 (by omega)) (by rw [swp_len]; exact l5)
  exact ⟨a.1, a.2, b.1, b.2⟩
theorem areaF_bnd {p : List Txt} {ws ht : List Int} (h1 : needsB p ws = true) (h2 : needsB p ht = true) (s : Nat) : 0 ≤ areaF p ws ht s ∧ areaF p ws ht s ≤ 43164900 := by
  obtain ⟨a1, a2, b1, b2⟩ := shS_bnd h1 h2 s
  have b3 := Int.mul_nonneg a1 b1
  have b4 := Int.mul_le_mul a2 b2 b1 (by omega)
  unfold areaF
  omega
theorem swp_app {ws ht : List Int} {set i : Nat} {x y : Int} (hx : ws[i]? = some x) (hy : ht[i]? = some y) : ((swp ws ht set).take i).map (PV.int .i64) ++ [.int .i64 (if set.testBit i then y else x)] = ((swp ws ht set).take (i + 1)).map (.int .i64) := by
  rw [swp_take hx hy]; simp
theorem pow8 {n : Nat} (h : n ≤ 8) : 1 ≤ 2 ^ n ∧ 2 ^ n ≤ 256 := ⟨Nat.one_le_two_pow, Nat.pow_le_pow_right (n := 2) (by omega) h⟩

theorem l8Given_pc {p : List Txt} (hs : Sm p) {ws ht : List Int} (hw : ws.length ≤ 1048576) (hh : ht.length ≤ 1048576) : PC Tryz.prog 78 [eStrs p, eInts ws, eInts ht] (.bool (given8 p ws ht)) true := by
  refine PC.of ⟨Tryz.func78, by kernel_rfl, rfl, by kernel_rfl⟩ tabOk mixed (by show 3 ≤ Tryz.f78.ntmps; decide) ?_
  refine W.seq_region fun K hK => ?_
  simp (disch := omega) only [↓RU, RV, RH, ↓reduceIte, Nat.reduceEqDiff, reduceCtorEq, if_pos]
  refine hK _ _ ?_
  clear hK K
  refine W.seq_region fun K hK => ?_
  rcases hgg : (needsB p ws, needsB p ht) with ⟨_ | _, _ | _⟩
  · skip
    simp only [Prod.mk.injEq] at hgg
    obtain ⟨hg, hg2⟩ := hgg
    simp (disch := omega) only [↓RU, RV, RH, ↓reduceIte, Nat.reduceEqDiff, reduceCtorEq, if_pos, List.append_nil, w64, tyLint, tyint, hg]
    refine CallR.pc (l7Needs_pc hs hw) rfl (.inl rfl) ?_
    simp (disch := omega) only [↓RU, RV, RH, ↓reduceIte, Nat.reduceEqDiff, reduceCtorEq, if_pos, List.append_nil, w64, tyLint, tyint, hg]
    refine hK _ _ ?_
    clear hK K
    refine W.ret ?_
    refine BodyQ.ret rfl ?_
    rw [given8, hg, hg2]
    first | rfl | exact congrArg (fun b => some (PV.bool b)) (show decide ((ws.length : Int) ≤ 8) = (true && true && decide (ws.length ≤ 8)) by simp; omega)
  · skip
    simp only [Prod.mk.injEq] at hgg
    obtain ⟨hg, hg2⟩ := hgg
    simp (disch := omega) only [↓RU, RV, RH, ↓reduceIte, Nat.reduceEqDiff, reduceCtorEq, if_pos, List.append_nil, w64, tyLint, tyint, hg]
    refine CallR.pc (l7Needs_pc hs hw) rfl (.inl rfl) ?_
    simp (disch := omega) only [↓RU, RV, RH, ↓reduceIte, Nat.reduceEqDiff, reduceCtorEq, if_pos, List.append_nil, w64, tyLint, tyint, hg]
    refine hK _ _ ?_
    clear hK K
    refine W.ret ?_
    refine BodyQ.ret rfl ?_
    rw [given8, hg, hg2]
    first | rfl | exact congrArg (fun b => some (PV.bool b)) (show decide ((ws.length : Int) ≤ 8) = (true && true && decide (ws.length ≤ 8)) by simp; omega)
  · skip
    simp only [Prod.mk.injEq] at hgg
    obtain ⟨hg, hg2⟩ := hgg
    simp (disch := omega) only [↓RU, RV, RH, ↓reduceIte, Nat.reduceEqDiff, reduceCtorEq, if_pos, List.append_nil, w64, tyLint, tyint, hg, hg2]
    refine CallR.pc (l7Needs_pc hs hw) rfl (.inl rfl) ?_
    simp (disch := omega) only [↓RU, RV, RH, ↓reduceIte, Nat.reduceEqDiff, reduceCtorEq, if_pos, List.append_nil, w64, tyLint, tyint, hg, hg2]
    refine CallR.pc (l7Needs_pc hs hh) rfl (.inl rfl) ?_
    simp (disch := omega) only [↓RU, RV, RH, ↓reduceIte, Nat.reduceEqDiff, reduceCtorEq, if_pos, List.append_nil, w64, tyLint, tyint, hg, hg2]
    refine hK _ _ ?_
    clear hK K
    refine W.ret ?_
    refine BodyQ.ret rfl ?_
    rw [given8, hg, hg2]
    first | rfl | exact congrArg (fun b => some (PV.bool b)) (show decide ((ws.length : Int) ≤ 8) = (true && true && decide (ws.length ≤ 8)) by simp; omega)
  · skip
    simp only [Prod.mk.injEq] at hgg
    obtain ⟨hg, hg2⟩ := hgg
    simp (disch := omega) only [↓RU, RV, RH, ↓reduceIte, Nat.reduceEqDiff, reduceCtorEq, if_pos, List.append_nil, w64, tyLint, tyint, hg, hg2]
    refine CallR.pc (l7Needs_pc hs hw) rfl (.inl rfl) ?_
    simp (disch := omega) only [↓RU, RV, RH, ↓reduceIte, Nat.reduceEqDiff, reduceCtorEq, if_pos, List.append_nil, w64, tyLint, tyint, hg, hg2]
    refine CallR.pc (l7Needs_pc hs hh) rfl (.inl rfl) ?_
    simp (disch := omega) only [↓RU, RV, RH, ↓reduceIte, Nat.reduceEqDiff, reduceCtorEq, if_pos, List.append_nil, w64, tyLint, tyint, hg, hg2]
    refine hK _ _ ?_
    clear hK K
    refine W.ret ?_
    refine BodyQ.ret rfl ?_
    rw [given8, hg, hg2]
    first | rfl | exact congrArg (fun b => some (PV.bool b)) (show decide ((ws.length : Int) ≤ 8) = (true && true && decide (ws.length ≤ 8)) by simp; omega)

theorem l8Shape_pc {p : List Txt} (hs : Sm p) {ws ht : List Int} (h1 : needsB p ws = true) (h2 : needsB p ht = true) {set : Nat} (hset : set < 256) : PC Tryz.prog 112 [eStrs p, eInts ws, eInts ht, .int .i64 set] (.tup [.int .i64 (shS p ws ht set).1, .int .i64 (shS p ws ht set).2]) true := by
  obtain ⟨k1, k2, k3, k4, k5, k6⟩ := needsB_ok h1
  obtain ⟨-, -, -, l4, l5, l6⟩ := needsB_ok h2
  have hwl := swp_len (ws := ws) (hs := ht) (set := set)
  have hhl := swp_len (ws := ht) (hs := ws) (set := set)
  obtain ⟨nr, hnr⟩ : ∃ nr : Nat, ws.length = nr := ⟨_, rfl⟩
  have hnr2 : ht.length = nr := by omega
  refine PC.of ⟨Tryz.func112, by kernel_rfl, rfl, by kernel_rfl⟩ tabOk mixed (by show 4 ≤ Tryz.f112.ntmps; decide) ?_
  refine W.seq_region fun K hK => ?_
  simp (disch := omega) only [↓RU, RV, RH, ↓reduceIte, Nat.reduceEqDiff, reduceCtorEq, if_pos, ↓RS, RG, Nat.reduceAdd, Nat.reduceMul, Nat.reduceLeDiff]
  refine hK _ _ ?_
  clear hK K
  refine W.seq_region fun K hK => ?_
  simp (disch := omega) only [↓RU, RV, RH, ↓reduceIte, Nat.reduceEqDiff, reduceCtorEq, if_pos, ↓RS, RG, Nat.reduceAdd, Nat.reduceMul, Nat.reduceLeDiff, tyLint, tyint]
  refine hK _ _ ?_
  clear hK K
  refine W.seq_region fun K hK => ?_
  simp (disch := omega) only [↓RU, RV, RH, ↓reduceIte, Nat.reduceEqDiff, reduceCtorEq, if_pos, ↓RS, RG, Nat.reduceAdd, Nat.reduceMul, Nat.reduceLeDiff, tyLint, tyint]
  refine hK _ _ ?_
  clear hK K
  refine W.seq ?_
  refine W.seq_region fun K hK => ?_
  simp (disch := omega) only [↓RU, RV, RH, ↓reduceIte, Nat.reduceEqDiff, reduceCtorEq, if_pos, ↓RS, RG, Nat.reduceAdd, Nat.reduceMul, Nat.reduceLeDiff]
  refine hK _ _ ?_
  clear hK K
  refine W.block ?_
  refine W.loop [0, 1, 2, 3, 10, 11, 12] (fun n vs S => ∃ i v0 v1 tk : Nat, n = nr - i ∧ i ≤ nr ∧ vs = [eStrs p, eInts ws, eInts ht, .int .i64 set, .loc 0 v0 0 i, .loc 1 v1 0 i, .int .i64 i] ∧ S = ⟨[.arr v0 3 1 (((swp ws ht set).take i).map (.int .i64)), .arr v1 3 1 (((swp ht ws set).take i).map (.int .i64))], tk⟩) nr ?_ ?_
  · refine ⟨2, 0, 0, 1, 2, rfl, by omega, ?_, rfl⟩
    simp [Env.put, Env.of, argEnv]
  rintro n vs S - ⟨i, v0, v1, tk, rfl, h_i, rfl, rfl⟩
  refine W.seq ?_
  refine W.seq_region fun K hK => ?_
  simp (disch := omega) only [↓RU, RV, RH, ↓reduceIte, Nat.reduceEqDiff, reduceCtorEq, if_pos, w64, ↓RS, RG, Nat.reduceAdd, Nat.reduceMul, Nat.reduceLeDiff, tyLint, tyint]
  refine hK _ _ ?_
  clear hK K
  refine W.cond rfl (fun h => ?_) (fun h => ?_)
  · try simp only [RL] at h
    obtain ⟨x, hx, -⟩ := get_of (show i < ws.length by omega)
    obtain ⟨y, hy, -⟩ := get_of (show i < ht.length by omega)
    have ha1 := swp_app (set := set) hx hy
    have ha2 := swp_app (set := set) hy hx
    have hl1 : ((swp ws ht set).take i).length = i := by rw [List.length_take]; omega
    have hl2 : ((swp ht ws set).take i).length = i := by rw [List.length_take]; omega
    refine W.skip ?_
    refine XThen.norm ?_
    refine W.seq ?_
    refine W.block ?_
    refine W.seq_region fun K hK => ?_
    simp (disch := omega) only [↓RU, RV, RH, ↓reduceIte, Nat.reduceEqDiff, reduceCtorEq, if_pos, w64, ↓RS, RG, Nat.reduceAdd, Nat.reduceMul, Nat.reduceLeDiff, tyint, pShr, w_bit]
    refine hK _ _ ?_
    clear hK K
    refine W.cond rfl (fun h3 => ?_) (fun h3 => ?_)
    · try simp only [RL] at h3
      rw [h3] at ha1 ha2
      simp only [if_true] at ha1 ha2
      refine W.seq_region fun K hK => ?_
      simp (disch := omega) only [↓RU, RV, RH, ↓reduceIte, Nat.reduceEqDiff, reduceCtorEq, if_pos, ↓RS, RG, Nat.reduceAdd, Nat.reduceMul, Nat.reduceLeDiff, tyLint, tyint, hx, hy, hl1, hl2]
      refine hK _ _ ?_
      clear hK K
      refine W.region_k fun K hK => ?_
      simp (disch := omega) only [↓RU, RV, RH, ↓reduceIte, Nat.reduceEqDiff, reduceCtorEq, if_pos, ↓RS, RG, Nat.reduceAdd, Nat.reduceMul, Nat.reduceLeDiff, tyLint, tyint, hx, hy, hl1, hl2]
      refine hK _ _ ?_
      clear hK K
      refine XBlock.norm ?_
      refine XThen.norm ?_
      refine W.region_k fun K hK => ?_
      simp (disch := omega) only [↓RU, RV, RH, ↓reduceIte, Nat.reduceEqDiff, reduceCtorEq, if_pos, w64, ↓RS, RG, Nat.reduceAdd, Nat.reduceMul, Nat.reduceLeDiff, tyint]
      refine hK _ _ ?_
      clear hK K
      refine XThen.norm ?_
      refine ⟨nr - (i + 1), by omega, 2, i + 1, tk + 1, tk + 3, tk + 4, rfl, by omega, ?_, ?_⟩
      · simp [Env.put, Env.of]
      · rw [← ha1, ← ha2]; simp [take_eq, tk_le]
    · try simp only [RL] at h3
      rw [h3] at ha1 ha2
      simp only [Bool.false_eq_true, if_false] at ha1 ha2
      refine W.seq_region fun K hK => ?_
      simp (disch := omega) only [↓RU, RV, RH, ↓reduceIte, Nat.reduceEqDiff, reduceCtorEq, if_pos, ↓RS, RG, Nat.reduceAdd, Nat.reduceMul, Nat.reduceLeDiff, tyLint, tyint, hx, hy, hl1, hl2]
      refine hK _ _ ?_
      clear hK K
      refine W.region_k fun K hK => ?_
      simp (disch := omega) only [↓RU, RV, RH, ↓reduceIte, Nat.reduceEqDiff, reduceCtorEq, if_pos, ↓RS, RG, Nat.reduceAdd, Nat.reduceMul, Nat.reduceLeDiff, tyLint, tyint, hx, hy, hl1, hl2]
      refine hK _ _ ?_
      clear hK K
      refine XBlock.norm ?_
      refine XThen.norm ?_
      refine W.region_k fun K hK => ?_
      simp (disch := omega) only [↓RU, RV, RH, ↓reduceIte, Nat.reduceEqDiff, reduceCtorEq, if_pos, w64, ↓RS, RG, Nat.reduceAdd, Nat.reduceMul, Nat.reduceLeDiff, tyint]
      refine hK _ _ ?_
      clear hK K
      refine XThen.norm ?_
      refine ⟨nr - (i + 1), by omega, 2, i + 1, tk + 1, tk + 3, tk + 4, rfl, by omega, ?_, ?_⟩
      · simp [Env.put, Env.of]
      · rw [← ha1, ← ha2]; simp [take_eq, tk_le]
  · try simp only [RL] at h
    obtain rfl : i = nr := by omega
    rw [List.take_of_length_le (by omega), List.take_of_length_le (by omega)]
    refine W.exit ?_
    refine XThen.exit ?_
    refine XThen.exit ?_
    refine XBlock.hit ?_
    refine XThen.norm ?_
    refine W.seq_region fun K hK => ?_
    simp (disch := omega) only [↓RU, RV, RH, ↓reduceIte, Nat.reduceEqDiff, reduceCtorEq, if_pos, List.append_nil, ↓RS, RG, Nat.reduceAdd, Nat.reduceMul, Nat.reduceLeDiff]
    refine CallR.pc (l7Least_pc hs k2 k3 (needs := swp ws ht set) (by omega) (swp_ok k6 l6 (by omega)) 0) (mapM_one rfl (mapM_one ((reify_loc (k := 9) (n := i) rfl (by rw [List.length_map]; omega) (mapM_int _)).trans (by rw [show i = (swp ws ht set).length by omega])) rfl)) (.inl rfl) ?_
    simp (disch := omega) only [↓RU, RV, RH, ↓reduceIte, Nat.reduceEqDiff, reduceCtorEq, if_pos, List.append_nil, ↓RS, RG, Nat.reduceAdd, Nat.reduceMul, Nat.reduceLeDiff]
    refine CallR.pc (l7Least_pc hs k2 k3 (needs := swp ht ws set) (by omega) (swp_ok l6 k6 (by omega)) 1) (mapM_one rfl (mapM_one ((reify_loc (k := 9) (n := i) rfl (by rw [List.length_map]; omega) (mapM_int _)).trans (by rw [show i = (swp ht ws set).length by omega])) rfl)) (.inl rfl) ?_
    simp (disch := omega) only [↓RU, RV, RH, ↓reduceIte, Nat.reduceEqDiff, reduceCtorEq, if_pos, List.append_nil, ↓RS, RG, Nat.reduceAdd, Nat.reduceMul, Nat.reduceLeDiff]
    refine hK _ _ ?_
    clear hK K
    refine W.ret ?_
    refine BodyQ.ret rfl ?_
    rfl

theorem l8Best_pc {p : List Txt} (hs : Sm p) {ws ht : List Int} (hg : given8 p ws ht = true) : PC Tryz.prog 79 [eStrs p, eInts ws, eInts ht] (.tup [.int .i64 (bestS p ws ht), .int .i64 (areaF p ws ht (bestS p ws ht))]) true := by
  obtain ⟨h1, h2, h8⟩ := given8_ok hg
  have hp8 := pow8 h8
  obtain ⟨N, hN⟩ : ∃ N : Nat, 2 ^ ws.length = N := ⟨_, rfl⟩
  have hsh := w_shl (b := ws.length) (by omega)
  rw [hN] at hp8 hsh
  refine PC.of ⟨Tryz.func79, by kernel_rfl, rfl, by kernel_rfl⟩ tabOk mixed (by show 3 ≤ Tryz.f79.ntmps; decide) ?_
  refine W.seq_region fun K hK => ?_
  simp (disch := omega) only [↓RU, RV, RH, ↓reduceIte, Nat.reduceEqDiff, reduceCtorEq, if_pos, ↓RS, RG, Nat.reduceAdd, Nat.reduceMul, Nat.reduceLeDiff]
  refine hK _ _ ?_
  clear hK K
  refine W.seq_region fun K hK => ?_
  simp (disch := omega) only [↓RU, RV, RH, ↓reduceIte, Nat.reduceEqDiff, reduceCtorEq, if_pos, ↓RS, RG, Nat.reduceAdd, Nat.reduceMul, Nat.reduceLeDiff]
  refine hK _ _ ?_
  clear hK K
  refine W.seq_region fun K hK => ?_
  simp (disch := omega) only [↓RU, RV, RH, ↓reduceIte, Nat.reduceEqDiff, reduceCtorEq, if_pos, ↓RS, RG, Nat.reduceAdd, Nat.reduceMul, Nat.reduceLeDiff]
  refine hK _ _ ?_
  clear hK K
  refine W.seq ?_
  refine W.seq_region fun K hK => ?_
  simp (disch := omega) only [↓RU, RV, RH, ↓reduceIte, Nat.reduceEqDiff, reduceCtorEq, if_pos, ↓RS, RG, Nat.reduceAdd, Nat.reduceMul, Nat.reduceLeDiff]
  refine hK _ _ ?_
  clear hK K
  refine W.block ?_
  refine W.loop [0, 1, 2, 8, 9, 10] (fun n vs S => ∃ k : Nat, n = N - k ∧ k ≤ N ∧ vs = [eStrs p, eInts ws, eInts ht, .int .i64 (bst (areaF p ws ht) k), .int .i64 (if k = 0 then 0 else (areaF p ws ht) (bst (areaF p ws ht) k)), .int .i64 k] ∧ S = ⟨[], 0⟩) (N) ?_ ?_
  · refine ⟨0, 0, rfl, Nat.zero_le _, ?_, rfl⟩
    simp [Env.put, Env.of, argEnv, bst]
  rintro n vs S - ⟨k, rfl, h_k, rfl, rfl⟩
  refine W.seq ?_
  refine W.seq_region fun K hK => ?_
  simp (disch := omega) only [↓RU, RV, RH, ↓reduceIte, Nat.reduceEqDiff, reduceCtorEq, if_pos, w64, ↓RS, RG, Nat.reduceAdd, Nat.reduceMul, Nat.reduceLeDiff, tyLint, tyint, pShl, hsh]
  refine hK _ _ ?_
  clear hK K
  refine W.cond rfl (fun h => ?_) (fun h => ?_)
  · try simp only [RL] at h
    have hb := shS_bnd h1 h2 k
    have ha := areaF_bnd h1 h2 k
    have hae : (shS p ws ht k).1 * (shS p ws ht k).2 = areaF p ws ht k := rfl
    refine W.skip ?_
    refine XThen.norm ?_
    refine W.seq ?_
    refine W.block ?_
    refine W.seq_region fun K hK => ?_
    simp (disch := omega) only [↓RU, RV, RH, ↓reduceIte, Nat.reduceEqDiff, reduceCtorEq, if_pos, List.append_nil, ↓RS, RG, Nat.reduceAdd, Nat.reduceMul, Nat.reduceLeDiff]
    refine CallR.pc (l8Shape_pc hs h1 h2 (set := k) (by omega)) rfl (.inl rfl) ?_
    simp (disch := omega) only [↓RU, RV, RH, ↓reduceIte, Nat.reduceEqDiff, reduceCtorEq, if_pos, List.append_nil, ↓RS, RG, Nat.reduceAdd, Nat.reduceMul, Nat.reduceLeDiff]
    refine hK _ _ ?_
    clear hK K
    refine W.seq_region fun K hK => ?_
    by_cases hk0 : k = 0
    · skip
      subst hk0
      simp (disch := omega) only [↓RU, RV, RH, ↓reduceIte, Nat.reduceEqDiff, reduceCtorEq, if_pos, w64, ↓RS, RG, Nat.reduceAdd, Nat.reduceMul, Nat.reduceLeDiff, tyint]
      refine hK _ _ ?_
      clear hK K
      refine W.cond rfl (fun h3 => ?_) (fun h3 => ?_)
      · try simp only [RL] at h3
        refine W.seq_region fun K hK => ?_
        simp (disch := omega) only [↓RU, RV, RH, ↓reduceIte, Nat.reduceEqDiff, reduceCtorEq, if_pos, w64, ↓RS, RG, Nat.reduceAdd, Nat.reduceMul, Nat.reduceLeDiff, tyint, hae]
        refine hK _ _ ?_
        clear hK K
        refine W.region_k fun K hK => ?_
        simp (disch := omega) only [↓RU, RV, RH, ↓reduceIte, Nat.reduceEqDiff, reduceCtorEq, if_pos, ↓RS, RG, Nat.reduceAdd, Nat.reduceMul, Nat.reduceLeDiff]
        refine hK _ _ ?_
        clear hK K
        refine XBlock.norm ?_
        refine XThen.norm ?_
        refine W.region_k fun K hK => ?_
        simp (disch := omega) only [↓RU, RV, RH, ↓reduceIte, Nat.reduceEqDiff, reduceCtorEq, if_pos, w64, ↓RS, RG, Nat.reduceAdd, Nat.reduceMul, Nat.reduceLeDiff, tyint]
        refine hK _ _ ?_
        clear hK K
        refine XThen.norm ?_
        refine ⟨N - (0 + 1), by omega, 0, 0 + 1, rfl, by omega, ?_, rfl⟩
        simp [Env.put, Env.of, bst, hae]
      · try simp only [RL] at h3
        exact absurd h3 (by simp)
    · skip
      have hkd : decide ((k : Int) = 0) = false := by simp; omega
      have hkb : ((k : Int) == 0) = false := by simp; omega
      simp (disch := omega) only [↓RU, RV, RH, ↓reduceIte, Nat.reduceEqDiff, reduceCtorEq, if_pos, w64, ↓RS, RG, Nat.reduceAdd, Nat.reduceMul, Nat.reduceLeDiff, tyint, hkd, hkb, hk0, hae]
      refine hK _ _ ?_
      clear hK K
      refine W.cond rfl (fun h3 => ?_) (fun h3 => ?_)
      · try simp only [RL] at h3
        refine W.seq_region fun K hK => ?_
        simp (disch := omega) only [↓RU, RV, RH, ↓reduceIte, Nat.reduceEqDiff, reduceCtorEq, if_pos, w64, ↓RS, RG, Nat.reduceAdd, Nat.reduceMul, Nat.reduceLeDiff, tyint, hae]
        refine hK _ _ ?_
        clear hK K
        refine W.region_k fun K hK => ?_
        simp (disch := omega) only [↓RU, RV, RH, ↓reduceIte, Nat.reduceEqDiff, reduceCtorEq, if_pos, ↓RS, RG, Nat.reduceAdd, Nat.reduceMul, Nat.reduceLeDiff]
        refine hK _ _ ?_
        clear hK K
        refine XBlock.norm ?_
        refine XThen.norm ?_
        refine W.region_k fun K hK => ?_
        simp (disch := omega) only [↓RU, RV, RH, ↓reduceIte, Nat.reduceEqDiff, reduceCtorEq, if_pos, w64, ↓RS, RG, Nat.reduceAdd, Nat.reduceMul, Nat.reduceLeDiff, tyint]
        refine hK _ _ ?_
        clear hK K
        refine XThen.norm ?_
        refine ⟨N - (k + 1), by omega, 0, k + 1, rfl, by omega, ?_, rfl⟩
        simp [Env.put, Env.of, bst, hae, h3]
      · try simp only [RL] at h3
        refine W.skip ?_
        refine XBlock.norm ?_
        refine XThen.norm ?_
        refine W.region_k fun K hK => ?_
        simp (disch := omega) only [↓RU, RV, RH, ↓reduceIte, Nat.reduceEqDiff, reduceCtorEq, if_pos, w64, ↓RS, RG, Nat.reduceAdd, Nat.reduceMul, Nat.reduceLeDiff, tyint]
        refine hK _ _ ?_
        clear hK K
        refine XThen.norm ?_
        refine ⟨N - (k + 1), by omega, 0, k + 1, rfl, by omega, ?_, rfl⟩
        simp [Env.put, Env.of, bst, h3, hk0]
  · try simp only [RL] at h
    obtain rfl : k = N := by omega
    refine W.exit ?_
    refine XThen.exit ?_
    refine XThen.exit ?_
    refine XBlock.hit ?_
    refine XThen.norm ?_
    refine W.seq_region fun K hK => ?_
    simp (disch := omega) only [↓RU, RV, RH, ↓reduceIte, Nat.reduceEqDiff, reduceCtorEq, if_pos, ↓RS, RG, Nat.reduceAdd, Nat.reduceMul, Nat.reduceLeDiff]
    refine hK _ _ ?_
    clear hK K
    refine W.ret ?_
    refine BodyQ.ret rfl ?_
    rw [if_neg (by omega)]
    subst hN
    rfl

theorem sShapeTurned_pc {p : List Txt} (hs : Sm p) {ws ht : List Int} (hw : ws.length ≤ 1048576) (hh : ht.length ≤ 1048576) : PC Tryz.prog 34 [eStrs p, eInts ws, eInts ht] (.tup [.int .i64 (if given8 p ws ht then ((bestS p ws ht : Nat) : Int) else 0), .bool (given8 p ws ht)]) true := by
  refine PC.of ⟨Tryz.func34, by kernel_rfl, rfl, by kernel_rfl⟩ tabOk mixed (by show 3 ≤ Tryz.f34.ntmps; decide) ?_
  refine W.seq_region fun K hK => ?_
  simp (disch := omega) only [↓RU, RV, RH, ↓reduceIte, Nat.reduceEqDiff, reduceCtorEq, if_pos]
  refine hK _ _ ?_
  clear hK K
  refine W.seq ?_
  refine W.seq_region fun K hK => ?_
  simp (disch := omega) only [↓RU, RV, RH, ↓reduceIte, Nat.reduceEqDiff, reduceCtorEq, if_pos, List.append_nil]
  refine CallR.pc (l8Given_pc hs hw hh) rfl (.inl rfl) ?_
  simp (disch := omega) only [↓RU, RV, RH, ↓reduceIte, Nat.reduceEqDiff, reduceCtorEq, if_pos, List.append_nil]
  refine hK _ _ ?_
  clear hK K
  refine W.cond rfl (fun h0 => ?_) (fun h0 => ?_)
  · try simp only [RL] at h0
    have hg : given8 p ws ht = false := by simpa using h0
    refine W.seq_region fun K hK => ?_
    simp (disch := omega) only [↓RU, RV, RH, ↓reduceIte, Nat.reduceEqDiff, reduceCtorEq, if_pos]
    refine hK _ _ ?_
    clear hK K
    refine W.ret ?_
    refine XThen.ret ?_
    refine BodyQ.ret rfl ?_
    simp only [hg, Bool.false_eq_true, if_false]
    rfl
  · try simp only [RL] at h0
    have hg : given8 p ws ht = true := by simpa using h0
    refine W.skip ?_
    refine XThen.norm ?_
    refine W.seq_region fun K hK => ?_
    simp (disch := omega) only [↓RU, RV, RH, ↓reduceIte, Nat.reduceEqDiff, reduceCtorEq, if_pos, List.append_nil]
    refine CallR.pc (l8Best_pc hs hg) rfl (.inl rfl) ?_
    simp (disch := omega) only [↓RU, RV, RH, ↓reduceIte, Nat.reduceEqDiff, reduceCtorEq, if_pos, List.append_nil]
    refine hK _ _ ?_
    clear hK K
    refine W.seq_region fun K hK => ?_
    simp (disch := omega) only [↓RU, RV, RH, ↓reduceIte, Nat.reduceEqDiff, reduceCtorEq, if_pos]
    refine hK _ _ ?_
    clear hK K
    refine W.ret ?_
    refine BodyQ.ret rfl ?_
    simp only [hg, if_true]
    rfl

end Fw
end Go.Proofs.YtcglmbijpjhbmaaGreat

/-! Best shapes by the specification, gone through. -/
namespace Go.Proofs.YtcglmbijpjhbmaaGreat
namespace Fw
open Go

end Fw
end Go.Proofs.YtcglmbijpjhbmaaGreat

/-! Shapes by the program, gone through. -/
namespace Go.Proofs.YtcglmbijpjhbmaaGreat
namespace Fw
open Go

def scs (l : List (Int × Int)) : List PV := l.flatMap eShp
abbrev eShl (l : List (Int × Int)) : PV := .sl (scs l) l.length
theorem scs_app (l m : List (Int × Int)) : scs (l ++ m) = scs l ++ scs m := by simp [scs]
theorem scs_cons (x : Int × Int) (l : List (Int × Int)) : scs (x :: l) = eShp x ++ scs l := rfl
theorem scs_len (l : List (Int × Int)) : (scs l).length = l.length * 2 := by
  induction l with
  | nil => rfl
  | cons x l ih => rw [scs_cons, List.length_append, ih, List.length_cons]; simp [eShp]; omega
theorem scs_at {l : List (Int × Int)} {n : Nat} {x : Int × Int} (h : l[n]? = some x) : ((scs l).drop (n * 2)).take 2 = eShp x := by
  induction l generalizing n with
  | nil => simp at h
  | cons a l ih =>
    cases n with
    | zero => simp at h; subst h; rw [scs_cons]; simp [eShp]
    | succ n =>
      simp at h
      rw [scs_cons, show (n + 1) * 2 = (eShp a).length + n * 2 by simp [eShp]; omega, List.drop_length_add_append]
      exact ih h
theorem scal_scs (l : List (Int × Int)) : (scs l).all scal = true := by
  induction l with
  | nil => rfl
  | cons a l ih => rw [scs_cons, List.all_append, ih]; simp [eShp, scal]
theorem heaviest_pc {M : List (List Bool)} {ws : List Int} {nr : Nat} {rk : Nat → Nat} (hu : Up M nr rk) (hn : nr ≤ 9) (hwl : ws.length = nr) (hw : NeedOk ws) : PC Tryz.prog 67 [eRel M, eInts ws] (eInts (heaviest M ws nr)) true := by
  have e : (heaviest M ws nr).length = nr := heaviest_len
  refine PN.pc (heaviest_pn hu hn hwl hw) rfl ?_
  simp only [List.map_cons, List.map_nil, upOb_arr, up_loc, up_ints, Nat.add_zero]
  exact (reify_loc (n := nr) rfl (by simp [e]) (mapM_int _)).trans (show some (PV.sl _ nr) = some (PV.sl _ (heaviest M ws nr).length) by rw [e])
theorem mix_same {α : Type} {a b : List α} {i : Nat} {x : α} (ha : a[i]? = some x) (hb : b[i]? = some x) : a.take i ++ b.drop i = a.take (i + 1) ++ b.drop (i + 1) := by
  have hi := len_of hb
  rw [tk ha, List.append_assoc, List.drop_eq_getElem_cons hi]
  congr 1
  rw [List.getElem?_eq_getElem hi] at hb
  rw [Option.some.inj hb]; rfl
/-- Shapes so far, in the store: none is no object. -/
def slC (b : Nat) (l : List (Int × Int)) (v : Nat) : PV := match l with | [] => .nils | _ => .loc b v 0 l.length
def tlC (l : List (Int × Int)) (v : Nat) : List Ob := match l with | [] => [] | _ => [.arr v 112 2 (scs l)]
theorem slC_nil {b v : Nat} : slC b [] v = .nils := rfl
theorem tlC_nil {v : Nat} : tlC [] v = [] := rfl
theorem slC_ne {b v : Nat} {l : List (Int × Int)} (h : l ≠ []) : slC b l v = .loc b v 0 l.length := by cases l with | nil => exact absurd rfl h | cons a l => rfl
theorem tlC_ne {v : Nat} {l : List (Int × Int)} (h : l ≠ []) : tlC l v = [.arr v 112 2 (scs l)] := by cases l with | nil => exact absurd rfl h | cons a l => rfl
def shL (L A : List (List Bool)) (n : Nat) (ws ht : List Int) (k : Nat) : List (Int × Int) := (List.range k).map (shI L A n ws ht)
theorem shL_len {L A : List (List Bool)} {n : Nat} {ws ht : List Int} {k : Nat} : (shL L A n ws ht k).length = k := by simp [shL]
theorem shL_succ {L A : List (List Bool)} {n : Nat} {ws ht : List Int} {k : Nat} : shL L A n ws ht (k + 1) = shL L A n ws ht k ++ [shI L A n ws ht k] := by simp [shL, List.range_succ]
theorem shL_at {L A : List (List Bool)} {n : Nat} {ws ht : List Int} {k i : Nat} (h : i < k) : (shL L A n ws ht k)[i]? = some (shI L A n ws ht i) := by simp [shL, h]
theorem shL_ne {L A : List (List Bool)} {n : Nat} {ws ht : List Int} {k : Nat} (h : k ≠ 0) : shL L A n ws ht k ≠ [] := by intro e; have := congrArg List.length e; rw [shL_len] at this; exact h this
theorem reify_ints_n {S : Store} {o v et n k : Nat} {l : List Int} (h : S.obs[o]? = some (.arr v et 1 (l.map (.int .i64)))) (hl : l.length = n) : reify S true (k + 2) (.loc o v 0 n) = some (eInts l) := by
  subst hl; exact reify_loc h (by simp) (mapM_int _)
theorem rn_scs {S : Store} {k f : Nat} {sel : List Nat} (l : List (Int × Int)) : (scs l).mapM (rn S k sel (f + 1)) = some (scs l) := rn_scal (scal_scs l)
theorem scs_snoc {l : List (Int × Int)} {x : Int × Int} : scs (l ++ [x]) = scs l ++ [.int .i64 x.1, .int .i64 x.2] := by rw [scs_app]; rfl
/-- Whether there are needs for shapes, by the program. -/
def givenI (p : List Txt) (ws ht : List Int) : Bool := needV p [ws, ht] && decide ((rP p).length ≤ 8)

theorem product_pc {x : Int × Int} (h1 : 0 ≤ x.1 ∧ x.1 ≤ 10000) (h2 : 0 ≤ x.2 ∧ x.2 ≤ 10000) : PC Tryz.prog 77 [.agg (eShp x)] (.int .i64 (x.1 * x.2)) true := by
  have b4 := Int.mul_nonneg h1.1 h2.1
  have b5 := Int.mul_le_mul h1.2 h2.2 h2.1 (by omega)
  unfold eShp
  refine PC.of ⟨Tryz.func77, by kernel_rfl, rfl, by kernel_rfl⟩ tabOk mixed (by show 1 ≤ Tryz.f77.ntmps; decide) ?_
  refine W.seq_region fun K hK => ?_
  simp (disch := omega) only [↓RU, RV, RH, ↓reduceIte, Nat.reduceEqDiff, reduceCtorEq, if_pos, ↓RS, RG, Nat.reduceAdd, Nat.reduceMul, Nat.reduceLeDiff, tyimpl_shape, tyint, tystruct_wide_int_high_int_]
  refine hK _ _ ?_
  clear hK K
  refine W.seq_region fun K hK => ?_
  simp (disch := omega) only [↓RU, RV, RH, ↓reduceIte, Nat.reduceEqDiff, reduceCtorEq, if_pos, w64, ↓RS, RG, Nat.reduceAdd, Nat.reduceMul, Nat.reduceLeDiff, tyimpl_shape, tyint, tystruct_wide_int_high_int_]
  refine hK _ _ ?_
  clear hK K
  refine W.ret ?_
  refine BodyQ.ret rfl ?_
  rfl

theorem shaping_ev {p : List Txt} (hs : Sm p) {ws ht : List Int} (hw : ws.length ≤ 1048576) (hh : ht.length ≤ 1048576) : Ev Tryz.prog 134 [eStrs p, eInts ws, eInts ht] ⟨[], 0⟩ fun v S => ∃ x, v = .tup [x, .bool (givenI p ws ht)] ∧ ((givenI p ws ht) = true → x = eFloor (gP p) (rP p)) ∧ S = ⟨[.arr 0 24 1 [eInts ws, eInts ht]], 1⟩ := by
  refine Ev.of ⟨Tryz.func134, by kernel_rfl, rfl, by kernel_rfl⟩ tabOk mixed (by show 3 ≤ Tryz.f134.ntmps; decide) ?_
  refine W.seq_region fun K hK => ?_
  simp (disch := omega) only [↓RU, RV, RH, ↓reduceIte, Nat.reduceEqDiff, reduceCtorEq, if_pos, ↓RS, RG, Nat.reduceAdd, Nat.reduceMul, Nat.reduceLeDiff]
  refine hK _ _ ?_
  clear hK K
  refine W.seq_region fun K hK => ?_
  simp (disch := omega) only [↓RU, RV, RH, ↓reduceIte, Nat.reduceEqDiff, reduceCtorEq, if_pos, List.append_nil, ↓RS, RG, Nat.reduceAdd, Nat.reduceMul, Nat.reduceLeDiff, tyLLint, tyLint, tyint]
  refine CallR.ev (needing_ev hs (wss := [ws, ht]) (by simp) (by intro a ha; simp only [List.mem_cons, List.not_mem_nil, or_false] at ha; rcases ha with rfl | rfl <;> assumption)) ?_
  rintro _ _ ⟨x, rfl, hx, rfl⟩
  simp (disch := omega) only [↓RU, RV, RH, ↓reduceIte, Nat.reduceEqDiff, reduceCtorEq, if_pos, List.append_nil, ↓RS, RG, Nat.reduceAdd, Nat.reduceMul, Nat.reduceLeDiff, tyLLint, tyLint, tyint]
  refine hK _ _ ?_
  clear hK K
  refine W.seq_draw (by kernel_rfl) fun K hK => ?_
  cases hv : (needV p [ws, ht])
  · skip
    simp (disch := omega) only [↓RU, RV, RH, ↓reduceIte, Nat.reduceEqDiff, reduceCtorEq, if_pos, w64, ↓RS, RG, Nat.reduceAdd, Nat.reduceMul, Nat.reduceLeDiff, tyLLint, tyLimpl_rect, tyLint, tyimpl_floor, tyimpl_grid, tyimpl_rect, tyint, tystruct_cells_impl_grid_rooms_Limpl_rect_, tystruct_row_int_col_int_high_int_wide_int_, hv]
    refine hK _ _ ?_
    clear hK K
    refine W.ret ?_
    refine BodyQ.ret rfl ?_
    exact ⟨_, _, by rw [givenI, hv]; rfl, fun h9 => absurd h9 (by unfold givenI; rw [hv]; exact Bool.false_ne_true), take_all⟩
  · skip
    obtain rfl := hx hv
    simp (disch := omega) only [↓RU, RV, RH, ↓reduceIte, Nat.reduceEqDiff, reduceCtorEq, if_pos, w64, ↓RS, RG, Nat.reduceAdd, Nat.reduceMul, Nat.reduceLeDiff, tyLLint, tyLimpl_rect, tyLint, tyimpl_floor, tyimpl_grid, tyimpl_rect, tyint, tystruct_cells_impl_grid_rooms_Limpl_rect_, tystruct_row_int_col_int_high_int_wide_int_, hv, rcs_len]
    refine hK _ _ ?_
    clear hK K
    refine W.ret ?_
    refine BodyQ.ret rfl ?_
    have hge : (givenI p ws ht) = decide (((rP p).length : Int) ≤ 8) := by unfold givenI; rw [hv]; simp; omega
    exact ⟨_, _, by rw [hge]; rfl, fun _ => rfl, take_all⟩

theorem givenI_ok {p : List Txt} {ws ht : List Int} (h : givenI p ws ht = true) : needV p [ws] = true ∧ needV p [ht] = true ∧ (rP p).length ≤ 8 := by
  unfold givenI needV at *
  simp only [List.all_cons, List.all_nil, Bool.and_true, Bool.and_eq_true, decide_eq_true_eq] at h ⊢
  exact ⟨⟨h.1.1, h.1.2.1⟩, ⟨h.1.1, h.1.2.2⟩, h.2⟩
theorem pEq_ints {S : Store} {l : List Int} (h : 1 ≤ l.length) : pEq tab S 24 (eInts l) .nils = some false := by
  show (if l.length = 0 then none else some false) = some false
  rw [if_neg (by omega)]

theorem clone_pn {l : List Int} (h1 : 1 ≤ l.length) (hl : l.length ≤ 1048576) : PN Tryz.prog 135 [eInts l] (.loc 0 0 0 l.length) [.arr 0 3 1 (l.map (.int .i64))] false := by
  refine PN.of ⟨Tryz.func135, by kernel_rfl, rfl, by kernel_rfl⟩ tabOk mixed (by show 1 ≤ Tryz.f135.ntmps; decide) ?_
  refine W.seq_region fun K hK => ?_
  simp (disch := omega) only [↓RU, RV, RH, ↓reduceIte, Nat.reduceEqDiff, reduceCtorEq, if_pos, ↓RS, RG, Nat.reduceAdd, Nat.reduceMul, Nat.reduceLeDiff]
  refine hK _ _ ?_
  clear hK K
  refine W.seq ?_
  refine W.seq_region fun K hK => ?_
  simp (disch := omega) only [↓RU, RV, RH, ↓reduceIte, Nat.reduceEqDiff, reduceCtorEq, if_pos, w64, ↓RS, RG, Nat.reduceAdd, Nat.reduceMul, Nat.reduceLeDiff, tyLint, tyint, pEq_ints h1]
  refine hK _ _ ?_
  clear hK K
  refine W.cond rfl (fun h => ?_) (fun h => ?_)
  · try simp only [RL] at h
    exact absurd h (by simp)
  · try simp only [RL] at h
    refine W.skip ?_
    refine XThen.norm ?_
    refine W.seq_region fun K hK => ?_
    simp (disch := omega) only [↓RU, RV, RH, ↓reduceIte, Nat.reduceEqDiff, reduceCtorEq, if_pos, ↓RS, RG, Nat.reduceAdd, Nat.reduceMul, Nat.reduceLeDiff, tyLint, tyint]
    refine hK _ _ ?_
    clear hK K
    refine W.ret ?_
    refine BodyQ.ret rfl ?_
    exact sh_one rfl (sh_ints _)

theorem tried_no {p : List Txt} (hs : Sm p) {ws ht : List Int} (hw : ws.length ≤ 1048576) (hh : ht.length ≤ 1048576) (hv : givenI p ws ht = false) : PC Tryz.prog 111 [eStrs p, eInts ws, eInts ht] (.tup [.sl [] 0, .bool false]) true := by
  refine PC.of ⟨Tryz.func111, by kernel_rfl, rfl, by kernel_rfl⟩ tabOk mixed (by show 3 ≤ Tryz.f111.ntmps; decide) ?_
  refine W.seq_region fun K hK => ?_
  simp (disch := omega) only [↓RU, RV, RH, ↓reduceIte, Nat.reduceEqDiff, reduceCtorEq, if_pos, ↓RS, RG, Nat.reduceAdd, Nat.reduceMul, Nat.reduceLeDiff]
  refine hK _ _ ?_
  clear hK K
  refine W.seq_region fun K hK => ?_
  simp (disch := omega) only [↓RU, RV, RH, ↓reduceIte, Nat.reduceEqDiff, reduceCtorEq, if_pos, List.append_nil, ↓RS, RG, Nat.reduceAdd, Nat.reduceMul, Nat.reduceLeDiff, hv]
  refine CallR.ev (shaping_ev hs hw hh) ?_
  rintro _ _ ⟨x, rfl, hx, rfl⟩
  simp (disch := omega) only [↓RU, RV, RH, ↓reduceIte, Nat.reduceEqDiff, reduceCtorEq, if_pos, List.append_nil, ↓RS, RG, Nat.reduceAdd, Nat.reduceMul, Nat.reduceLeDiff, hv]
  refine hK _ _ ?_
  clear hK K
  refine W.seq ?_
  refine W.seq_region fun K hK => ?_
  simp (disch := omega) only [↓RU, RV, RH, ↓reduceIte, Nat.reduceEqDiff, reduceCtorEq, if_pos, ↓RS, RG, Nat.reduceAdd, Nat.reduceMul, Nat.reduceLeDiff]
  refine hK _ _ ?_
  clear hK K
  refine W.cond rfl (fun h => ?_) (fun h => ?_)
  · try simp only [RL] at h
    refine W.seq_region fun K hK => ?_
    simp (disch := omega) only [↓RU, RV, RH, ↓reduceIte, Nat.reduceEqDiff, reduceCtorEq, if_pos, ↓RS, RG, Nat.reduceAdd, Nat.reduceMul, Nat.reduceLeDiff]
    refine hK _ _ ?_
    clear hK K
    refine W.ret ?_
    refine XThen.ret ?_
    refine BodyQ.ret rfl ?_
    rfl
  · try simp only [RL] at h
    exact absurd h (by simp)

theorem tried_yes {p : List Txt} (hs : Sm p) {ws ht : List Int} (hw : ws.length ≤ 1048576) (hh : ht.length ≤ 1048576) (hv : givenI p ws ht = true) : PC Tryz.prog 111 [eStrs p, eInts ws, eInts ht] (.tup [eShl (shL (leftG (gP p) p.length (w0 (readG p)) (rP p).length) (aboveG (gP p) p.length (w0 (readG p)) (rP p).length) (rP p).length ws ht (2 ^ (rP p).length)), .bool true]) true := by
  obtain ⟨hv1, hv2, hn8⟩ := givenI_ok hv
  obtain ⟨hpl, hwl, hwok⟩ := needV_one hv1
  obtain ⟨-, hhl, hhok⟩ := needV_one hv2
  have hok := (plain_okB hpl).1
  have hg := okB_gw hok
  have hn9 := okB_rooms hok
  have hn1 := okB_rooms1 hok
  obtain ⟨hrm, ⟨rk, hu⟩, ⟨rk2, hu2⟩⟩ := plan_all hpl
  generalize hMe : (leftG (gP p) p.length (w0 (readG p)) (rP p).length) = M at hu ⊢
  generalize hAe : (aboveG (gP p) p.length (w0 (readG p)) (rP p).length) = A at hu2 ⊢
  obtain ⟨nr, hnr⟩ : ∃ nr : Nat, (rP p).length = nr := ⟨_, rfl⟩
  rw [hnr] at hwl hhl hn8 hn9 hn1 hu hu2
  have hp8 := pow8 hn8
  obtain ⟨N, hN⟩ : ∃ N : Nat, 2 ^ nr = N := ⟨_, rfl⟩
  have hsh := w_shl (b := nr) (by omega)
  rw [hN] at hp8 hsh
  refine PC.of ⟨Tryz.func111, by kernel_rfl, rfl, by kernel_rfl⟩ tabOk mixed (by show 3 ≤ Tryz.f111.ntmps; decide) ?_
  refine W.seq_region fun K hK => ?_
  simp (disch := omega) only [↓RU, RV, RH, ↓reduceIte, Nat.reduceEqDiff, reduceCtorEq, if_pos, ↓RS, RG, Nat.reduceAdd, Nat.reduceMul, Nat.reduceLeDiff]
  refine hK _ _ ?_
  clear hK K
  refine W.seq_region fun K hK => ?_
  simp (disch := omega) only [↓RU, RV, RH, ↓reduceIte, Nat.reduceEqDiff, reduceCtorEq, if_pos, List.append_nil, ↓RS, RG, Nat.reduceAdd, Nat.reduceMul, Nat.reduceLeDiff, hv]
  refine CallR.ev (shaping_ev hs hw hh) ?_
  rintro _ _ ⟨x, rfl, hx, rfl⟩
  simp (disch := omega) only [↓RU, RV, RH, ↓reduceIte, Nat.reduceEqDiff, reduceCtorEq, if_pos, List.append_nil, ↓RS, RG, Nat.reduceAdd, Nat.reduceMul, Nat.reduceLeDiff, hv]
  refine hK _ _ ?_
  clear hK K
  refine W.seq ?_
  refine W.seq_region fun K hK => ?_
  simp (disch := omega) only [↓RU, RV, RH, ↓reduceIte, Nat.reduceEqDiff, reduceCtorEq, if_pos, ↓RS, RG, Nat.reduceAdd, Nat.reduceMul, Nat.reduceLeDiff]
  refine hK _ _ ?_
  clear hK K
  refine W.cond rfl (fun h => ?_) (fun h => ?_)
  · try simp only [RL] at h
    exact absurd h (by simp)
  · try simp only [RL] at h
    obtain rfl := hx hv
    refine W.skip ?_
    refine XThen.norm ?_
    refine W.seq_region fun K hK => ?_
    simp (disch := omega) only [↓RU, RV, RH, ↓reduceIte, Nat.reduceEqDiff, reduceCtorEq, if_pos, List.append_nil, ↓RS, RG, Nat.reduceAdd, Nat.reduceMul, Nat.reduceLeDiff, tyLLbool, tyLbool, tybool, tyimpl_orders, tyimpl_relation, tystruct_left_impl_relation_above_impl_relation_, hMe, hAe]
    refine CallR.pc (orders_pc hg rfl (by omega) hrm) rfl (.inl rfl) ?_
    simp (disch := omega) only [↓RU, RV, RH, ↓reduceIte, Nat.reduceEqDiff, reduceCtorEq, if_pos, List.append_nil, ↓RS, RG, Nat.reduceAdd, Nat.reduceMul, Nat.reduceLeDiff, tyLLbool, tyLbool, tybool, tyimpl_orders, tyimpl_relation, tystruct_left_impl_relation_above_impl_relation_, hMe, hAe]
    refine hK _ _ ?_
    clear hK K
    refine W.seq_region fun K hK => ?_
    simp (disch := omega) only [↓RU, RV, RH, ↓reduceIte, Nat.reduceEqDiff, reduceCtorEq, if_pos, ↓RS, RG, Nat.reduceAdd, Nat.reduceMul, Nat.reduceLeDiff]
    refine hK _ _ ?_
    clear hK K
    refine W.seq ?_
    refine W.seq_region fun K hK => ?_
    simp (disch := omega) only [↓RU, RV, RH, ↓reduceIte, Nat.reduceEqDiff, reduceCtorEq, if_pos, w64, ↓RS, RG, Nat.reduceAdd, Nat.reduceMul, Nat.reduceLeDiff, tyLLint, tyLimpl_rect, tyLint, tyimpl_floor, tyimpl_grid, tyimpl_rect, tyint, tystruct_cells_impl_grid_rooms_Limpl_rect_, tystruct_row_int_col_int_high_int_wide_int_, rcs_len, hnr, pShl, hsh]
    refine hK _ _ ?_
    clear hK K
    refine W.block ?_
    refine W.loopS [1, 2, 10, 11, 32, 33] (fun n vs S => ∃ k vo v t : Nat, n = N - k ∧ k ≤ N ∧ vs = [eInts ws, eInts ht, .ref 0 vo 0, slC 1 (shL M A nr ws ht k) v, .int .i64 N, .int .i64 k] ∧ S = ⟨.arr vo 61 2 [eRel M, eRel A] :: tlC (shL M A nr ws ht k) v, t⟩) N ?_ ?_
    · refine ⟨0, [1], [eInts ws, eInts ht, .ref 0 2 0, .nils, .int .i64 N, .int .i64 (0 : Nat)], ⟨[.arr 2 61 2 [eRel M, eRel A]], 3⟩, ?_, ?_, 0, 2, 0, 3, rfl, by omega, rfl, rfl⟩
      · simp [-List.mapM_map, Env.put, Env.of, argEnv, Srn_eq, rnObs_cons, rnObs_nil, rnOb_arr, rnOb_map, rn_loc, rn_ref, rn_mp, rn_int, rn_bool, rn_str, rn_ip, rn_sl, rn_nils, rn_nilp, rn_undef, rn_agg, rn_tup, rn_fn, rfq_loc, rfq_int, rfq_bool, rfq_str, rfq_sl, frOf, List.range_succ, List.mapM_append, List.mapM_cons]
      · simp [-List.mapM_map, Env.put, Env.of, argEnv, Srn_eq, rnObs_cons, rnObs_nil, rnOb_arr, rnOb_map, rn_loc, rn_ref, rn_mp, rn_int, rn_bool, rn_str, rn_ip, rn_sl, rn_nils, rn_nilp, rn_undef, rn_agg, rn_tup, rn_fn, rfq_loc, rfq_int, rfq_bool, rfq_str, rfq_sl, frOf, List.range_succ, List.mapM_append, List.mapM_cons]
    rintro n vs S - ⟨k, vo, v, t, rfl, h_k, rfl, rfl⟩
    refine W.seq_region fun K hK => ?_
    simp (disch := omega) only [↓RU, RV, RH, ↓reduceIte, Nat.reduceEqDiff, reduceCtorEq, if_pos, w64, ↓RS, RG, Nat.reduceAdd, Nat.reduceMul, Nat.reduceLeDiff, tyint]
    refine hK _ _ ?_
    clear hK K
    refine W.seq ?_
    refine W.cond rfl (fun h1 => ?_) (fun h1 => ?_)
    · try simp only [RL] at h1
      refine W.skip ?_
      refine XThen.norm ?_
      refine W.seq ?_
      refine W.block ?_
      refine W.seq_region fun K hK => ?_
      simp (disch := omega) only [↓RU, RV, RH, ↓reduceIte, Nat.reduceEqDiff, reduceCtorEq, if_pos, ↓RS, RG, Nat.reduceAdd, Nat.reduceMul, Nat.reduceLeDiff]
      refine hK _ _ ?_
      clear hK K
      refine W.joinS [1, 2, 10, 11, 32, 33, 12, 13, 14] (fun vs S => ∃ v t : Nat, vs = [eInts ws, eInts ht, .ref 2 v 0, slC 3 (shL M A nr ws ht k) v, .int .i64 N, .int .i64 k, .int .i64 k, .loc 0 v 0 nr, .loc 1 v 0 nr] ∧ S = ⟨.arr v 3 1 (ws.map (.int .i64)) :: .arr v 3 1 (ht.map (.int .i64)) :: .arr v 61 2 [eRel M, eRel A] :: tlC (shL M A nr ws ht k) v, t⟩) ?_ ?_
      ·
        refine W.region_k fun K hK => ?_
        by_cases hk : k = 0
        · skip
          have hk0 : shL M A nr ws ht k = [] := by subst hk; rfl
          simp only [hk0, slC_nil, tlC_nil]
          simp (disch := omega) only [↓RU, RV, RH, ↓reduceIte, Nat.reduceEqDiff, reduceCtorEq, if_pos, List.append_nil, ↓RS, RG, Nat.reduceAdd, Nat.reduceMul, Nat.reduceLeDiff]
          refine CallR.pn (clone_pn (l := ws) (by omega) (by omega)) rfl (.inl rfl) ?_
          simp (disch := omega) only [↓RU, RV, RH, ↓reduceIte, Nat.reduceEqDiff, reduceCtorEq, if_pos, List.append_nil, ↓RS, RG, Nat.reduceAdd, Nat.reduceMul, Nat.reduceLeDiff, RN]
          refine CallR.pn (clone_pn (l := ht) (by omega) (by omega)) rfl (.inl rfl) ?_
          simp (disch := omega) only [↓RU, RV, RH, ↓reduceIte, Nat.reduceEqDiff, reduceCtorEq, if_pos, List.append_nil, ↓RS, RG, Nat.reduceAdd, Nat.reduceMul, Nat.reduceLeDiff, RN]
          refine hK _ _ ?_
          clear hK K
          refine XThen.norm ?_
          refine ⟨0, [1, 2, 0], [eInts ws, eInts ht, .ref 2 (t + 2) 0, slC 3 (shL M A nr ws ht k) (t + 2), .int .i64 N, .int .i64 k, .int .i64 k, .loc 0 (t + 2) 0 nr, .loc 1 (t + 2) 0 nr], ⟨.arr (t + 2) 3 1 (ws.map (.int .i64)) :: .arr (t + 2) 3 1 (ht.map (.int .i64)) :: .arr (t + 2) 61 2 [eRel M, eRel A] :: tlC (shL M A nr ws ht k) (t + 2), t + 3⟩, ?_, ?_, t + 2, t + 3, rfl, rfl⟩
          · rw [hk0, slC_nil]; simp [-List.mapM_map, Env.put, Env.of, argEnv, Srn_eq, rnObs_cons, rnObs_nil, rnOb_arr, rnOb_map, rn_loc, rn_ref, rn_mp, rn_int, rn_bool, rn_str, rn_ip, rn_sl, rn_nils, rn_nilp, rn_undef, rn_agg, rn_tup, rn_fn, rfq_loc, rfq_int, rfq_bool, rfq_str, rfq_sl, frOf, List.range_succ, List.mapM_append, List.mapM_cons, hwl, hhl] <;> decide
          · rw [hk0, tlC_nil]; simp [-List.mapM_map, Env.put, Env.of, argEnv, Srn_eq, rnObs_cons, rnObs_nil, rnOb_arr, rnOb_map, rn_loc, rn_ref, rn_mp, rn_int, rn_bool, rn_str, rn_ip, rn_sl, rn_nils, rn_nilp, rn_undef, rn_agg, rn_tup, rn_fn, rfq_loc, rfq_int, rfq_bool, rfq_str, rfq_sl, frOf, List.range_succ, List.mapM_append, List.mapM_cons, rn_ints]
        · skip
          simp only [slC_ne (shL_ne hk), tlC_ne (shL_ne hk)]
          simp (disch := omega) only [↓RU, RV, RH, ↓reduceIte, Nat.reduceEqDiff, reduceCtorEq, if_pos, List.append_nil, ↓RS, RG, Nat.reduceAdd, Nat.reduceMul, Nat.reduceLeDiff]
          refine CallR.pn (clone_pn (l := ws) (by omega) (by omega)) rfl (.inl rfl) ?_
          simp (disch := omega) only [↓RU, RV, RH, ↓reduceIte, Nat.reduceEqDiff, reduceCtorEq, if_pos, List.append_nil, ↓RS, RG, Nat.reduceAdd, Nat.reduceMul, Nat.reduceLeDiff, RN]
          refine CallR.pn (clone_pn (l := ht) (by omega) (by omega)) rfl (.inl rfl) ?_
          simp (disch := omega) only [↓RU, RV, RH, ↓reduceIte, Nat.reduceEqDiff, reduceCtorEq, if_pos, List.append_nil, ↓RS, RG, Nat.reduceAdd, Nat.reduceMul, Nat.reduceLeDiff, RN]
          refine hK _ _ ?_
          clear hK K
          refine XThen.norm ?_
          refine ⟨0, [2, 3, 0, 1], [eInts ws, eInts ht, .ref 2 (t + 2) 0, slC 3 (shL M A nr ws ht k) (t + 2), .int .i64 N, .int .i64 k, .int .i64 k, .loc 0 (t + 2) 0 nr, .loc 1 (t + 2) 0 nr], ⟨.arr (t + 2) 3 1 (ws.map (.int .i64)) :: .arr (t + 2) 3 1 (ht.map (.int .i64)) :: .arr (t + 2) 61 2 [eRel M, eRel A] :: tlC (shL M A nr ws ht k) (t + 2), t + 3⟩, ?_, ?_, t + 2, t + 3, rfl, rfl⟩
          · rw [slC_ne (shL_ne hk)]; simp [-List.mapM_map, Env.put, Env.of, argEnv, Srn_eq, rnObs_cons, rnObs_nil, rnOb_arr, rnOb_map, rn_loc, rn_ref, rn_mp, rn_int, rn_bool, rn_str, rn_ip, rn_sl, rn_nils, rn_nilp, rn_undef, rn_agg, rn_tup, rn_fn, rfq_loc, rfq_int, rfq_bool, rfq_str, rfq_sl, frOf, List.range_succ, List.mapM_append, List.mapM_cons, hwl, hhl] <;> decide
          · rw [tlC_ne (shL_ne hk)]; simp [-List.mapM_map, Env.put, Env.of, argEnv, Srn_eq, rnObs_cons, rnObs_nil, rnOb_arr, rnOb_map, rn_loc, rn_ref, rn_mp, rn_int, rn_bool, rn_str, rn_ip, rn_sl, rn_nils, rn_nilp, rn_undef, rn_agg, rn_tup, rn_fn, rfq_loc, rfq_int, rfq_bool, rfq_str, rfq_sl, frOf, List.range_succ, List.mapM_append, List.mapM_cons, rn_ints, rn_scs]
      rintro vs S - ⟨v2, t2, rfl, rfl⟩
      refine W.seq ?_
      refine W.seq_region fun K hK => ?_
      simp (disch := omega) only [↓RU, RV, RH, ↓reduceIte, Nat.reduceEqDiff, reduceCtorEq, if_pos, ↓RS, RG, Nat.reduceAdd, Nat.reduceMul, Nat.reduceLeDiff, tyLint, tyint, hwl]
      refine hK _ _ ?_
      clear hK K
      refine W.block ?_
      refine W.loop [1, 2, 10, 11, 32, 33, 12, 13, 14, 41, 42] (fun n vs S => ∃ i t : Nat, n = nr - i ∧ i ≤ nr ∧ vs = [eInts ws, eInts ht, .ref 2 v2 0, slC 3 (shL M A nr ws ht k) v2, .int .i64 N, .int .i64 k, .int .i64 k, .loc 0 v2 0 nr, .loc 1 v2 0 nr, .int .i64 nr, .int .i64 i] ∧ S = ⟨.arr v2 3 1 (((swp ws ht k).take i ++ ws.drop i).map (.int .i64)) :: .arr v2 3 1 (((swp ht ws k).take i ++ ht.drop i).map (.int .i64)) :: .arr v2 61 2 [eRel M, eRel A] :: tlC (shL M A nr ws ht k) v2, t⟩) nr ?_ ?_
      · refine ⟨_, 0, t2, rfl, by omega, ?_, take_all_of (by simp)⟩
        simp [Env.put, Env.of]
      rintro n vs S - ⟨i, t3, rfl, h_i, rfl, rfl⟩
      refine W.seq_region fun K hK => ?_
      simp (disch := omega) only [↓RU, RV, RH, ↓reduceIte, Nat.reduceEqDiff, reduceCtorEq, if_pos, w64, ↓RS, RG, Nat.reduceAdd, Nat.reduceMul, Nat.reduceLeDiff, tyint]
      refine hK _ _ ?_
      clear hK K
      refine W.seq ?_
      refine W.cond rfl (fun h2 => ?_) (fun h2 => ?_)
      · try simp only [RL] at h2
        obtain ⟨x, hx, -⟩ := get_of (show i < ws.length by omega)
        obtain ⟨y, hy, -⟩ := get_of (show i < ht.length by omega)
        have hs1 := swp_at (set := k) hx hy
        have hs2 := swp_at (set := k) hy hx
        have hl1 : (swp ws ht k).length = ws.length := swp_len
        have hl2 : (swp ht ws k).length = ht.length := swp_len
        have hm1 := mix_at (i := i) hl1
        have hm2 := mix_at (i := i) hl2
        rw [hx] at hm1
        rw [hy] at hm2
        have hn1a := mix_len (i := i) hl1
        have hn2a := mix_len (i := i) hl2
        refine W.skip ?_
        refine XThen.norm ?_
        refine W.seq ?_
        refine W.block ?_
        refine W.seq_region fun K hK => ?_
        simp (disch := omega) only [↓RU, RV, RH, ↓reduceIte, Nat.reduceEqDiff, reduceCtorEq, if_pos, ↓RS, RG, Nat.reduceAdd, Nat.reduceMul, Nat.reduceLeDiff]
        refine hK _ _ ?_
        clear hK K
        refine W.seq_region fun K hK => ?_
        simp (disch := omega) only [↓RU, RV, RH, ↓reduceIte, Nat.reduceEqDiff, reduceCtorEq, if_pos, w64, ↓RS, RG, Nat.reduceAdd, Nat.reduceMul, Nat.reduceLeDiff, tyint, pShr, w_bit]
        refine hK _ _ ?_
        clear hK K
        refine W.cond rfl (fun h3 => ?_) (fun h3 => ?_)
        · try simp only [RL] at h3
          rw [h3] at hs1 hs2
          simp only [if_true] at hs1 hs2
          refine W.draw_k (by kernel_rfl) fun K hK => ?_
          simp (disch := omega) only [↓RU, RV, RH, ↓reduceIte, Nat.reduceEqDiff, reduceCtorEq, if_pos, ↓RS, RG, Nat.reduceAdd, Nat.reduceMul, Nat.reduceLeDiff, tyLint, tyint, hm1, hm2, hn1a, hn2a, set_spl, set_int]
          refine hK _ _ ?_
          clear hK K
          refine XBlock.norm ?_
          refine XThen.norm ?_
          refine W.region_k fun K hK => ?_
          simp (disch := omega) only [↓RU, RV, RH, ↓reduceIte, Nat.reduceEqDiff, reduceCtorEq, if_pos, w64, ↓RS, RG, Nat.reduceAdd, Nat.reduceMul, Nat.reduceLeDiff, tyint]
          refine hK _ _ ?_
          clear hK K
          refine XThen.norm ?_
          refine ⟨nr - (i + 1), by omega, _, i + 1, t3, rfl, by omega, ?_, take_all_of (by rw [mix_succ hs1 hl1, mix_succ hs2 hl2])⟩
          simp [Env.put, Env.of]
        · try simp only [RL] at h3
          rw [h3] at hs1 hs2
          simp only [Bool.false_eq_true, if_false] at hs1 hs2
          refine W.skip ?_
          refine XBlock.norm ?_
          refine XThen.norm ?_
          refine W.region_k fun K hK => ?_
          simp (disch := omega) only [↓RU, RV, RH, ↓reduceIte, Nat.reduceEqDiff, reduceCtorEq, if_pos, w64, ↓RS, RG, Nat.reduceAdd, Nat.reduceMul, Nat.reduceLeDiff, tyint]
          refine hK _ _ ?_
          clear hK K
          refine XThen.norm ?_
          refine ⟨nr - (i + 1), by omega, _, i + 1, t3, rfl, by omega, ?_, take_all_of (by rw [← mix_same hs1 hx, ← mix_same hs2 hy])⟩
          simp [Env.put, Env.of]
      · try simp only [RL] at h2
        obtain rfl : i = nr := by omega
        rw [List.take_of_length_le (by rw [swp_len]; omega), List.drop_of_length_le (by omega), List.append_nil, List.take_of_length_le (by rw [swp_len]; omega), List.drop_of_length_le (by omega), List.append_nil]
        have hok1 := swp_ok (set := k) hwok hhok (by omega)
        have hok2 := swp_ok (set := k) hhok hwok (by omega)
        have hl1 : (swp ws ht k).length = i := by rw [swp_len]; omega
        have hl2 : (swp ht ws k).length = i := by rw [swp_len]; omega
        have hh1 := heaviest_len (M := M) (ws := swp ws ht k) (n := i)
        have hh2 := heaviest_len (M := A) (ws := swp ht ws k) (n := i)
        obtain ⟨y1, hy1, -⟩ := get_of (show 0 < (heaviest M (swp ws ht k) i).length by omega)
        obtain ⟨y2, hy2, -⟩ := get_of (show 0 < (heaviest A (swp ht ws k) i).length by omega)
        have hSl := shL_len (L := M) (A := A) (n := i) (ws := ws) (ht := ht) (k := k)
        have hcl := scs_len (shL M A i ws ht k)
        have hct : (scs (shL M A i ws ht k)).take (k * 2) = scs (shL M A i ws ht k) := List.take_of_length_le (by omega)
        refine W.exit ?_
        refine XThen.exit ?_
        refine XThen.exit ?_
        refine XBlock.hit ?_
        refine XThen.norm ?_
        refine W.draw_k (by kernel_rfl) fun K hK => ?_
        by_cases hk : k = 0
        · skip
          have hk0 : shL M A i ws ht k = [] := by subst hk; rfl
          simp only [hk0, slC_nil, tlC_nil]
          simp (disch := omega) only [↓RU, RV, RH, ↓reduceIte, Nat.reduceEqDiff, reduceCtorEq, if_pos, List.append_nil, ↓RS, RG, Nat.reduceAdd, Nat.reduceMul, Nat.reduceLeDiff, tyLLbool, tyLbool, tyLimpl_shape, tybool, tyimpl_orders, tyimpl_relation, tyimpl_shape, tyint, tystruct_left_impl_relation_above_impl_relation_, tystruct_wide_int_high_int_]
          refine CallR.pc (heaviest_pc hu hn9 hl1 hok1) (mapM_one rfl (mapM_one (reify_ints_n (k := 8) rfl hl1) rfl)) (.inl rfl) ?_
          simp (disch := omega) only [↓RU, RV, RH, ↓reduceIte, Nat.reduceEqDiff, reduceCtorEq, if_pos, List.append_nil, ↓RS, RG, Nat.reduceAdd, Nat.reduceMul, Nat.reduceLeDiff, tyLLbool, tyLbool, tyLimpl_shape, tybool, tyimpl_orders, tyimpl_relation, tyimpl_shape, tyint, tystruct_left_impl_relation_above_impl_relation_, tystruct_wide_int_high_int_]
          refine CallR.pc (max_pc hy1 (by omega)) rfl (.inl rfl) ?_
          simp (disch := omega) only [↓RU, RV, RH, ↓reduceIte, Nat.reduceEqDiff, reduceCtorEq, if_pos, List.append_nil, ↓RS, RG, Nat.reduceAdd, Nat.reduceMul, Nat.reduceLeDiff, tyLLbool, tyLbool, tyLimpl_shape, tybool, tyimpl_orders, tyimpl_relation, tyimpl_shape, tyint, tystruct_left_impl_relation_above_impl_relation_, tystruct_wide_int_high_int_]
          refine CallR.pc (heaviest_pc hu2 hn9 hl2 hok2) (mapM_one rfl (mapM_one (reify_ints_n (k := 8) rfl hl2) rfl)) (.inl rfl) ?_
          simp (disch := omega) only [↓RU, RV, RH, ↓reduceIte, Nat.reduceEqDiff, reduceCtorEq, if_pos, List.append_nil, ↓RS, RG, Nat.reduceAdd, Nat.reduceMul, Nat.reduceLeDiff, tyLLbool, tyLbool, tyLimpl_shape, tybool, tyimpl_orders, tyimpl_relation, tyimpl_shape, tyint, tystruct_left_impl_relation_above_impl_relation_, tystruct_wide_int_high_int_]
          refine CallR.pc (max_pc hy2 (by omega)) rfl (.inl rfl) ?_
          simp (disch := omega) only [↓RU, RV, RH, ↓reduceIte, Nat.reduceEqDiff, reduceCtorEq, if_pos, List.append_nil, ↓RS, RG, Nat.reduceAdd, Nat.reduceMul, Nat.reduceLeDiff, tyLLbool, tyLbool, tyLimpl_shape, tybool, tyimpl_orders, tyimpl_relation, tyimpl_shape, tyint, tystruct_left_impl_relation_above_impl_relation_, tystruct_wide_int_high_int_]
          refine hK _ _ ?_
          clear hK K
          refine XBlock.norm ?_
          refine XThen.norm ?_
          refine W.region_k fun K hK => ?_
          simp (disch := omega) only [↓RU, RV, RH, ↓reduceIte, Nat.reduceEqDiff, reduceCtorEq, if_pos, w64, ↓RS, RG, Nat.reduceAdd, Nat.reduceMul, Nat.reduceLeDiff, tyint]
          refine hK _ _ ?_
          clear hK K
          refine XThen.norm ?_
          refine ⟨N - (k + 1), by omega, 0, [2, 4], [eInts ws, eInts ht, .ref 0 (t3 + 2) 0, slC 1 (shL M A i ws ht (k + 1)) (t3 + 2), .int .i64 N, .int .i64 ((k + 1 : Nat) : Int)], ⟨.arr (t3 + 2) 61 2 [eRel M, eRel A] :: tlC (shL M A i ws ht (k + 1)) (t3 + 2), t3 + 3⟩, ?_, ?_, k + 1, t3 + 2, t3 + 2, t3 + 3, rfl, by omega, rfl, rfl⟩
          · rw [slC_ne (shL_ne (by omega)), shL_succ, hk0]; simp [-List.mapM_map, Env.put, Env.of, argEnv, Srn_eq, rnObs_cons, rnObs_nil, rnOb_arr, rnOb_map, rn_loc, rn_ref, rn_mp, rn_int, rn_bool, rn_str, rn_ip, rn_sl, rn_nils, rn_nilp, rn_undef, rn_agg, rn_tup, rn_fn, rfq_loc, rfq_int, rfq_bool, rfq_str, rfq_sl, frOf, List.range_succ, List.mapM_append, List.mapM_cons] <;> decide
          · rw [tlC_ne (shL_ne (by omega)), shL_succ, hk0]; simp [-List.mapM_map, Env.put, Env.of, argEnv, Srn_eq, rnObs_cons, rnObs_nil, rnOb_arr, rnOb_map, rn_loc, rn_ref, rn_mp, rn_int, rn_bool, rn_str, rn_ip, rn_sl, rn_nils, rn_nilp, rn_undef, rn_agg, rn_tup, rn_fn, rfq_loc, rfq_int, rfq_bool, rfq_str, rfq_sl, frOf, List.range_succ, List.mapM_append, List.mapM_cons, scs, eShp, shI]
        · skip
          simp only [slC_ne (shL_ne hk), tlC_ne (shL_ne hk)]
          simp (disch := omega) only [↓RU, RV, RH, ↓reduceIte, Nat.reduceEqDiff, reduceCtorEq, if_pos, List.append_nil, ↓RS, RG, Nat.reduceAdd, Nat.reduceMul, Nat.reduceLeDiff, tyLLbool, tyLbool, tyLimpl_shape, tybool, tyimpl_orders, tyimpl_relation, tyimpl_shape, tyint, tystruct_left_impl_relation_above_impl_relation_, tystruct_wide_int_high_int_, hcl, hSl]
          refine CallR.pc (heaviest_pc hu hn9 hl1 hok1) (mapM_one rfl (mapM_one (reify_ints_n (k := 8) rfl hl1) rfl)) (.inl rfl) ?_
          simp (disch := omega) only [↓RU, RV, RH, ↓reduceIte, Nat.reduceEqDiff, reduceCtorEq, if_pos, List.append_nil, ↓RS, RG, Nat.reduceAdd, Nat.reduceMul, Nat.reduceLeDiff, tyLLbool, tyLbool, tyLimpl_shape, tybool, tyimpl_orders, tyimpl_relation, tyimpl_shape, tyint, tystruct_left_impl_relation_above_impl_relation_, tystruct_wide_int_high_int_, hcl, hSl]
          refine CallR.pc (max_pc hy1 (by omega)) rfl (.inl rfl) ?_
          simp (disch := omega) only [↓RU, RV, RH, ↓reduceIte, Nat.reduceEqDiff, reduceCtorEq, if_pos, List.append_nil, ↓RS, RG, Nat.reduceAdd, Nat.reduceMul, Nat.reduceLeDiff, tyLLbool, tyLbool, tyLimpl_shape, tybool, tyimpl_orders, tyimpl_relation, tyimpl_shape, tyint, tystruct_left_impl_relation_above_impl_relation_, tystruct_wide_int_high_int_, hcl, hSl]
          refine CallR.pc (heaviest_pc hu2 hn9 hl2 hok2) (mapM_one rfl (mapM_one (reify_ints_n (k := 8) rfl hl2) rfl)) (.inl rfl) ?_
          simp (disch := omega) only [↓RU, RV, RH, ↓reduceIte, Nat.reduceEqDiff, reduceCtorEq, if_pos, List.append_nil, ↓RS, RG, Nat.reduceAdd, Nat.reduceMul, Nat.reduceLeDiff, tyLLbool, tyLbool, tyLimpl_shape, tybool, tyimpl_orders, tyimpl_relation, tyimpl_shape, tyint, tystruct_left_impl_relation_above_impl_relation_, tystruct_wide_int_high_int_, hcl, hSl]
          refine CallR.pc (max_pc hy2 (by omega)) rfl (.inl rfl) ?_
          simp (disch := omega) only [↓RU, RV, RH, ↓reduceIte, Nat.reduceEqDiff, reduceCtorEq, if_pos, List.append_nil, ↓RS, RG, Nat.reduceAdd, Nat.reduceMul, Nat.reduceLeDiff, tyLLbool, tyLbool, tyLimpl_shape, tybool, tyimpl_orders, tyimpl_relation, tyimpl_shape, tyint, tystruct_left_impl_relation_above_impl_relation_, tystruct_wide_int_high_int_, hcl, hSl]
          refine hK _ _ ?_
          clear hK K
          refine XBlock.norm ?_
          refine XThen.norm ?_
          refine W.region_k fun K hK => ?_
          simp (disch := omega) only [↓RU, RV, RH, ↓reduceIte, Nat.reduceEqDiff, reduceCtorEq, if_pos, w64, ↓RS, RG, Nat.reduceAdd, Nat.reduceMul, Nat.reduceLeDiff, tyint]
          refine hK _ _ ?_
          clear hK K
          refine XThen.norm ?_
          refine ⟨N - (k + 1), by omega, 0, [2, 3], [eInts ws, eInts ht, .ref 0 (t3 + 2) 0, slC 1 (shL M A i ws ht (k + 1)) (t3 + 2), .int .i64 N, .int .i64 ((k + 1 : Nat) : Int)], ⟨.arr (t3 + 2) 61 2 [eRel M, eRel A] :: tlC (shL M A i ws ht (k + 1)) (t3 + 2), t3 + 3⟩, ?_, ?_, k + 1, t3 + 2, t3 + 2, t3 + 3, rfl, by omega, rfl, rfl⟩
          · rw [slC_ne (shL_ne (by omega)), shL_succ]; simp [-List.mapM_map, Env.put, Env.of, argEnv, Srn_eq, rnObs_cons, rnObs_nil, rnOb_arr, rnOb_map, rn_loc, rn_ref, rn_mp, rn_int, rn_bool, rn_str, rn_ip, rn_sl, rn_nils, rn_nilp, rn_undef, rn_agg, rn_tup, rn_fn, rfq_loc, rfq_int, rfq_bool, rfq_str, rfq_sl, frOf, List.range_succ, List.mapM_append, List.mapM_cons, hSl] <;> decide
          · rw [tlC_ne (shL_ne (by omega)), shL_succ, scs_snoc]; simp [-List.mapM_map, Env.put, Env.of, argEnv, Srn_eq, rnObs_cons, rnObs_nil, rnOb_arr, rnOb_map, rn_loc, rn_ref, rn_mp, rn_int, rn_bool, rn_str, rn_ip, rn_sl, rn_nils, rn_nilp, rn_undef, rn_agg, rn_tup, rn_fn, rfq_loc, rfq_int, rfq_bool, rfq_str, rfq_sl, frOf, List.range_succ, List.mapM_append, List.mapM_cons, rn_scs, shI, hct]
    · try simp only [RL] at h1
      obtain rfl : k = N := by omega
      refine W.exit ?_
      refine XThen.exit ?_
      refine XThen.exit ?_
      refine XBlock.hit ?_
      refine XThen.norm ?_
      refine W.seq_region fun K hK => ?_
      simp (disch := omega) only [↓RU, RV, RH, ↓reduceIte, Nat.reduceEqDiff, reduceCtorEq, if_pos, ↓RS, RG, Nat.reduceAdd, Nat.reduceMul, Nat.reduceLeDiff]
      refine hK _ _ ?_
      clear hK K
      refine W.ret ?_
      refine BodyQ.ret rfl ?_
      rw [hnr, hN]
      refine reify_tup2 (k := 9) (a := slC 1 _ _) ?_ rfl
      rw [slC_ne (shL_ne (by omega)), tlC_ne (shL_ne (by omega))]
      exact reify_loc (k := 8) rfl (scs_len _) (reify_scal (scal_scs _))

end Fw
end Go.Proofs.YtcglmbijpjhbmaaGreat

/-! Least shapes by the program and the laws of shapes, gone through. -/
namespace Go.Proofs.YtcglmbijpjhbmaaGreat
namespace Fw
open Go

def ofX (φ : Int × Int → Int) (X : List (Int × Int)) (s : Nat) : Int := φ (X[s]?.getD (0, 0))
theorem ofX_is {φ : Int × Int → Int} {X : List (Int × Int)} {s : Nat} {x : Int × Int} (h : X[s]? = some x) : ofX φ X s = φ x := by unfold ofX; rw [h]; rfl
theorem bst_in {f : Nat → Int} {i n : Nat} (h : i < n) : bst f i < n := by
  cases i with
  | zero => exact h
  | succ i => have := bst_lt (f := f) (k := i + 1) (by omega); omega

theorem leastOf_no {p : List Txt} {ws ht : List Int} {f : FuncId} (htr : PC Tryz.prog 111 [eStrs p, eInts ws, eInts ht] (.tup [.sl [] 0, .bool false]) true) : PC Tryz.prog 76 [eStrs p, eInts ws, eInts ht, .fn f []] (.tup [.int .i64 0, .int .i64 0, .bool false]) true := by
  refine PC.of ⟨Tryz.func76, by kernel_rfl, rfl, by kernel_rfl⟩ tabOk mixed (by show 4 ≤ Tryz.f76.ntmps; decide) ?_
  refine W.seq_region fun K hK => ?_
  simp (disch := omega) only [↓RU, RV, RH, ↓reduceIte, Nat.reduceEqDiff, reduceCtorEq, if_pos, ↓RS, RG, Nat.reduceAdd, Nat.reduceMul, Nat.reduceLeDiff]
  refine hK _ _ ?_
  clear hK K
  refine W.seq_region fun K hK => ?_
  simp (disch := omega) only [↓RU, RV, RH, ↓reduceIte, Nat.reduceEqDiff, reduceCtorEq, if_pos, List.append_nil, ↓RS, RG, Nat.reduceAdd, Nat.reduceMul, Nat.reduceLeDiff]
  refine CallR.pc (htr) rfl (.inl rfl) ?_
  simp (disch := omega) only [↓RU, RV, RH, ↓reduceIte, Nat.reduceEqDiff, reduceCtorEq, if_pos, List.append_nil, ↓RS, RG, Nat.reduceAdd, Nat.reduceMul, Nat.reduceLeDiff]
  refine hK _ _ ?_
  clear hK K
  refine W.seq ?_
  refine W.seq_region fun K hK => ?_
  simp (disch := omega) only [↓RU, RV, RH, ↓reduceIte, Nat.reduceEqDiff, reduceCtorEq, if_pos, ↓RS, RG, Nat.reduceAdd, Nat.reduceMul, Nat.reduceLeDiff]
  refine hK _ _ ?_
  clear hK K
  refine W.cond rfl (fun h => ?_) (fun h => ?_)
  · try simp only [RL] at h
    refine W.seq_region fun K hK => ?_
    simp (disch := omega) only [↓RU, RV, RH, ↓reduceIte, Nat.reduceEqDiff, reduceCtorEq, if_pos, ↓RS, RG, Nat.reduceAdd, Nat.reduceMul, Nat.reduceLeDiff]
    refine hK _ _ ?_
    clear hK K
    refine W.ret ?_
    refine XThen.ret ?_
    refine BodyQ.ret rfl ?_
    rfl
  · try simp only [RL] at h
    exact absurd h (by simp)

theorem leastOf_yes {p : List Txt} {ws ht : List Int} {f : FuncId} {φ : Int × Int → Int} {X : List (Int × Int)} (htr : PC Tryz.prog 111 [eStrs p, eInts ws, eInts ht] (.tup [eShl X, .bool true]) true) (hX1 : 1 ≤ X.length) (hXl : X.length ≤ 256) (hφ : ∀ x ∈ X, PC Tryz.prog f [.agg (eShp x)] (.int .i64 (φ x)) true) : PC Tryz.prog 76 [eStrs p, eInts ws, eInts ht, .fn f []] (.tup [.int .i64 (bst (ofX φ X) X.length : Nat), .int .i64 (ofX φ X (bst (ofX φ X) X.length)), .bool true]) true := by
  have hsl := scs_len X
  refine PC.of ⟨Tryz.func76, by kernel_rfl, rfl, by kernel_rfl⟩ tabOk mixed (by show 4 ≤ Tryz.f76.ntmps; decide) ?_
  refine W.seq_region fun K hK => ?_
  simp (disch := omega) only [↓RU, RV, RH, ↓reduceIte, Nat.reduceEqDiff, reduceCtorEq, if_pos, ↓RS, RG, Nat.reduceAdd, Nat.reduceMul, Nat.reduceLeDiff]
  refine hK _ _ ?_
  clear hK K
  refine W.seq_region fun K hK => ?_
  simp (disch := omega) only [↓RU, RV, RH, ↓reduceIte, Nat.reduceEqDiff, reduceCtorEq, if_pos, List.append_nil, ↓RS, RG, Nat.reduceAdd, Nat.reduceMul, Nat.reduceLeDiff]
  refine CallR.pc (htr) rfl (.inl rfl) ?_
  simp (disch := omega) only [↓RU, RV, RH, ↓reduceIte, Nat.reduceEqDiff, reduceCtorEq, if_pos, List.append_nil, ↓RS, RG, Nat.reduceAdd, Nat.reduceMul, Nat.reduceLeDiff]
  refine hK _ _ ?_
  clear hK K
  refine W.seq ?_
  refine W.seq_region fun K hK => ?_
  simp (disch := omega) only [↓RU, RV, RH, ↓reduceIte, Nat.reduceEqDiff, reduceCtorEq, if_pos, ↓RS, RG, Nat.reduceAdd, Nat.reduceMul, Nat.reduceLeDiff]
  refine hK _ _ ?_
  clear hK K
  refine W.cond rfl (fun h => ?_) (fun h => ?_)
  · try simp only [RL] at h
    exact absurd h (by simp)
  · try simp only [RL] at h
    refine W.skip ?_
    refine XThen.norm ?_
    refine W.seq_region fun K hK => ?_
    simp (disch := omega) only [↓RU, RV, RH, ↓reduceIte, Nat.reduceEqDiff, reduceCtorEq, if_pos, ↓RS, RG, Nat.reduceAdd, Nat.reduceMul, Nat.reduceLeDiff]
    refine hK _ _ ?_
    clear hK K
    refine W.seq ?_
    refine W.seq_region fun K hK => ?_
    simp (disch := omega) only [↓RU, RV, RH, ↓reduceIte, Nat.reduceEqDiff, reduceCtorEq, if_pos, ↓RS, RG, Nat.reduceAdd, Nat.reduceMul, Nat.reduceLeDiff, tyLimpl_shape, tyimpl_shape, tyint, tystruct_wide_int_high_int_]
    refine hK _ _ ?_
    clear hK K
    refine W.block ?_
    refine W.loop [3, 11, 13, 25, 26, 27] (fun n vs S => ∃ i tk : Nat, n = X.length - i ∧ i ≤ X.length ∧ vs = [.fn f [], eShl X, .int .i64 (bst (ofX φ X) i : Nat), eShl X, .int .i64 X.length, .int .i64 i] ∧ S = ⟨[], tk⟩) X.length ?_ ?_
    · refine ⟨0, 0, 0, rfl, by omega, ?_, rfl⟩
      simp [Env.put, Env.of, argEnv, bst]
    rintro n vs S - ⟨i, tk, rfl, h_i, rfl, rfl⟩
    refine W.seq_region fun K hK => ?_
    simp (disch := omega) only [↓RU, RV, RH, ↓reduceIte, Nat.reduceEqDiff, reduceCtorEq, if_pos, w64, ↓RS, RG, Nat.reduceAdd, Nat.reduceMul, Nat.reduceLeDiff, tyint]
    refine hK _ _ ?_
    clear hK K
    refine W.seq ?_
    refine W.cond rfl (fun h1 => ?_) (fun h1 => ?_)
    · try simp only [RL] at h1
      obtain ⟨x, hx, hxm⟩ := get_of (show i < X.length by omega)
      have hb := bst_in (f := (ofX φ X)) (show i < X.length by omega)
      obtain ⟨y, hy, hym⟩ := get_of hb
      have fx : ofX φ X i = φ x := ofX_is hx
      have fy : ofX φ X (bst (ofX φ X) i) = φ y := ofX_is hy
      have px : ((scs X).drop (i * 2)).take 2 = [.int .i64 x.1, .int .i64 x.2] := scs_at hx
      have py : ((scs X).drop (bst (ofX φ X) i * 2)).take 2 = [.int .i64 y.1, .int .i64 y.2] := scs_at hy
      refine W.skip ?_
      refine XThen.norm ?_
      refine W.seq ?_
      refine W.block ?_
      refine W.seq_region fun K hK => ?_
      simp (disch := omega) only [↓RU, RV, RH, ↓reduceIte, Nat.reduceEqDiff, reduceCtorEq, if_pos, ↓RS, RG, Nat.reduceAdd, Nat.reduceMul, Nat.reduceLeDiff, tyLimpl_shape, tyimpl_shape, tyint, tystruct_wide_int_high_int_, px, hsl, scs_len]
      refine hK _ _ ?_
      clear hK K
      refine W.seq_draw (by kernel_rfl) fun K hK => ?_
      simp (disch := omega) only [↓RU, RV, RH, ↓reduceIte, Nat.reduceEqDiff, reduceCtorEq, if_pos, List.append_nil, w64, ↓RS, RG, Nat.reduceAdd, Nat.reduceMul, Nat.reduceLeDiff, tyLimpl_shape, tyimpl_shape, tyint, tystruct_wide_int_high_int_, px, py, hsl, scs_len]
      refine CallR.pc (hφ x hxm) rfl (.inl rfl) ?_
      simp (disch := omega) only [↓RU, RV, RH, ↓reduceIte, Nat.reduceEqDiff, reduceCtorEq, if_pos, List.append_nil, w64, ↓RS, RG, Nat.reduceAdd, Nat.reduceMul, Nat.reduceLeDiff, tyLimpl_shape, tyimpl_shape, tyint, tystruct_wide_int_high_int_, px, py, hsl, scs_len]
      refine CallR.pc (hφ y hym) rfl (.inl rfl) ?_
      simp (disch := omega) only [↓RU, RV, RH, ↓reduceIte, Nat.reduceEqDiff, reduceCtorEq, if_pos, List.append_nil, w64, ↓RS, RG, Nat.reduceAdd, Nat.reduceMul, Nat.reduceLeDiff, tyLimpl_shape, tyimpl_shape, tyint, tystruct_wide_int_high_int_, px, py, hsl, scs_len]
      refine hK _ _ ?_
      clear hK K
      refine W.cond rfl (fun h2 => ?_) (fun h2 => ?_)
      · try simp only [RL] at h2
        refine W.region_k fun K hK => ?_
        simp (disch := omega) only [↓RU, RV, RH, ↓reduceIte, Nat.reduceEqDiff, reduceCtorEq, if_pos, ↓RS, RG, Nat.reduceAdd, Nat.reduceMul, Nat.reduceLeDiff]
        refine hK _ _ ?_
        clear hK K
        refine XBlock.norm ?_
        refine XThen.norm ?_
        refine W.region_k fun K hK => ?_
        simp (disch := omega) only [↓RU, RV, RH, ↓reduceIte, Nat.reduceEqDiff, reduceCtorEq, if_pos, w64, ↓RS, RG, Nat.reduceAdd, Nat.reduceMul, Nat.reduceLeDiff, tyint]
        refine hK _ _ ?_
        clear hK K
        refine XThen.norm ?_
        refine ⟨X.length - (i + 1), by omega, 0, i + 1, _, rfl, by omega, ?_, rfl⟩
        simp [Env.put, Env.of, bst, fx, fy, h2]
      · try simp only [RL] at h2
        refine W.skip ?_
        refine XBlock.norm ?_
        refine XThen.norm ?_
        refine W.region_k fun K hK => ?_
        simp (disch := omega) only [↓RU, RV, RH, ↓reduceIte, Nat.reduceEqDiff, reduceCtorEq, if_pos, w64, ↓RS, RG, Nat.reduceAdd, Nat.reduceMul, Nat.reduceLeDiff, tyint]
        refine hK _ _ ?_
        clear hK K
        refine XThen.norm ?_
        refine ⟨X.length - (i + 1), by omega, 0, i + 1, _, rfl, by omega, ?_, rfl⟩
        simp [Env.put, Env.of, bst, fx, fy, h2]
    · try simp only [RL] at h1
      obtain rfl : i = X.length := by omega
      have hb := bst_lt (f := (ofX φ X)) hX1
      obtain ⟨y, hy, hym⟩ := get_of hb
      have fy : ofX φ X (bst (ofX φ X) X.length) = φ y := ofX_is hy
      have py : ((scs X).drop (bst (ofX φ X) X.length * 2)).take 2 = [.int .i64 y.1, .int .i64 y.2] := scs_at hy
      refine W.exit ?_
      refine XThen.exit ?_
      refine XThen.exit ?_
      refine XBlock.hit ?_
      refine XThen.norm ?_
      refine W.seq_region fun K hK => ?_
      simp (disch := omega) only [↓RU, RV, RH, ↓reduceIte, Nat.reduceEqDiff, reduceCtorEq, if_pos, List.append_nil, ↓RS, RG, Nat.reduceAdd, Nat.reduceMul, Nat.reduceLeDiff, tyLimpl_shape, tyimpl_shape, tyint, tystruct_wide_int_high_int_, py, hsl, scs_len]
      refine CallR.pc (hφ y hym) rfl (.inl rfl) ?_
      simp (disch := omega) only [↓RU, RV, RH, ↓reduceIte, Nat.reduceEqDiff, reduceCtorEq, if_pos, List.append_nil, ↓RS, RG, Nat.reduceAdd, Nat.reduceMul, Nat.reduceLeDiff, tyLimpl_shape, tyimpl_shape, tyint, tystruct_wide_int_high_int_, py, hsl, scs_len]
      refine hK _ _ ?_
      clear hK K
      refine W.ret ?_
      refine BodyQ.ret rfl ?_
      rw [fy]
      rfl

theorem shapeTry_no {p : List Txt} {ws ht : List Int} (htr : PC Tryz.prog 111 [eStrs p, eInts ws, eInts ht] (.tup [.sl [] 0, .bool false]) true) : PC Tryz.prog 35 [eStrs p, eInts ws, eInts ht] (.tup [.int .i64 0, .bool false]) true := by
  refine PC.of ⟨Tryz.func35, by kernel_rfl, rfl, by kernel_rfl⟩ tabOk mixed (by show 3 ≤ Tryz.f35.ntmps; decide) ?_
  refine W.seq_region fun K hK => ?_
  simp (disch := omega) only [↓RU, RV, RH, ↓reduceIte, Nat.reduceEqDiff, reduceCtorEq, if_pos, ↓RS, RG, Nat.reduceAdd, Nat.reduceMul, Nat.reduceLeDiff]
  refine hK _ _ ?_
  clear hK K
  refine W.seq_region fun K hK => ?_
  simp (disch := omega) only [↓RU, RV, RH, ↓reduceIte, Nat.reduceEqDiff, reduceCtorEq, if_pos, List.append_nil, ↓RS, RG, Nat.reduceAdd, Nat.reduceMul, Nat.reduceLeDiff]
  refine CallR.pc (leastOf_no (f := 77) htr) rfl (.inl rfl) ?_
  simp (disch := omega) only [↓RU, RV, RH, ↓reduceIte, Nat.reduceEqDiff, reduceCtorEq, if_pos, List.append_nil, ↓RS, RG, Nat.reduceAdd, Nat.reduceMul, Nat.reduceLeDiff]
  refine hK _ _ ?_
  clear hK K
  refine W.seq_region fun K hK => ?_
  simp (disch := omega) only [↓RU, RV, RH, ↓reduceIte, Nat.reduceEqDiff, reduceCtorEq, if_pos, ↓RS, RG, Nat.reduceAdd, Nat.reduceMul, Nat.reduceLeDiff]
  refine hK _ _ ?_
  clear hK K
  refine W.ret ?_
  refine BodyQ.ret rfl ?_
  rfl

theorem shapeTry_yes {p : List Txt} {ws ht : List Int} {X : List (Int × Int)} (htr : PC Tryz.prog 111 [eStrs p, eInts ws, eInts ht] (.tup [eShl X, .bool true]) true) (hX1 : 1 ≤ X.length) (hXl : X.length ≤ 256) (hb : ∀ x ∈ X, (0 ≤ x.1 ∧ x.1 ≤ 10000) ∧ (0 ≤ x.2 ∧ x.2 ≤ 10000)) : PC Tryz.prog 35 [eStrs p, eInts ws, eInts ht] (.tup [.int .i64 ((ofX (fun x => x.1 * x.2) X) (bst (ofX (fun x => x.1 * x.2) X) X.length)), .bool true]) true := by
  refine PC.of ⟨Tryz.func35, by kernel_rfl, rfl, by kernel_rfl⟩ tabOk mixed (by show 3 ≤ Tryz.f35.ntmps; decide) ?_
  refine W.seq_region fun K hK => ?_
  simp (disch := omega) only [↓RU, RV, RH, ↓reduceIte, Nat.reduceEqDiff, reduceCtorEq, if_pos, ↓RS, RG, Nat.reduceAdd, Nat.reduceMul, Nat.reduceLeDiff]
  refine hK _ _ ?_
  clear hK K
  refine W.seq_region fun K hK => ?_
  simp (disch := omega) only [↓RU, RV, RH, ↓reduceIte, Nat.reduceEqDiff, reduceCtorEq, if_pos, List.append_nil, ↓RS, RG, Nat.reduceAdd, Nat.reduceMul, Nat.reduceLeDiff]
  refine CallR.pc (leastOf_yes (f := 77) (φ := (fun x => x.1 * x.2)) htr hX1 hXl (fun x hx => product_pc (hb x hx).1 (hb x hx).2)) rfl (.inl rfl) ?_
  simp (disch := omega) only [↓RU, RV, RH, ↓reduceIte, Nat.reduceEqDiff, reduceCtorEq, if_pos, List.append_nil, ↓RS, RG, Nat.reduceAdd, Nat.reduceMul, Nat.reduceLeDiff]
  refine hK _ _ ?_
  clear hK K
  refine W.seq_region fun K hK => ?_
  simp (disch := omega) only [↓RU, RV, RH, ↓reduceIte, Nat.reduceEqDiff, reduceCtorEq, if_pos, ↓RS, RG, Nat.reduceAdd, Nat.reduceMul, Nat.reduceLeDiff]
  refine hK _ _ ?_
  clear hK K
  refine W.ret ?_
  refine BodyQ.ret rfl ?_
  rfl

theorem shapeTurned_no {p : List Txt} {ws ht : List Int} (htr : PC Tryz.prog 111 [eStrs p, eInts ws, eInts ht] (.tup [.sl [] 0, .bool false]) true) : PC Tryz.prog 33 [eStrs p, eInts ws, eInts ht] (.tup [.int .i64 0, .bool false]) true := by
  refine PC.of ⟨Tryz.func33, by kernel_rfl, rfl, by kernel_rfl⟩ tabOk mixed (by show 3 ≤ Tryz.f33.ntmps; decide) ?_
  refine W.seq_region fun K hK => ?_
  simp (disch := omega) only [↓RU, RV, RH, ↓reduceIte, Nat.reduceEqDiff, reduceCtorEq, if_pos, ↓RS, RG, Nat.reduceAdd, Nat.reduceMul, Nat.reduceLeDiff]
  refine hK _ _ ?_
  clear hK K
  refine W.seq_region fun K hK => ?_
  simp (disch := omega) only [↓RU, RV, RH, ↓reduceIte, Nat.reduceEqDiff, reduceCtorEq, if_pos, List.append_nil, ↓RS, RG, Nat.reduceAdd, Nat.reduceMul, Nat.reduceLeDiff]
  refine CallR.pc (leastOf_no (f := 77) htr) rfl (.inl rfl) ?_
  simp (disch := omega) only [↓RU, RV, RH, ↓reduceIte, Nat.reduceEqDiff, reduceCtorEq, if_pos, List.append_nil, ↓RS, RG, Nat.reduceAdd, Nat.reduceMul, Nat.reduceLeDiff]
  refine hK _ _ ?_
  clear hK K
  refine W.seq_region fun K hK => ?_
  simp (disch := omega) only [↓RU, RV, RH, ↓reduceIte, Nat.reduceEqDiff, reduceCtorEq, if_pos, ↓RS, RG, Nat.reduceAdd, Nat.reduceMul, Nat.reduceLeDiff]
  refine hK _ _ ?_
  clear hK K
  refine W.ret ?_
  refine BodyQ.ret rfl ?_
  rfl

theorem shapeTurned_yes {p : List Txt} {ws ht : List Int} {X : List (Int × Int)} (htr : PC Tryz.prog 111 [eStrs p, eInts ws, eInts ht] (.tup [eShl X, .bool true]) true) (hX1 : 1 ≤ X.length) (hXl : X.length ≤ 256) (hb : ∀ x ∈ X, (0 ≤ x.1 ∧ x.1 ≤ 10000) ∧ (0 ≤ x.2 ∧ x.2 ≤ 10000)) : PC Tryz.prog 33 [eStrs p, eInts ws, eInts ht] (.tup [.int .i64 (bst (ofX (fun x => x.1 * x.2) X) X.length : Nat), .bool true]) true := by
  refine PC.of ⟨Tryz.func33, by kernel_rfl, rfl, by kernel_rfl⟩ tabOk mixed (by show 3 ≤ Tryz.f33.ntmps; decide) ?_
  refine W.seq_region fun K hK => ?_
  simp (disch := omega) only [↓RU, RV, RH, ↓reduceIte, Nat.reduceEqDiff, reduceCtorEq, if_pos, ↓RS, RG, Nat.reduceAdd, Nat.reduceMul, Nat.reduceLeDiff]
  refine hK _ _ ?_
  clear hK K
  refine W.seq_region fun K hK => ?_
  simp (disch := omega) only [↓RU, RV, RH, ↓reduceIte, Nat.reduceEqDiff, reduceCtorEq, if_pos, List.append_nil, ↓RS, RG, Nat.reduceAdd, Nat.reduceMul, Nat.reduceLeDiff]
  refine CallR.pc (leastOf_yes (f := 77) (φ := (fun x => x.1 * x.2)) htr hX1 hXl (fun x hx => product_pc (hb x hx).1 (hb x hx).2)) rfl (.inl rfl) ?_
  simp (disch := omega) only [↓RU, RV, RH, ↓reduceIte, Nat.reduceEqDiff, reduceCtorEq, if_pos, List.append_nil, ↓RS, RG, Nat.reduceAdd, Nat.reduceMul, Nat.reduceLeDiff]
  refine hK _ _ ?_
  clear hK K
  refine W.seq_region fun K hK => ?_
  simp (disch := omega) only [↓RU, RV, RH, ↓reduceIte, Nat.reduceEqDiff, reduceCtorEq, if_pos, ↓RS, RG, Nat.reduceAdd, Nat.reduceMul, Nat.reduceLeDiff]
  refine hK _ _ ?_
  clear hK K
  refine W.ret ?_
  refine BodyQ.ret rfl ?_
  rfl

end Fw
end Go.Proofs.YtcglmbijpjhbmaaGreat

/-! The least shapes in plain words. -/
namespace Go.Proofs.YtcglmbijpjhbmaaGreat
namespace Fw
open Go

theorem needs_is {p : List Txt} {ws : List Int} : needsB p ws = needV p [ws] := (needV_needs).symm
theorem given_eq {p : List Txt} {ws ht : List Int} : given8 p ws ht = givenI p ws ht := by
  unfold given8
  rw [needs_is, needs_is]
  unfold givenI
  cases h1 : needV p [ws] with
  | false =>
    have : needV p [ws, ht] = false := by
      unfold needV at h1 ⊢
      simp only [List.all_cons, List.all_nil, Bool.and_true] at h1 ⊢
      cases ha : plainI p <;> cases hb : needW p ws <;> simp_all
    rw [this]; simp
  | true =>
    cases h2 : needV p [ht] with
    | false =>
      have : needV p [ws, ht] = false := by
        unfold needV at h2 ⊢
        simp only [List.all_cons, List.all_nil, Bool.and_true] at h2 ⊢
        cases ha : plainI p <;> cases hb : needW p ht <;> simp_all
      rw [this]; simp
    | true =>
      have h3 := (needV_one h1).2.1
      have : needV p [ws, ht] = true := by
        unfold needV at h1 h2 ⊢
        simp only [List.all_cons, List.all_nil, Bool.and_true, Bool.and_eq_true] at h1 h2 ⊢
        exact ⟨h1.1, h1.2, h2.2⟩
      rw [this, h3]; simp
section
variable {p : List Txt} {ws ht : List Int}
def X8 (p : List Txt) (ws ht : List Int) : List (Int × Int) := shL (leftG (gP p) p.length (w0 (readG p)) (rP p).length) (aboveG (gP p) p.length (w0 (readG p)) (rP p).length) (rP p).length ws ht (2 ^ (rP p).length)
theorem X8_len : (X8 p ws ht).length = 2 ^ (rP p).length := shL_len
theorem X8_at (h : givenI p ws ht = true) {s : Nat} (hs : s < 2 ^ (rP p).length) : (X8 p ws ht)[s]? = some (shS p ws ht s) := by
  obtain ⟨h1, h2, -⟩ := givenI_ok h
  unfold X8
  rw [shL_at hs, sh_eq h1 h2]
theorem X8_rooms (h : givenI p ws ht = true) : (X8 p ws ht).length = 2 ^ ws.length ∧ 1 ≤ (X8 p ws ht).length ∧ (X8 p ws ht).length ≤ 256 := by
  obtain ⟨h1, -, h3⟩ := givenI_ok h
  have h4 := (needV_one h1).2.1
  rw [X8_len]
  have := pow8 h3
  exact ⟨by rw [h4], this.1, this.2⟩
theorem X8_bnd (h : givenI p ws ht = true) : ∀ x ∈ X8 p ws ht, (0 ≤ x.1 ∧ x.1 ≤ 10000) ∧ (0 ≤ x.2 ∧ x.2 ≤ 10000) := by
  intro x hx
  obtain ⟨s, hs, rfl⟩ := List.getElem_of_mem hx
  have hs2 : s < 2 ^ (rP p).length := by rw [← X8_len (p := p) (ws := ws) (ht := ht)]; exact hs
  have e := X8_at h hs2
  rw [List.getElem?_eq_getElem hs] at e
  rw [Option.some.inj e]
  obtain ⟨h1, h2, -⟩ := givenI_ok h
  rw [← needs_is] at h1 h2
  obtain ⟨a, b, c, d⟩ := shS_bnd h1 h2 s
  exact ⟨⟨a, by omega⟩, c, by omega⟩
theorem X8_of (h : givenI p ws ht = true) (φ : Int × Int → Int) {s : Nat} (hs : s < (X8 p ws ht).length) : ofX φ (X8 p ws ht) s = φ (shS p ws ht s) := ofX_is (X8_at h (by rw [← X8_len (p := p) (ws := ws) (ht := ht)]; exact hs))
theorem X8_best (h : givenI p ws ht = true) : bst (ofX (fun x => x.1 * x.2) (X8 p ws ht)) (X8 p ws ht).length = bestS p ws ht := by
  unfold bestS
  rw [← (X8_rooms h).1]
  exact bst_congr fun s hs => X8_of h _ hs
theorem X8_area (h : givenI p ws ht = true) : ofX (fun x => x.1 * x.2) (X8 p ws ht) (bst (ofX (fun x => x.1 * x.2) (X8 p ws ht)) (X8 p ws ht).length) = areaF p ws ht (bestS p ws ht) := by
  have hb := bst_lt (f := ofX (fun x => x.1 * x.2) (X8 p ws ht)) (X8_rooms h).2.1
  rw [X8_of h _ hb, X8_best h]; rfl
end
end Fw
end Go.Proofs.YtcglmbijpjhbmaaGreat

/-! The law of turned rooms, gone through. -/
namespace Go.Proofs.YtcglmbijpjhbmaaGreat
namespace Fw
open Go

theorem shapeTurned_pc {p : List Txt} (hs : Sm p) {ws ht : List Int} (hw : ws.length ≤ 1048576) (hh : ht.length ≤ 1048576) : PC Tryz.prog 33 [eStrs p, eInts ws, eInts ht] (.tup [.int .i64 (if givenI p ws ht then ((bestS p ws ht : Nat) : Int) else 0), .bool (givenI p ws ht)]) true := by
  cases hv : givenI p ws ht with
  | false => exact shapeTurned_no (tried_no hs hw hh hv)
  | true =>
    have h := shapeTurned_yes (X := X8 p ws ht) (tried_yes hs hw hh hv) (X8_rooms hv).2.1 (X8_rooms hv).2.2 (X8_bnd hv)
    rwa [X8_best hv] at h
theorem shapeTry_pc {p : List Txt} (hs : Sm p) {ws ht : List Int} (hw : ws.length ≤ 1048576) (hh : ht.length ≤ 1048576) : PC Tryz.prog 35 [eStrs p, eInts ws, eInts ht] (.tup [.int .i64 (if givenI p ws ht then areaF p ws ht (bestS p ws ht) else 0), .bool (givenI p ws ht)]) true := by
  cases hv : givenI p ws ht with
  | false => exact shapeTry_no (tried_no hs hw hh hv)
  | true =>
    have h := shapeTry_yes (X := X8 p ws ht) (tried_yes hs hw hh hv) (X8_rooms hv).2.1 (X8_rooms hv).2.2 (X8_bnd hv)
    rwa [X8_area hv] at h
theorem needV_of {p : List Txt} {ws vs : List Int} (h : needV p [ws] = true) (hl : vs.length = ws.length) (hv : NeedOk vs) : needV p [vs] = true := by
  obtain ⟨h1, h2, h3⟩ := needV_one h
  unfold needV
  rw [h1]
  simp only [List.all_cons, List.all_nil, Bool.and_true, Bool.true_and]
  unfold needW
  rw [hl, h2]
  simp only [decide_true, Bool.true_and, List.all_eq_true]
  intro x hx
  have := hv x hx
  unfold needB
  simp [this]
theorem turned_facts {p : List Txt} {ws ht : List Int} (h : givenI p ws ht = true) (set : Nat) : needV p [swp ws ht set] = true ∧ needV p [swp ht ws set] = true ∧ areaI p (swp ws ht set) (swp ht ws set) = areaF p ws ht set ∧ ws.length = ht.length ∧ ws.length ≤ 8 := by
  obtain ⟨h1, h2, h3⟩ := givenI_ok h
  obtain ⟨-, l1, n1⟩ := needV_one h1
  obtain ⟨-, l2, n2⟩ := needV_one h2
  have k1 := needV_of h1 swp_len (swp_ok (set := set) n1 n2 (by omega))
  have k2 := needV_of h2 swp_len (swp_ok (set := set) n2 n1 (by omega))
  refine ⟨k1, k2, ?_, by omega, by omega⟩
  rw [area_same.1]
  unfold areaOf
  rw [needsB_needV, needsB_needV, k1, k2]; rfl
theorem best_lt {p : List Txt} {ws ht : List Int} (h : ws.length ≤ 8) : bestS p ws ht < 256 := by
  have h1 := pow8 h
  have := bst_lt (f := areaF p ws ht) h1.1
  unfold bestS; omega

theorem take_swp {l : List Int} {q : IntKind} {i : Nat} (h : l.length = i) : (l.map (PV.int q)).take i = l.map (.int q) := List.take_of_length_le (by simp [h])

theorem turned_law {code : Txt} (hcode : code.length ≤ 9223372036854775807) : PC Tryz.prog 7 [eBy code] (.bool true) true := by
  refine PC.of ⟨Tryz.func7, by kernel_rfl, rfl, by kernel_rfl⟩ tabOk mixed (by show 1 ≤ Tryz.f7.ntmps; decide) ?_
  refine W.seq_region fun K hK => ?_
  simp (disch := omega) only [↓RU, RV, RH, ↓reduceIte, Nat.reduceEqDiff, reduceCtorEq, if_pos, ↓RS, RG, Nat.reduceAdd, Nat.reduceMul, Nat.reduceLeDiff]
  refine hK _ _ ?_
  clear hK K
  refine W.seq ?_
  refine W.seq_region fun K hK => ?_
  simp (disch := omega) only [↓RU, RV, RH, ↓reduceIte, Nat.reduceEqDiff, reduceCtorEq, if_pos, w64, ↓RS, RG, Nat.reduceAdd, Nat.reduceMul, Nat.reduceLeDiff, tyLuint8, tyint, tyuint8]
  refine hK _ _ ?_
  clear hK K
  refine W.cond rfl (fun h0 => ?_) (fun h0 => ?_)
  · try simp only [RL] at h0
    refine W.seq_region fun K hK => ?_
    simp (disch := omega) only [↓RU, RV, RH, ↓reduceIte, Nat.reduceEqDiff, reduceCtorEq, if_pos, ↓RS, RG, Nat.reduceAdd, Nat.reduceMul, Nat.reduceLeDiff]
    refine hK _ _ ?_
    clear hK K
    refine W.ret ?_
    refine XThen.ret ?_
    refine BodyQ.ret rfl ?_
    rfl
  · try simp only [RL] at h0
    have hcl : code.length ≤ 1048576 := by omega
    refine W.skip ?_
    refine XThen.norm ?_
    refine W.seq_region fun K hK => ?_
    simp (disch := omega) only [↓RU, RV, RH, ↓reduceIte, Nat.reduceEqDiff, reduceCtorEq, if_pos, List.append_nil, ↓RS, RG, Nat.reduceAdd, Nat.reduceMul, Nat.reduceLeDiff]
    refine CallR.ev (drawShapeTurned_ev hcl) ?_
    rintro _ _ ⟨p, ws, ht, t, hs, hwl, htl, rfl, rfl⟩
    simp (disch := omega) only [↓RU, RV, RH, ↓reduceIte, Nat.reduceEqDiff, reduceCtorEq, if_pos, List.append_nil, ↓RS, RG, Nat.reduceAdd, Nat.reduceMul, Nat.reduceLeDiff]
    refine hK _ _ ?_
    clear hK K
    refine W.seq_region fun K hK => ?_
    simp (disch := omega) only [↓RU, RV, RH, ↓reduceIte, Nat.reduceEqDiff, reduceCtorEq, if_pos, List.append_nil, ↓RS, RG, Nat.reduceAdd, Nat.reduceMul, Nat.reduceLeDiff]
    refine CallR.pc (shapeTurned_pc hs (by omega) (by omega)) rfl (.inl rfl) ?_
    simp (disch := omega) only [↓RU, RV, RH, ↓reduceIte, Nat.reduceEqDiff, reduceCtorEq, if_pos, List.append_nil, ↓RS, RG, Nat.reduceAdd, Nat.reduceMul, Nat.reduceLeDiff]
    refine hK _ _ ?_
    clear hK K
    refine W.seq_region fun K hK => ?_
    simp (disch := omega) only [↓RU, RV, RH, ↓reduceIte, Nat.reduceEqDiff, reduceCtorEq, if_pos, List.append_nil, ↓RS, RG, Nat.reduceAdd, Nat.reduceMul, Nat.reduceLeDiff]
    refine CallR.pc (sShapeTurned_pc hs (by omega) (by omega)) rfl (.inl rfl) ?_
    simp (disch := omega) only [↓RU, RV, RH, ↓reduceIte, Nat.reduceEqDiff, reduceCtorEq, if_pos, List.append_nil, ↓RS, RG, Nat.reduceAdd, Nat.reduceMul, Nat.reduceLeDiff]
    refine hK _ _ ?_
    clear hK K
    rw [given_eq]
    refine W.seq ?_
    refine W.seq_region fun K hK => ?_
    cases hv : givenI p ws ht
    · skip
      simp (disch := omega) only [↓RU, RV, RH, ↓reduceIte, Nat.reduceEqDiff, reduceCtorEq, if_pos, w64, ↓RS, RG, Nat.reduceAdd, Nat.reduceMul, Nat.reduceLeDiff, tybool, tyint, pEq_bb, Option.map_some, bne_self_eq_false, beq_self_eq_true, Bool.not_true, Bool.not_false, decide_true, hv]
      refine hK _ _ ?_
      clear hK K
      refine W.cond rfl (fun h1 => ?_) (fun h1 => ?_)
      · try simp only [RL] at h1
        refine W.seq_region fun K hK => ?_
        simp (disch := omega) only [↓RU, RV, RH, ↓reduceIte, Nat.reduceEqDiff, reduceCtorEq, if_pos, w64, ↓RS, RG, Nat.reduceAdd, Nat.reduceMul, Nat.reduceLeDiff, tybool, tyint, pEq_bb, Option.map_some, bne_self_eq_false, beq_self_eq_true, Bool.not_true, Bool.not_false, decide_true]
        refine hK _ _ ?_
        clear hK K
        refine W.ret ?_
        refine XThen.ret ?_
        refine BodyQ.ret rfl ?_
        rfl
      · try simp only [RL] at h1
        exact absurd h1 (by simp)
    · skip
      simp (disch := omega) only [↓RU, RV, RH, ↓reduceIte, Nat.reduceEqDiff, reduceCtorEq, if_pos, w64, ↓RS, RG, Nat.reduceAdd, Nat.reduceMul, Nat.reduceLeDiff, tybool, tyint, pEq_bb, Option.map_some, bne_self_eq_false, beq_self_eq_true, Bool.not_true, Bool.not_false, decide_true, hv]
      refine hK _ _ ?_
      clear hK K
      refine W.cond rfl (fun h1 => ?_) (fun h1 => ?_)
      · try simp only [RL] at h1
        exact absurd h1 (by simp)
      · try simp only [RL] at h1
        obtain ⟨set, hset⟩ : ∃ set, bestS p ws ht = set := ⟨_, rfl⟩
        obtain ⟨f1, f2, f3, f4, f5⟩ := turned_facts hv set
        have hs256 : set < 256 := by rw [← hset]; exact best_lt f5
        simp only [if_true, hset]
        refine W.skip ?_
        refine XThen.norm ?_
        refine W.seq_region fun K hK => ?_
        simp (disch := omega) only [↓RU, RV, RH, ↓reduceIte, Nat.reduceEqDiff, reduceCtorEq, if_pos, ↓RS, RG, Nat.reduceAdd, Nat.reduceMul, Nat.reduceLeDiff, tyLint, tyint]
        refine hK _ _ ?_
        clear hK K
        refine W.seq_region fun K hK => ?_
        simp (disch := omega) only [↓RU, RV, RH, ↓reduceIte, Nat.reduceEqDiff, reduceCtorEq, if_pos, ↓RS, RG, Nat.reduceAdd, Nat.reduceMul, Nat.reduceLeDiff, tyLint, tyint]
        refine hK _ _ ?_
        clear hK K
        refine W.seq ?_
        refine W.seq_region fun K hK => ?_
        simp (disch := omega) only [↓RU, RV, RH, ↓reduceIte, Nat.reduceEqDiff, reduceCtorEq, if_pos, ↓RS, RG, Nat.reduceAdd, Nat.reduceMul, Nat.reduceLeDiff]
        refine hK _ _ ?_
        clear hK K
        refine W.block ?_
        refine W.loop [3, 4, 5, 6, 10, 11, 12] (fun n vs S => ∃ i va vb tk : Nat, n = ws.length - i ∧ i ≤ ws.length ∧ vs = [eStrs p, eInts ws, eInts ht, .int .i64 set, .loc 0 va 0 i, .loc 1 vb 0 i, .int .i64 i] ∧ S = ⟨[.arr va 3 1 (((swp ws ht set).take i).map (.int .i64)), .arr vb 3 1 (((swp ht ws set).take i).map (.int .i64))], tk⟩) ws.length ?_ ?_
        · refine ⟨2, 0, t, t + 1, t + 2, rfl, by omega, ?_, by simp [take_eq]⟩
          simp [Env.put, Env.of, argEnv]
        rintro n vs S - ⟨i, va, vb, tk, rfl, h_i, rfl, rfl⟩
        refine W.seq ?_
        refine W.seq_region fun K hK => ?_
        simp (disch := omega) only [↓RU, RV, RH, ↓reduceIte, Nat.reduceEqDiff, reduceCtorEq, if_pos, w64, ↓RS, RG, Nat.reduceAdd, Nat.reduceMul, Nat.reduceLeDiff, tyLint, tyint]
        refine hK _ _ ?_
        clear hK K
        refine W.cond rfl (fun h2 => ?_) (fun h2 => ?_)
        · try simp only [RL] at h2
          obtain ⟨x, hx, -⟩ := get_of (show i < ws.length by omega)
          obtain ⟨y, hy, -⟩ := get_of (show i < ht.length by omega)
          have hal : ((swp ws ht set).take i).length = i := by rw [List.length_take, swp_len]; omega
          have hbl : ((swp ht ws set).take i).length = i := by rw [List.length_take, swp_len]; omega
          refine W.skip ?_
          refine XThen.norm ?_
          refine W.seq ?_
          refine W.block ?_
          refine W.seq_region fun K hK => ?_
          simp (disch := omega) only [↓RU, RV, RH, ↓reduceIte, Nat.reduceEqDiff, reduceCtorEq, if_pos, w64, ↓RS, RG, Nat.reduceAdd, Nat.reduceMul, Nat.reduceLeDiff, tyint, pShr, w_bit]
          refine hK _ _ ?_
          clear hK K
          refine W.cond rfl (fun h3 => ?_) (fun h3 => ?_)
          · try simp only [RL] at h3
            refine W.seq_region fun K hK => ?_
            simp (disch := omega) only [↓RU, RV, RH, ↓reduceIte, Nat.reduceEqDiff, reduceCtorEq, if_pos, ↓RS, RG, Nat.reduceAdd, Nat.reduceMul, Nat.reduceLeDiff, tyLint, tyint, hx, hy, tk_i hal, tk_i hbl]
            refine hK _ _ ?_
            clear hK K
            refine W.region_k fun K hK => ?_
            simp (disch := omega) only [↓RU, RV, RH, ↓reduceIte, Nat.reduceEqDiff, reduceCtorEq, if_pos, ↓RS, RG, Nat.reduceAdd, Nat.reduceMul, Nat.reduceLeDiff, tyLint, tyint, hx, hy, tk_i hal, tk_i hbl]
            refine hK _ _ ?_
            clear hK K
            refine XBlock.norm ?_
            refine XThen.norm ?_
            refine W.region_k fun K hK => ?_
            simp (disch := omega) only [↓RU, RV, RH, ↓reduceIte, Nat.reduceEqDiff, reduceCtorEq, if_pos, w64, ↓RS, RG, Nat.reduceAdd, Nat.reduceMul, Nat.reduceLeDiff, tyint]
            refine hK _ _ ?_
            clear hK K
            refine XThen.norm ?_
            refine ⟨ws.length - (i + 1), by omega, 2, i + 1, tk + 1, tk + 3, tk + 4, rfl, by omega, ?_, ?_⟩
            · simp [Env.put, Env.of, tk_le]
            · simp [take_eq, tk_le, ← List.map_take, swp_take hx hy, swp_take hy hx, h3, List.map_append, take_swp]
          · try simp only [RL] at h3
            refine W.seq_region fun K hK => ?_
            simp (disch := omega) only [↓RU, RV, RH, ↓reduceIte, Nat.reduceEqDiff, reduceCtorEq, if_pos, ↓RS, RG, Nat.reduceAdd, Nat.reduceMul, Nat.reduceLeDiff, tyLint, tyint, hx, hy, tk_i hal, tk_i hbl]
            refine hK _ _ ?_
            clear hK K
            refine W.region_k fun K hK => ?_
            simp (disch := omega) only [↓RU, RV, RH, ↓reduceIte, Nat.reduceEqDiff, reduceCtorEq, if_pos, ↓RS, RG, Nat.reduceAdd, Nat.reduceMul, Nat.reduceLeDiff, tyLint, tyint, hx, hy, tk_i hal, tk_i hbl]
            refine hK _ _ ?_
            clear hK K
            refine XBlock.norm ?_
            refine XThen.norm ?_
            refine W.region_k fun K hK => ?_
            simp (disch := omega) only [↓RU, RV, RH, ↓reduceIte, Nat.reduceEqDiff, reduceCtorEq, if_pos, w64, ↓RS, RG, Nat.reduceAdd, Nat.reduceMul, Nat.reduceLeDiff, tyint]
            refine hK _ _ ?_
            clear hK K
            refine XThen.norm ?_
            refine ⟨ws.length - (i + 1), by omega, 2, i + 1, tk + 1, tk + 3, tk + 4, rfl, by omega, ?_, ?_⟩
            · simp [Env.put, Env.of, tk_le]
            · simp [take_eq, tk_le, ← List.map_take, swp_take hx hy, swp_take hy hx, h3, List.map_append, take_swp]
        · try simp only [RL] at h2
          obtain rfl : i = ws.length := by omega
          rw [List.take_of_length_le (by rw [swp_len]; omega), List.take_of_length_le (by rw [swp_len]; omega)]
          have hal : (swp ws ht set).length = ws.length := swp_len
          have hbl : (swp ht ws set).length = ws.length := by rw [swp_len, f4]
          refine W.exit ?_
          refine XThen.exit ?_
          refine XThen.exit ?_
          refine XBlock.hit ?_
          refine XThen.norm ?_
          refine W.seq_region fun K hK => ?_
          simp (disch := omega) only [↓RU, RV, RH, ↓reduceIte, Nat.reduceEqDiff, reduceCtorEq, if_pos, List.append_nil, ↓RS, RG, Nat.reduceAdd, Nat.reduceMul, Nat.reduceLeDiff, f1, f2, f3, Bool.and_self]
          refine CallR.pc (sizeArea_pc (ws := (swp ws ht set)) (ht := (swp ht ws set)) hs (by omega) (by omega) all_rm all_up0 all_up1) (mapM_one rfl (mapM_one ((reify_loc (k := 9) rfl (by simp [hal]) (mapM_int _)).trans (by rw [← hal])) (mapM_one ((reify_loc (k := 9) rfl (by simp [hbl]) (mapM_int _)).trans (by rw [← hbl])) rfl))) (.inl rfl) ?_
          simp (disch := omega) only [↓RU, RV, RH, ↓reduceIte, Nat.reduceEqDiff, reduceCtorEq, if_pos, List.append_nil, ↓RS, RG, Nat.reduceAdd, Nat.reduceMul, Nat.reduceLeDiff, f1, f2, f3, Bool.and_self]
          refine hK _ _ ?_
          clear hK K
          refine W.seq_region fun K hK => ?_
          simp (disch := omega) only [↓RU, RV, RH, ↓reduceIte, Nat.reduceEqDiff, reduceCtorEq, if_pos, List.append_nil, ↓RS, RG, Nat.reduceAdd, Nat.reduceMul, Nat.reduceLeDiff, hv, hset, if_true]
          refine CallR.pc (shapeTry_pc hs (by omega) (by omega)) rfl (.inl rfl) ?_
          simp (disch := omega) only [↓RU, RV, RH, ↓reduceIte, Nat.reduceEqDiff, reduceCtorEq, if_pos, List.append_nil, ↓RS, RG, Nat.reduceAdd, Nat.reduceMul, Nat.reduceLeDiff, hv, hset, if_true]
          refine hK _ _ ?_
          clear hK K
          refine W.seq_region fun K hK => ?_
          simp (disch := omega) only [↓RU, RV, RH, ↓reduceIte, Nat.reduceEqDiff, reduceCtorEq, if_pos, w64, ↓RS, RG, Nat.reduceAdd, Nat.reduceMul, Nat.reduceLeDiff, tyint, pEq_bb, Option.map_some, bne_self_eq_false, beq_self_eq_true, Bool.not_true, Bool.not_false, decide_true]
          refine hK _ _ ?_
          clear hK K
          refine W.ret ?_
          refine BodyQ.ret rfl ?_
          rfl

end Fw
end Go.Proofs.YtcglmbijpjhbmaaGreat

/-! Sets of turned rooms lead to least products: the law FnTurned answers true for all codes. No condition. -/
namespace Go.Proofs.YtcglmbijpjhbmaaGreat
open Go Go.ChangeShapes Go.WideShapes Go.ChangeAt Go.RowKit Fw

theorem Tryz.ownRo : ownKnob Tryz.prog.godebug = none := by kernel_rfl
theorem Tryz.laidOutRo : laidOutB Tryz.prog = true := by kernel_rfl

set_option maxRecDepth 100000 in
theorem ro_lifted (os : Os) (started : os.Started) (H : Type) (enc : TypeId × Value → H) :
    ReturnsInHanded {} Tryz.checked os 7 .any (Rows.fnTurnedSpec.pre6 enc Tryz.prog Tryz.f7 Rows.fnTurnedRow.domain false) (Rows.fnTurnedSpec.post enc Tryz.prog Tryz.f7 false true false false) := by
  refine returnsInHanded_of_change (C := Tryz.checked) Tryz.ownRo started (by kernel_rfl) Tryz.func7
    (ChangeSpec.witness6 (enc := enc) (C := Tryz.checked) false ⟨#[], #[.slice none 0 0], []⟩ 8 (by kernel_rfl) (by kernel_rfl) (by kernel_rfl) (by kernel_rfl)) ?_
  intro W base args ds gs before hval0 hW hcnd _
  have hval : ∀ (j : Nat) t v, Tryz.f7.params[j]? = some t → args[j]? = some v → Value.okWide Tryz.prog W .any base t v := hval0
  have hW' := hW
  obtain ⟨p, q, hA0, hV, rfl, hfz, hnd⟩ := hW
  have hA : DataW.TrodAll enc Tryz.prog W 0 (fun _ => true) true Tryz.f7.params.toList args.toList ds p := hA0
  rw [Tryz.params7] at hA hval
  obtain ⟨v0, d0, rfl, rfl, h0⟩ := trodAll_one hA
  obtain ⟨rfl, rfl⟩ := trodVars_none hV
  obtain ⟨l0, i0, b0⟩ := vi_bytes (hval 0 _ v0 rfl rfl) h0
  have hlt : ∀ x ∈ p, x.block < W.heap.size := fun x hx => hW'.lt x (by simp [hx])
  refine ((turned_law b0).run (fun b => b < W.heap.size) W #[v0] (fun _ h => h) rfl ?_).mono ?_
  · rintro (_ | i) p c hp hc
    · cases hp; cases hc; exact i0
    · simp at hp
  · rintro e W' ⟨cv, rfl, hB, hr⟩
    have hcv : cv = .bool true := by cases hr; rfl
    subst hcv
    have t0 := Below.trod Tryz.laidOutRo (by kernel_rfl) (of_decide_eq_true (by kernel_rfl)) h0 hB fun x hx => hlt x (by simp [hx])
    refine ⟨_, rfl, _, _, _, [], p, [], hW', ?_, ?_, ?_, hB.frame _, fun h => by cases h⟩
    · exact trodAll_mk1 (shut_bool Tryz.underlying4 true)
    · rw [Tryz.params7]; exact trodAll_mk1 t0
    · trivial
theorem ro_holds : Rows.FnTurnedSaid :=
  OpenClaim.holds_of_wide 7 Tryz.f7 rfl rfl rfl rfl rfl rfl rfl ⟨rfl, rfl, rfl, rfl, rfl⟩ rfl rfl rfl rfl rfl (by kernel_rfl) Tryz.func7 (by kernel_rfl)
    (of_decide_eq_true (by kernel_rfl)) (by unfold Func.isWrapper; first | (rw [if_pos (by decide +kernel)]; kernel_rfl) | (rw [if_neg (by decide +kernel)]; exact ⟨rfl, rfl⟩))
    (fun os started H enc _ => ro_lifted os started H enc)
end Go.Proofs.YtcglmbijpjhbmaaGreat
