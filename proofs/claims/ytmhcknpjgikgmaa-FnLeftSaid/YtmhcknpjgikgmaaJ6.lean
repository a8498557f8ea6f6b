/- Rooms that are left of others are not above them: the law FnLeft answers true for all codes. No condition. -/
import Derived.Test.YtmhcknpjgikgmaaJ5
import Derived.Test.YtmhcknpjgikgmaaJ4
import Derived.Test.YtmhcknpjgikgmaaRows
import Derived.ProofKit
import Derived.SliceStrings
set_option linter.all false
/-! Drawing plans, gone through, continued. -/
namespace Go.Proofs.Ytmhcknpjgikgmaa
namespace Fw
open Go

theorem sm_set {p : List Txt} (h : Sm p) {i : Nat} {r : Txt} (hr : r.length ≤ 1048576) : Sm (p.set i r) := by
  refine ⟨by rw [List.length_set]; exact h.1, fun x hx => ?_⟩
  rcases List.mem_or_eq_of_mem_set hx with k | rfl
  · exact h.2 x k
  · exact hr
theorem set_hd {p : List Txt} {x : Txt} (h : 0 < p.length) : PV.str x :: List.drop 1 (p.map PV.str) = (p.set 0 x).map .str := by cases p with | nil => simp at h | cons a p => simp
theorem one_add {k : Nat} : (1 : Int) + (k : Int) = ((1 + k : Nat) : Int) := by omega

theorem l91Some_ev {code : Txt} {q vr t : Nat} (hc : code.length ≤ 1048576) (hq : q ≤ 700000) {rows cols : Nat} (h1 : 1 ≤ rows) (h2 : rows ≤ 6) (w1 : 1 ≤ cols) (w2 : cols ≤ 6) : Ev Try.prog 96 [.ref 0 vr 0, .int .i64 rows, .int .i64 cols] ⟨[.arr vr 111 2 [eBy code, .int .i64 (q : Int)]], t⟩ fun v S => ∃ (p2 : List Txt) (q2 t2 : Nat), v = eStrs p2 ∧ Sm p2 ∧ p2.length ≤ 6 ∧ q2 ≤ q + 200 ∧ S = ⟨[.arr vr 111 2 [eBy code, .int .i64 (q2 : Int)]], t2⟩ := by
  refine Ev.of ⟨Try.func96, by kernel_rfl, rfl, by kernel_rfl⟩ tabOk mixed (by show 3 ≤ Try.f96.ntmps; decide) ?_
  refine W.seq_region fun K hK => ?_
  simp (disch := omega) only [↓RU, RV, RH, ↓reduceIte, Nat.reduceEqDiff, reduceCtorEq, if_pos, ↓RS, RG, Nat.reduceAdd, Nat.reduceMul, Nat.reduceLeDiff]
  refine hK _ _ ?_
  clear hK K
  refine W.seq_region fun K hK => ?_
  simp (disch := omega) only [↓RU, RV, RH, ↓reduceIte, Nat.reduceEqDiff, reduceCtorEq, if_pos, List.append_nil, w64, ↓RS, RG, Nat.reduceAdd, Nat.reduceMul, Nat.reduceLeDiff, tyint]
  refine CallR.ev (pick_ev hc (by omega) (rows : Int) (by omega) (by omega)) ?_
  rintro _ _ ⟨k1, rfl, -, hk1, rfl⟩
  have hk1b := hk1 (by omega)
  simp (disch := omega) only [↓RU, RV, RH, ↓reduceIte, Nat.reduceEqDiff, reduceCtorEq, if_pos, List.append_nil, w64, ↓RS, RG, Nat.reduceAdd, Nat.reduceMul, Nat.reduceLeDiff, tyint, one_add]
  refine hK _ _ ?_
  clear hK K
  refine W.seq_region fun K hK => ?_
  simp (disch := omega) only [↓RU, RV, RH, ↓reduceIte, Nat.reduceEqDiff, reduceCtorEq, if_pos, List.append_nil, w64, ↓RS, RG, Nat.reduceAdd, Nat.reduceMul, Nat.reduceLeDiff, tyint]
  refine CallR.ev (pick_ev hc (by omega) (cols : Int) (by omega) (by omega)) ?_
  rintro _ _ ⟨k2, rfl, -, hk2, rfl⟩
  have hk2b := hk2 (by omega)
  simp (disch := omega) only [↓RU, RV, RH, ↓reduceIte, Nat.reduceEqDiff, reduceCtorEq, if_pos, List.append_nil, w64, ↓RS, RG, Nat.reduceAdd, Nat.reduceMul, Nat.reduceLeDiff, tyint, one_add]
  refine CallR.ev (l91Plan_ev (q := q + 1 + 1) hc (by omega) (nh := 1 + k1) (nw := 1 + k2) (by omega) (by omega) (by omega) (by omega)) ?_
  rintro _ _ ⟨p2, q2, t2, rfl, hp2, hl2, hq2, rfl⟩
  simp (disch := omega) only [↓RU, RV, RH, ↓reduceIte, Nat.reduceEqDiff, reduceCtorEq, if_pos, List.append_nil, w64, ↓RS, RG, Nat.reduceAdd, Nat.reduceMul, Nat.reduceLeDiff, tyint]
  refine hK _ _ ?_
  clear hK K
  obtain ⟨ps1, ps2, ps3⟩ := plan_small hp2
  have hsm := plan_sm hp2
  obtain ⟨nh, hnh⟩ : ∃ nh : Nat, 1 + k1 = nh := ⟨_, rfl⟩
  simp only [hnh] at hl2 ⊢
  refine W.joinZ [8] (fun vs S => ∃ (p3 : List Txt) (q3 tk : Nat), Sm p3 ∧ p3.length ≤ 6 ∧ q3 ≤ q + 200 ∧ vs = [eStrs p3] ∧ S = ⟨[.arr vr 111 2 [eBy code, .int .i64 (q3 : Int)]], tk⟩) ?_ ?_
  ·
    refine W.seq_region fun K hK => ?_
    simp (disch := omega) only [↓RU, RV, RH, ↓reduceIte, Nat.reduceEqDiff, reduceCtorEq, if_pos, List.append_nil, ↓RS, RG, Nat.reduceAdd, Nat.reduceMul, Nat.reduceLeDiff]
    refine CallR.ev (pick_ev hc (by omega) 50 (by omega) (by omega)) ?_
    rintro _ _ ⟨k3, rfl, -, hk3, rfl⟩
    simp (disch := omega) only [↓RU, RV, RH, ↓reduceIte, Nat.reduceEqDiff, reduceCtorEq, if_pos, List.append_nil, ↓RS, RG, Nat.reduceAdd, Nat.reduceMul, Nat.reduceLeDiff]
    refine hK _ _ ?_
    clear hK K
    refine W.block ?_
    refine W.seq_region fun K hK => ?_
    simp (disch := omega) only [↓RU, RV, RH, ↓reduceIte, Nat.reduceEqDiff, reduceCtorEq, if_pos, w64, ↓RS, RG, Nat.reduceAdd, Nat.reduceMul, Nat.reduceLeDiff, tyint]
    refine hK _ _ ?_
    clear hK K
    refine W.cond rfl (fun h0 => ?_) (fun h0 => ?_)
    · try simp only [RL] at h0
      obtain ⟨row, hrow, hrm⟩ := get_of (show nh - 1 < p2.length by omega)
      have hr6 := (ps3 row hrm).2
      refine W.seq_region fun K hK => ?_
      simp (disch := omega) only [↓RU, RV, RH, ↓reduceIte, Nat.reduceEqDiff, reduceCtorEq, if_pos, ↓RS, RG, Nat.reduceAdd, Nat.reduceMul, Nat.reduceLeDiff, tyLstring, tystring]
      refine hK _ _ ?_
      clear hK K
      refine W.region_k fun K hK => ?_
      simp (disch := omega) only [↓RU, RV, RH, ↓reduceIte, Nat.reduceEqDiff, reduceCtorEq, if_pos, w64, ↓RS, RG, Nat.reduceAdd, Nat.reduceMul, Nat.reduceLeDiff, tyLstring, tyint, tystring, toNat_pred, hrow, pStr, set_spl, set_str, cells_str, List.length_cons, List.length_nil]
      refine hK _ _ ?_
      clear hK K
      refine XBlock.norm ?_
      refine XThen.norm ?_
      have hPs : Sm (p2.set (nh - 1) (row ++ [97])) := sm_set hsm (by simp; omega)
      have hPl : (p2.set (nh - 1) (row ++ [97])).length = p2.length := by simp
      generalize p2.set (nh - 1) (row ++ [97]) = P at hPs hPl ⊢
      have htk : (P.map PV.str).take p2.length = P.map .str := List.take_of_length_le (by simp [hPl])
      refine ⟨1, [eStrs P], ⟨[.arr vr 111 2 [eBy code, .int .i64 ((q2 + 1 : Nat) : Int)]], t2 + 1 + 1⟩, ?_, ?_, P, q2 + 1, t2 + 1 + 1, hPs, by omega, by omega, rfl, rfl⟩
      · simp [-List.mapM_map, Store.frz, frzObs, frzOb, frz_eInts, frz_loc, rfz_loc, frz_int, frz_sl, frz_ints, rfz_ints, frz_strs, frz_bytes, rfz_bytes, rfz_str, rfz_bool, frz_str, frz_bool, Env.put, Env.of, argEnv, rfz_int, List.mapM_append, List.mapM_cons, frz_ref0, tk_strs, rfz_tstr, htk, hPl]
      · simp [-List.mapM_map, Store.frz, frzObs, frzOb, frz_eInts, frz_loc, rfz_loc, frz_int, frz_sl, frz_ints, rfz_ints, frz_strs, frz_bytes, rfz_bytes, rfz_str, rfz_bool, frz_str, frz_bool, Env.put, Env.of, argEnv, rfz_int, List.mapM_append, List.mapM_cons, frz_ref0, tk_strs, rfz_tstr]
    · try simp only [RL] at h0
      refine W.seq_region fun K hK => ?_
      simp (disch := omega) only [↓RU, RV, RH, ↓reduceIte, Nat.reduceEqDiff, reduceCtorEq, if_pos, w64, ↓RS, RG, Nat.reduceAdd, Nat.reduceMul, Nat.reduceLeDiff, tyint]
      refine hK _ _ ?_
      clear hK K
      refine W.cond rfl (fun h1 => ?_) (fun h1 => ?_)
      · try simp only [RL] at h1
        obtain ⟨row, hrow, hrm⟩ := get_of (show 0 < p2.length by omega)
        have hr6 := ps3 row hrm
        have hdl : (row.drop 1).length ≤ 6 := by rw [List.length_drop]; omega
        refine W.seq_region fun K hK => ?_
        simp (disch := omega) only [↓RU, RV, RH, ↓reduceIte, Nat.reduceEqDiff, reduceCtorEq, if_pos, ↓RS, RG, Nat.reduceAdd, Nat.reduceMul, Nat.reduceLeDiff, tyLstring, tystring]
        refine hK _ _ ?_
        clear hK K
        refine W.region_k fun K hK => ?_
        simp (disch := omega) only [↓RU, RV, RH, ↓reduceIte, Nat.reduceEqDiff, reduceCtorEq, if_pos, Option.map_none, w64, ↓RS, RG, Nat.reduceAdd, Nat.reduceMul, Nat.reduceLeDiff, tyLstring, tystring, hrow, pStr, set_spl, set_str, cells_str, List.length_cons, List.length_nil, Int.toNat_zero, Int.reduceToNat, List.take_length, Nat.zero_mul, Nat.zero_add]
        refine hK _ _ ?_
        clear hK K
        rw [set_hd (show 0 < p2.length by omega)]
        refine XBlock.norm ?_
        refine XThen.norm ?_
        have hPs : Sm (p2.set 0 (122 :: row.drop 1)) := sm_set hsm (by simp; omega)
        have hPl : (p2.set 0 (122 :: row.drop 1)).length = p2.length := by simp
        generalize p2.set 0 (122 :: row.drop 1) = P at hPs hPl ⊢
        have htk : (P.map PV.str).take p2.length = P.map .str := List.take_of_length_le (by simp [hPl])
        refine ⟨1, [eStrs P], ⟨[.arr vr 111 2 [eBy code, .int .i64 ((q2 + 1 : Nat) : Int)]], t2 + 1 + 1⟩, ?_, ?_, P, q2 + 1, t2 + 1 + 1, hPs, by omega, by omega, rfl, rfl⟩
        · simp [-List.mapM_map, Store.frz, frzObs, frzOb, frz_eInts, frz_loc, rfz_loc, frz_int, frz_sl, frz_ints, rfz_ints, frz_strs, frz_bytes, rfz_bytes, rfz_str, rfz_bool, frz_str, frz_bool, Env.put, Env.of, argEnv, rfz_int, List.mapM_append, List.mapM_cons, frz_ref0, tk_strs, rfz_tstr, htk, hPl]
        · simp [-List.mapM_map, Store.frz, frzObs, frzOb, frz_eInts, frz_loc, rfz_loc, frz_int, frz_sl, frz_ints, rfz_ints, frz_strs, frz_bytes, rfz_bytes, rfz_str, rfz_bool, frz_str, frz_bool, Env.put, Env.of, argEnv, rfz_int, List.mapM_append, List.mapM_cons, frz_ref0, tk_strs, rfz_tstr]
      · try simp only [RL] at h1
        refine W.skip ?_
        refine XBlock.norm ?_
        refine XThen.norm ?_
        have hPs := hsm
        have hPl : p2.length = p2.length := rfl
        have htk : True := trivial
        refine ⟨1, [eStrs p2], ⟨[.arr vr 111 2 [eBy code, .int .i64 ((q2 + 1 : Nat) : Int)]], t2⟩, ?_, ?_, p2, q2 + 1, t2, hPs, by omega, by omega, rfl, rfl⟩
        · simp [-List.mapM_map, Store.frz, frzObs, frzOb, frz_eInts, frz_loc, rfz_loc, frz_int, frz_sl, frz_ints, rfz_ints, frz_strs, frz_bytes, rfz_bytes, rfz_str, rfz_bool, frz_str, frz_bool, Env.put, Env.of, argEnv, rfz_int, List.mapM_append, List.mapM_cons, frz_ref0, tk_strs, rfz_tstr, htk, hPl]
        · simp [-List.mapM_map, Store.frz, frzObs, frzOb, frz_eInts, frz_loc, rfz_loc, frz_int, frz_sl, frz_ints, rfz_ints, frz_strs, frz_bytes, rfz_bytes, rfz_str, rfz_bool, frz_str, frz_bool, Env.put, Env.of, argEnv, rfz_int, List.mapM_append, List.mapM_cons, frz_ref0, tk_strs, rfz_tstr]
  rintro vs S - ⟨p3, q3, tk, hs3, hl3, hq3, rfl, rfl⟩
  refine W.seq_region fun K hK => ?_
  simp (disch := omega) only [↓RU, RV, RH, ↓reduceIte, Nat.reduceEqDiff, reduceCtorEq, if_pos, ↓RS, RG, Nat.reduceAdd, Nat.reduceMul, Nat.reduceLeDiff]
  refine hK _ _ ?_
  clear hK K
  refine W.ret ?_
  refine BodyQ.ret rfl ?_
  exact ⟨_, p3, q3, tk, rfl, hs3, hl3, hq3, take_all⟩

theorem l91Plain_ev {code : Txt} {q vr t : Nat} (hc : code.length ≤ 1048576) (hq : q ≤ 600000) {rows cols : Nat} (h1 : 1 ≤ rows) (h2 : rows ≤ 6) (w1 : 1 ≤ cols) (w2 : cols ≤ 6) : Ev Try.prog 73 [.ref 0 vr 0, .int .i64 rows, .int .i64 cols] ⟨[.arr vr 111 2 [eBy code, .int .i64 (q : Int)]], t⟩ fun v S => ∃ (p2 : List Txt) (q2 t2 : Nat), v = eStrs p2 ∧ Sm p2 ∧ p2.length ≤ 6 ∧ q2 ≤ q + 1000 ∧ S = ⟨[.arr vr 111 2 [eBy code, .int .i64 (q2 : Int)]], t2⟩ := by
  refine Ev.of ⟨Try.func73, by kernel_rfl, rfl, by kernel_rfl⟩ tabOk mixed (by show 3 ≤ Try.f73.ntmps; decide) ?_
  refine W.seq_region fun K hK => ?_
  simp (disch := omega) only [↓RU, RV, RH, ↓reduceIte, Nat.reduceEqDiff, reduceCtorEq, if_pos, ↓RS, RG, Nat.reduceAdd, Nat.reduceMul, Nat.reduceLeDiff]
  refine hK _ _ ?_
  clear hK K
  refine W.seq_region fun K hK => ?_
  simp (disch := omega) only [↓RU, RV, RH, ↓reduceIte, Nat.reduceEqDiff, reduceCtorEq, if_pos, List.append_nil, ↓RS, RG, Nat.reduceAdd, Nat.reduceMul, Nat.reduceLeDiff]
  refine CallR.ev (l91Some_ev (q := q) hc (by omega) h1 h2 w1 w2) ?_
  rintro _ _ ⟨p3, q3, t3, rfl, hs3, hl3, hq3, rfl⟩
  simp (disch := omega) only [↓RU, RV, RH, ↓reduceIte, Nat.reduceEqDiff, reduceCtorEq, if_pos, List.append_nil, ↓RS, RG, Nat.reduceAdd, Nat.reduceMul, Nat.reduceLeDiff]
  refine hK _ _ ?_
  clear hK K
  refine W.seq ?_
  refine W.seq_region fun K hK => ?_
  simp (disch := omega) only [↓RU, RV, RH, ↓reduceIte, Nat.reduceEqDiff, reduceCtorEq, if_pos, ↓RS, RG, Nat.reduceAdd, Nat.reduceMul, Nat.reduceLeDiff]
  refine hK _ _ ?_
  clear hK K
  refine W.block ?_
  refine W.loop [0, 1, 2, 7, 8] (fun n vs S => ∃ (i : Nat) (p2 : List Txt) (q2 tk : Nat), n = 3 - i ∧ i ≤ 3 ∧ Sm p2 ∧ p2.length ≤ 6 ∧ q2 ≤ q + 200 + 200 * i ∧ vs = [.ref 0 vr 0, .int .i64 rows, .int .i64 cols, eStrs p2, .int .i64 i] ∧ S = ⟨[.arr vr 111 2 [eBy code, .int .i64 (q2 : Int)]], tk⟩) 3 ?_ ?_
  · refine ⟨1, 0, p3, q3, t3, rfl, by omega, hs3, hl3, by omega, ?_, rfl⟩
    simp [Env.put, Env.of, argEnv]
  rintro n vs S - ⟨i, p2, q2, tk, rfl, h_i, hs2, hl2, hq2, rfl, rfl⟩
  refine W.seq ?_
  refine W.seq_region fun K hK => ?_
  by_cases hi3 : i < 3
  · skip
    have hd : decide ((i : Int) < 3) = true := decide_eq_true (by omega)
    simp (disch := omega) only [↓RU, RV, RH, ↓reduceIte, Nat.reduceEqDiff, reduceCtorEq, if_pos, w64, List.append_nil, ↓RS, RG, Nat.reduceAdd, Nat.reduceMul, Nat.reduceLeDiff, tyint, hd]
    refine CallR.pc (sWallPlain_pc hs2) rfl (.inl rfl) ?_
    simp (disch := omega) only [↓RU, RV, RH, ↓reduceIte, Nat.reduceEqDiff, reduceCtorEq, if_pos, w64, List.append_nil, ↓RS, RG, Nat.reduceAdd, Nat.reduceMul, Nat.reduceLeDiff, tyint, hd]
    refine hK _ _ ?_
    clear hK K
    refine W.cond rfl (fun h => ?_) (fun h => ?_)
    · try simp only [RL] at h
      refine W.skip ?_
      refine XThen.norm ?_
      refine W.seq ?_
      refine W.block ?_
      refine W.region_k fun K hK => ?_
      simp (disch := omega) only [↓RU, RV, RH, ↓reduceIte, Nat.reduceEqDiff, reduceCtorEq, if_pos, List.append_nil, ↓RS, RG, Nat.reduceAdd, Nat.reduceMul, Nat.reduceLeDiff]
      refine CallR.ev (l91Some_ev (q := q2) hc (by omega) h1 h2 w1 w2) ?_
      rintro _ _ ⟨p3, q3, t3, rfl, hs3, hl3, hq3, rfl⟩
      simp (disch := omega) only [↓RU, RV, RH, ↓reduceIte, Nat.reduceEqDiff, reduceCtorEq, if_pos, List.append_nil, ↓RS, RG, Nat.reduceAdd, Nat.reduceMul, Nat.reduceLeDiff]
      refine hK _ _ ?_
      clear hK K
      refine XBlock.norm ?_
      refine XThen.norm ?_
      refine W.region_k fun K hK => ?_
      simp (disch := omega) only [↓RU, RV, RH, ↓reduceIte, Nat.reduceEqDiff, reduceCtorEq, if_pos, w64, ↓RS, RG, Nat.reduceAdd, Nat.reduceMul, Nat.reduceLeDiff, tyint]
      refine hK _ _ ?_
      clear hK K
      refine XThen.norm ?_
      refine ⟨3 - (i + 1), by omega, 1, i + 1, p3, q3, t3, rfl, by omega, hs3, hl3, by omega, ?_, rfl⟩
      simp [Env.put, Env.of]
    · try simp only [RL] at h
      refine W.exit ?_
      refine XThen.exit ?_
      refine XThen.exit ?_
      refine XBlock.hit ?_
      refine XThen.norm ?_
      refine W.seq_region fun K hK => ?_
      simp (disch := omega) only [↓RU, RV, RH, ↓reduceIte, Nat.reduceEqDiff, reduceCtorEq, if_pos, ↓RS, RG, Nat.reduceAdd, Nat.reduceMul, Nat.reduceLeDiff]
      refine hK _ _ ?_
      clear hK K
      refine W.ret ?_
      refine BodyQ.ret rfl ?_
      exact ⟨_, p2, q2, tk, rfl, hs2, hl2, by omega, take_all⟩
  · skip
    have hd : decide ((i : Int) < 3) = false := decide_eq_false (by omega)
    simp (disch := omega) only [↓RU, RV, RH, ↓reduceIte, Nat.reduceEqDiff, reduceCtorEq, if_pos, w64, List.append_nil, ↓RS, RG, Nat.reduceAdd, Nat.reduceMul, Nat.reduceLeDiff, tyint, hd]
    refine hK _ _ ?_
    clear hK K
    refine W.cond rfl (fun h => ?_) (fun h => ?_)
    · try simp only [RL] at h
      exact absurd h (by simp)
    · try simp only [RL] at h
      refine W.exit ?_
      refine XThen.exit ?_
      refine XThen.exit ?_
      refine XBlock.hit ?_
      refine XThen.norm ?_
      refine W.seq_region fun K hK => ?_
      simp (disch := omega) only [↓RU, RV, RH, ↓reduceIte, Nat.reduceEqDiff, reduceCtorEq, if_pos, ↓RS, RG, Nat.reduceAdd, Nat.reduceMul, Nat.reduceLeDiff]
      refine hK _ _ ?_
      clear hK K
      refine W.ret ?_
      refine BodyQ.ret rfl ?_
      exact ⟨_, p2, q2, tk, rfl, hs2, hl2, by omega, take_all⟩

theorem tdiv23 {k : Nat} : ((k : Nat) : Int).tdiv 23 = ((k / 23 : Nat) : Int) := (Int.ofNat_tdiv k 23).symm
theorem tw0 : ((23 : Int) = 0) = False := by simp

theorem l91Ordered_ev {code : Txt} (hc : code.length ≤ 1048576) : Ev Try.prog 44 [eBy code] ⟨[], 0⟩ fun v S => ∃ (p : List Txt) (a b : Int) (t : Nat), Sm p ∧ -300 ≤ a ∧ a ≤ 300 ∧ -300 ≤ b ∧ b ≤ 300 ∧ v = .tup [eStrs p, .int .i64 a, .int .i64 b] ∧ S = ⟨[], t⟩ := by
  refine Ev.of ⟨Try.func44, by kernel_rfl, rfl, by kernel_rfl⟩ tabOk mixed (by show 1 ≤ Try.f44.ntmps; decide) ?_
  refine W.seq_region fun K hK => ?_
  simp (disch := omega) only [↓RU, RV, RH, ↓reduceIte, Nat.reduceEqDiff, reduceCtorEq, if_pos, ↓RS, RG, Nat.reduceAdd, Nat.reduceMul, Nat.reduceLeDiff]
  refine hK _ _ ?_
  clear hK K
  refine W.seq_region fun K hK => ?_
  simp (disch := omega) only [↓RU, RV, RH, ↓reduceIte, Nat.reduceEqDiff, reduceCtorEq, if_pos, List.append_nil, ↓RS, RG, Nat.reduceAdd, Nat.reduceMul, Nat.reduceLeDiff, rdO]
  refine CallR.pn (l6Open_pn hc) rfl (.inr rfl) ?_
  simp (disch := omega) only [↓RU, RV, RH, ↓reduceIte, Nat.reduceEqDiff, reduceCtorEq, if_pos, List.append_nil, ↓RS, RG, Nat.reduceAdd, Nat.reduceMul, Nat.reduceLeDiff, rdO, rdO, RN]
  refine hK _ _ ?_
  clear hK K
  refine W.seq_region fun K hK => ?_
  have hc2 : (code.take 2000).length ≤ 1048576 := by rw [List.length_take]; omega
  generalize code.take 2000 = code2 at hc2 ⊢
  simp (disch := omega) only [↓RU, RV, RH, ↓reduceIte, Nat.reduceEqDiff, reduceCtorEq, if_pos, List.append_nil, ↓RS, RG, Nat.reduceAdd, Nat.reduceMul, Nat.reduceLeDiff]
  refine CallR.ev (l91Plain_ev (q := 0) (code := code2) hc2 (by omega) (rows := 5) (cols := 5) (by omega) (by omega) (by omega) (by omega)) ?_
  rintro _ _ ⟨p, q, t, rfl, hs, hl, hq, rfl⟩
  simp (disch := omega) only [↓RU, RV, RH, ↓reduceIte, Nat.reduceEqDiff, reduceCtorEq, if_pos, List.append_nil, ↓RS, RG, Nat.reduceAdd, Nat.reduceMul, Nat.reduceLeDiff]
  refine hK _ _ ?_
  clear hK K
  have hrb := l1Rooms_bound p
  refine W.seq_region fun K hK => ?_
  simp (disch := omega) only [↓RU, RV, RH, ↓reduceIte, Nat.reduceEqDiff, reduceCtorEq, if_pos, List.append_nil, w64, ↓RS, RG, Nat.reduceAdd, Nat.reduceMul, Nat.reduceLeDiff, tyint]
  refine CallR.pc (l1Rooms_pc hs) rfl (.inl rfl) ?_
  simp (disch := omega) only [↓RU, RV, RH, ↓reduceIte, Nat.reduceEqDiff, reduceCtorEq, if_pos, List.append_nil, w64, ↓RS, RG, Nat.reduceAdd, Nat.reduceMul, Nat.reduceLeDiff, tyint]
  refine CallR.ev (pick_ev (q := q) hc2 (by omega) (l1Rooms p) (by omega) (by omega)) ?_
  rintro _ _ ⟨k1, rfl, hk1z, hk1, rfl⟩
  simp (disch := omega) only [↓RU, RV, RH, ↓reduceIte, Nat.reduceEqDiff, reduceCtorEq, if_pos, List.append_nil, w64, ↓RS, RG, Nat.reduceAdd, Nat.reduceMul, Nat.reduceLeDiff, tyint, tdiv23, tw0]
  refine CallR.pc (l1Rooms_pc hs) rfl (.inl rfl) ?_
  simp (disch := omega) only [↓RU, RV, RH, ↓reduceIte, Nat.reduceEqDiff, reduceCtorEq, if_pos, List.append_nil, w64, ↓RS, RG, Nat.reduceAdd, Nat.reduceMul, Nat.reduceLeDiff, tyint]
  refine CallR.ev (pick_ev (q := q + 1) hc2 (by omega) 24 (by omega) (by omega)) ?_
  rintro _ _ ⟨k2, rfl, hk2z, hk2, rfl⟩
  simp (disch := omega) only [↓RU, RV, RH, ↓reduceIte, Nat.reduceEqDiff, reduceCtorEq, if_pos, List.append_nil, w64, ↓RS, RG, Nat.reduceAdd, Nat.reduceMul, Nat.reduceLeDiff, tyint, tdiv23, tw0]
  refine CallR.ev (pick_ev (q := q + 1 + 1) hc2 (by omega) (l1Rooms p + ((k2 / 23 : Nat) : Int)) (by omega) (by omega)) ?_
  rintro _ _ ⟨k3, rfl, hk3z, hk3, rfl⟩
  simp (disch := omega) only [↓RU, RV, RH, ↓reduceIte, Nat.reduceEqDiff, reduceCtorEq, if_pos, List.append_nil, w64, ↓RS, RG, Nat.reduceAdd, Nat.reduceMul, Nat.reduceLeDiff, tyint, tdiv23, tw0]
  refine CallR.ev (pick_ev (q := q + 1 + 1 + 1) hc2 (by omega) 24 (by omega) (by omega)) ?_
  rintro _ _ ⟨k4, rfl, hk4z, hk4, rfl⟩
  simp (disch := omega) only [↓RU, RV, RH, ↓reduceIte, Nat.reduceEqDiff, reduceCtorEq, if_pos, List.append_nil, w64, ↓RS, RG, Nat.reduceAdd, Nat.reduceMul, Nat.reduceLeDiff, tyint, tdiv23, tw0]
  refine hK _ _ ?_
  clear hK K
  refine W.ret ?_
  refine BodyQ.ret rfl ?_
  have hk1c := hk1
  have hk3c := hk3
  have hk4c := hk4 (by omega)
  refine ⟨0, p, (k1 : Int), (k3 : Int) - ((k4 / 23 : Nat) : Int), _, hs, by omega, by omega, by omega, by omega, rfl, rfl⟩

theorem drawLeft_ev {code : Txt} (hc : code.length ≤ 1048576) : Ev Try.prog 13 [eBy code] ⟨[], 0⟩ fun v S => ∃ (p : List Txt) (a b : Int) (t : Nat), Sm p ∧ -300 ≤ a ∧ a ≤ 300 ∧ -300 ≤ b ∧ b ≤ 300 ∧ v = .tup [eStrs p, .int .i64 a, .int .i64 b] ∧ S = ⟨[], t⟩ := by
  refine Ev.of ⟨Try.func13, by kernel_rfl, rfl, by kernel_rfl⟩ tabOk mixed (by show 1 ≤ Try.f13.ntmps; decide) ?_
  refine W.seq_region fun K hK => ?_
  simp (disch := omega) only [↓RU, RV, RH, ↓reduceIte, Nat.reduceEqDiff, reduceCtorEq, if_pos, ↓RS, RG, Nat.reduceAdd, Nat.reduceMul, Nat.reduceLeDiff]
  refine hK _ _ ?_
  clear hK K
  refine W.seq_region fun K hK => ?_
  simp (disch := omega) only [↓RU, RV, RH, ↓reduceIte, Nat.reduceEqDiff, reduceCtorEq, if_pos, List.append_nil, ↓RS, RG, Nat.reduceAdd, Nat.reduceMul, Nat.reduceLeDiff]
  refine CallR.ev (l91Ordered_ev hc) ?_
  rintro _ _ ⟨p, a, b, t, hs, ha1, ha2, hb1, hb2, rfl, rfl⟩
  simp (disch := omega) only [↓RU, RV, RH, ↓reduceIte, Nat.reduceEqDiff, reduceCtorEq, if_pos, List.append_nil, ↓RS, RG, Nat.reduceAdd, Nat.reduceMul, Nat.reduceLeDiff]
  refine hK _ _ ?_
  clear hK K
  refine W.ret ?_
  refine BodyQ.ret rfl ?_
  exact ⟨0, p, a, b, _, hs, ha1, ha2, hb1, hb2, rfl, rfl⟩

theorem drawAbove_ev {code : Txt} (hc : code.length ≤ 1048576) : Ev Try.prog 28 [eBy code] ⟨[], 0⟩ fun v S => ∃ (p : List Txt) (a b : Int) (t : Nat), Sm p ∧ -300 ≤ a ∧ a ≤ 300 ∧ -300 ≤ b ∧ b ≤ 300 ∧ v = .tup [eStrs p, .int .i64 a, .int .i64 b] ∧ S = ⟨[], t⟩ := by
  refine Ev.of ⟨Try.func28, by kernel_rfl, rfl, by kernel_rfl⟩ tabOk mixed (by show 1 ≤ Try.f28.ntmps; decide) ?_
  refine W.seq_region fun K hK => ?_
  simp (disch := omega) only [↓RU, RV, RH, ↓reduceIte, Nat.reduceEqDiff, reduceCtorEq, if_pos, ↓RS, RG, Nat.reduceAdd, Nat.reduceMul, Nat.reduceLeDiff]
  refine hK _ _ ?_
  clear hK K
  refine W.seq_region fun K hK => ?_
  simp (disch := omega) only [↓RU, RV, RH, ↓reduceIte, Nat.reduceEqDiff, reduceCtorEq, if_pos, List.append_nil, ↓RS, RG, Nat.reduceAdd, Nat.reduceMul, Nat.reduceLeDiff]
  refine CallR.ev (l91Ordered_ev hc) ?_
  rintro _ _ ⟨p, a, b, t, hs, ha1, ha2, hb1, hb2, rfl, rfl⟩
  simp (disch := omega) only [↓RU, RV, RH, ↓reduceIte, Nat.reduceEqDiff, reduceCtorEq, if_pos, List.append_nil, ↓RS, RG, Nat.reduceAdd, Nat.reduceMul, Nat.reduceLeDiff]
  refine hK _ _ ?_
  clear hK K
  refine W.ret ?_
  refine BodyQ.ret rfl ?_
  exact ⟨0, p, a, b, _, hs, ha1, ha2, hb1, hb2, rfl, rfl⟩

theorem drawKind_ev {code : Txt} (hc : code.length ≤ 1048576) : Ev Try.prog 31 [eBy code] ⟨[], 0⟩ fun v S => ∃ (p : List Txt) (a b : Int) (t : Nat), Sm p ∧ -300 ≤ a ∧ a ≤ 300 ∧ -300 ≤ b ∧ b ≤ 300 ∧ v = .tup [eStrs p, .int .i64 a, .int .i64 b] ∧ S = ⟨[], t⟩ := by
  refine Ev.of ⟨Try.func31, by kernel_rfl, rfl, by kernel_rfl⟩ tabOk mixed (by show 1 ≤ Try.f31.ntmps; decide) ?_
  refine W.seq_region fun K hK => ?_
  simp (disch := omega) only [↓RU, RV, RH, ↓reduceIte, Nat.reduceEqDiff, reduceCtorEq, if_pos, ↓RS, RG, Nat.reduceAdd, Nat.reduceMul, Nat.reduceLeDiff]
  refine hK _ _ ?_
  clear hK K
  refine W.seq_region fun K hK => ?_
  simp (disch := omega) only [↓RU, RV, RH, ↓reduceIte, Nat.reduceEqDiff, reduceCtorEq, if_pos, List.append_nil, ↓RS, RG, Nat.reduceAdd, Nat.reduceMul, Nat.reduceLeDiff]
  refine CallR.ev (l91Ordered_ev hc) ?_
  rintro _ _ ⟨p, a, b, t, hs, ha1, ha2, hb1, hb2, rfl, rfl⟩
  simp (disch := omega) only [↓RU, RV, RH, ↓reduceIte, Nat.reduceEqDiff, reduceCtorEq, if_pos, List.append_nil, ↓RS, RG, Nat.reduceAdd, Nat.reduceMul, Nat.reduceLeDiff]
  refine hK _ _ ?_
  clear hK K
  refine W.ret ?_
  refine BodyQ.ret rfl ?_
  exact ⟨0, p, a, b, _, hs, ha1, ha2, hb1, hb2, rfl, rfl⟩

end Fw
end Go.Proofs.Ytmhcknpjgikgmaa

/-! The laws of left and above, gone through. -/
namespace Go.Proofs.Ytmhcknpjgikgmaa
namespace Fw
open Go

theorem askV_nat {p : List Txt} {M : List (List Bool)} {a b : Int} (h : askV p M a b = true) : ∃ a' b' : Nat, a = a' ∧ b = b' ∧ a' < (rP p).length ∧ b' < (rP p).length ∧ plainI p = true ∧ getB M a' b' = true := by
  unfold askV at h
  simp only [Bool.and_eq_true, Bool.not_eq_true', decide_eq_false_iff_not] at h
  obtain ⟨⟨⟨h1, h2⟩, h3⟩, h4⟩ := h
  exact ⟨a.toNat, b.toNat, by omega, by omega, by omega, by omega, h1, h4⟩
theorem askV_of {p : List Txt} {M : List (List Bool)} {a b : Nat} (hv : plainI p = true) (ha : a < (rP p).length) (hb : b < (rP p).length) : askV p M a b = getB M a b := by
  unfold askV
  have e1 : decide (min (a : Int) (b : Int) < 0) = false := decide_eq_false (by omega)
  have e2 : decide (max (a : Int) (b : Int) ≥ ((rP p).length : Int)) = false := decide_eq_false (by omega)
  rw [hv, e1, e2, Int.toNat_natCast, Int.toNat_natCast]; rfl
theorem plainI_B {p : List Txt} (h : plainI p = true) : plainB p = true := by rw [← plainI_plain]; exact h
/-- What is asked of the program is what the specification says. -/
theorem ask_ord {p : List Txt} (a b : Int) : askV p (lfM p) a b = ordS p 0 a b ∧ askV p (abM p) a b = ordS p 1 a b := by
  cases hv : plainI p with
  | false =>
    have hb : plainB p = false := by rw [← plainI_plain]; exact hv
    unfold askV ordS
    rw [hv, hb]; exact ⟨rfl, rfl⟩
  | true =>
    have hp := plainI_B hv
    have hpl := plain_plan hp
    have hN := plan_named hpl
    have hr := hN.rooms
    obtain ⟨s0, s1⟩ := same_all hN.hg (n := (rP p).length) (by omega) (fun i j hi hj => hN.cell hi hj) gP_room
    have key : ∀ {M : List (List Bool)} {k : Int}, Same (rP p).length M (allS p k) → askV p M a b = ordS p k a b := by
      intro M k hs
      unfold askV ordS givenB
      rw [hv, hp, hpl]
      by_cases q : 0 ≤ a ∧ 0 ≤ b ∧ a < (rP p).length ∧ b < (rP p).length
      · obtain ⟨q1, q2, q3, q4⟩ := q
        have e1 : decide (min a b < 0) = false := decide_eq_false (by omega)
        have e2 : decide (max a b ≥ ((rP p).length : Int)) = false := decide_eq_false (by omega)
        rw [e1, e2, hs.2.2 a.toNat b.toNat (by omega) (by omega)]
        simp only [Bool.true_and, Bool.not_false]
        have e3 : decide (0 ≤ a) = true := decide_eq_true q1
        have e4 : decide (a ≤ l1Rooms p - 1) = true := decide_eq_true (by omega)
        have e5 : decide (0 ≤ b) = true := decide_eq_true q2
        have e6 : decide (b ≤ l1Rooms p - 1) = true := decide_eq_true (by omega)
        rw [e3, e4, e5, e6]; rfl
      · have l : (true && !decide (min a b < 0) && !decide (max a b ≥ ((rP p).length : Int))) = false := by
          by_cases c1 : min a b < 0
          · rw [decide_eq_true c1]; rfl
          · have c2 : max a b ≥ ((rP p).length : Int) := by omega
            rw [decide_eq_true c2]; simp
        have r : (true && (true && (decide (0 ≤ a) && decide (a ≤ l1Rooms p - 1))) && (true && (decide (0 ≤ b) && decide (b ≤ l1Rooms p - 1)))) = false := by
          simp only [Bool.true_and, Bool.and_eq_false_iff, decide_eq_false_iff_not]
          omega
        rw [l, r]; rfl
    exact ⟨key s0, key s1⟩
/-- Left of leads on, and is none of the others. -/
theorem left_facts {p : List Txt} {a b : Int} (h : askV p (lfM p) a b = true) : floorI p = true ∧ askV p (lfM p) b a = false ∧ askV p (abM p) a b = false ∧ askV p (abM p) b a = false ∧ ∀ c : Nat, c < (rP p).length → askV p (lfM p) b c = true → askV p (lfM p) a c = true := by
  obtain ⟨a, b, rfl, rfl, ha, hb, hv, hg⟩ := askV_nat h
  have hp := plainI_B hv
  obtain ⟨o1, o2, o3⟩ := Lf.only hp ha hb hg
  have hf : floorI p = true := by unfold plainI at hv; simp only [Bool.and_eq_true] at hv; exact hv.1
  rw [askV_of hv hb ha, askV_of hv ha hb, askV_of hv hb ha]
  refine ⟨hf, by simpa [Lf] using o1, by simpa [Ab] using o2, by simpa [Ab] using o3, fun c hc h2 => ?_⟩
  rw [askV_of hv hb hc] at h2
  rw [askV_of hv ha hc]
  exact Lf.trans ha hb hc hg h2
theorem above_facts {p : List Txt} {a b : Int} (h : askV p (abM p) a b = true) : floorI p = true ∧ askV p (abM p) b a = false ∧ askV p (lfM p) a b = false ∧ askV p (lfM p) b a = false ∧ ∀ c : Nat, c < (rP p).length → askV p (abM p) b c = true → askV p (abM p) a c = true := by
  obtain ⟨a, b, rfl, rfl, ha, hb, hv, hg⟩ := askV_nat h
  have hp := plainI_B hv
  obtain ⟨o1, o2, o3⟩ := Ab.only hp ha hb hg
  have hf : floorI p = true := by unfold plainI at hv; simp only [Bool.and_eq_true] at hv; exact hv.1
  rw [askV_of hv hb ha, askV_of hv ha hb, askV_of hv hb ha]
  refine ⟨hf, by simpa [Ab] using o1, by simpa [Lf] using o2, by simpa [Lf] using o3, fun c hc h2 => ?_⟩
  rw [askV_of hv hb hc] at h2
  rw [askV_of hv ha hc]
  exact Ab.trans ha hb hc hg h2

theorem left_law {code : Txt} (hcode : code.length ≤ 9223372036854775807) : PC Try.prog 3 [eBy code] (.bool true) true := by
  refine PC.of ⟨Try.func3, by kernel_rfl, rfl, by kernel_rfl⟩ tabOk mixed (by show 1 ≤ Try.f3.ntmps; decide) ?_
  refine W.seq_region fun K hK => ?_
  simp (disch := omega) only [↓RU, RV, RH, ↓reduceIte, Nat.reduceEqDiff, reduceCtorEq, if_pos, ↓RS, RG, Nat.reduceAdd, Nat.reduceMul, Nat.reduceLeDiff]
  refine hK _ _ ?_
  clear hK K
  refine W.seq ?_
  refine W.seq_region fun K hK => ?_
  simp (disch := omega) only [↓RU, RV, RH, ↓reduceIte, Nat.reduceEqDiff, reduceCtorEq, if_pos, w64, ↓RS, RG, Nat.reduceAdd, Nat.reduceMul, Nat.reduceLeDiff, tyLuint8, tyint, tyuint8]
  refine hK _ _ ?_
  clear hK K
  refine W.cond rfl (fun h0 => ?_) (fun h0 => ?_)
  · try simp only [RL] at h0
    refine W.seq_region fun K hK => ?_
    simp (disch := omega) only [↓RU, RV, RH, ↓reduceIte, Nat.reduceEqDiff, reduceCtorEq, if_pos, ↓RS, RG, Nat.reduceAdd, Nat.reduceMul, Nat.reduceLeDiff]
    refine hK _ _ ?_
    clear hK K
    refine W.ret ?_
    refine XThen.ret ?_
    refine BodyQ.ret rfl ?_
    rfl
  · try simp only [RL] at h0
    have hcl : code.length ≤ 1048576 := by omega
    refine W.skip ?_
    refine XThen.norm ?_
    refine W.seq_region fun K hK => ?_
    simp (disch := omega) only [↓RU, RV, RH, ↓reduceIte, Nat.reduceEqDiff, reduceCtorEq, if_pos, List.append_nil, ↓RS, RG, Nat.reduceAdd, Nat.reduceMul, Nat.reduceLeDiff]
    refine CallR.ev (drawLeft_ev hcl) ?_
    rintro _ _ ⟨p, a, b, t, hs, ha1, ha2, hb1, hb2, rfl, rfl⟩
    simp (disch := omega) only [↓RU, RV, RH, ↓reduceIte, Nat.reduceEqDiff, reduceCtorEq, if_pos, List.append_nil, ↓RS, RG, Nat.reduceAdd, Nat.reduceMul, Nat.reduceLeDiff]
    refine hK _ _ ?_
    clear hK K
    refine W.seq_region fun K hK => ?_
    simp (disch := omega) only [↓RU, RV, RH, ↓reduceIte, Nat.reduceEqDiff, reduceCtorEq, if_pos, List.append_nil, ↓RS, RG, Nat.reduceAdd, Nat.reduceMul, Nat.reduceLeDiff]
    refine CallR.pc (orderLeft_pc hs a b) rfl (.inl rfl) ?_
    simp (disch := omega) only [↓RU, RV, RH, ↓reduceIte, Nat.reduceEqDiff, reduceCtorEq, if_pos, List.append_nil, ↓RS, RG, Nat.reduceAdd, Nat.reduceMul, Nat.reduceLeDiff]
    refine hK _ _ ?_
    clear hK K
    refine W.seq_region fun K hK => ?_
    simp (disch := omega) only [↓RU, RV, RH, ↓reduceIte, Nat.reduceEqDiff, reduceCtorEq, if_pos, List.append_nil, ↓RS, RG, Nat.reduceAdd, Nat.reduceMul, Nat.reduceLeDiff]
    refine CallR.pc (sOrderLeft_pc hs a b) rfl (.inl rfl) ?_
    simp (disch := omega) only [↓RU, RV, RH, ↓reduceIte, Nat.reduceEqDiff, reduceCtorEq, if_pos, List.append_nil, ↓RS, RG, Nat.reduceAdd, Nat.reduceMul, Nat.reduceLeDiff]
    refine hK _ _ ?_
    clear hK K
    rw [← (ask_ord a b).1]
    refine W.seq ?_
    refine W.seq_region fun K hK => ?_
    cases hl : askV p (lfM p) a b
    · skip
      simp (disch := omega) only [↓RU, RV, RH, ↓reduceIte, Nat.reduceEqDiff, reduceCtorEq, if_pos, w64, ↓RS, RG, Nat.reduceAdd, Nat.reduceMul, Nat.reduceLeDiff, tybool, hl, bne_self_eq_false]
      refine hK _ _ ?_
      clear hK K
      refine W.cond rfl (fun h1 => ?_) (fun h1 => ?_)
      · try simp only [RL] at h1
        refine W.seq_region fun K hK => ?_
        simp (disch := omega) only [↓RU, RV, RH, ↓reduceIte, Nat.reduceEqDiff, reduceCtorEq, if_pos, w64, ↓RS, RG, Nat.reduceAdd, Nat.reduceMul, Nat.reduceLeDiff, tybool, hl, beq_self_eq_true]
        refine hK _ _ ?_
        clear hK K
        refine W.ret ?_
        refine XThen.ret ?_
        refine BodyQ.ret rfl ?_
        rfl
      · try simp only [RL] at h1
        exact absurd h1 (by simp)
    · skip
      obtain ⟨hf, g1, g2, g3, g4⟩ := left_facts hl
      simp (disch := omega) only [↓RU, RV, RH, ↓reduceIte, Nat.reduceEqDiff, reduceCtorEq, if_pos, w64, ↓RS, RG, Nat.reduceAdd, Nat.reduceMul, Nat.reduceLeDiff, tybool, hl, bne_self_eq_false]
      refine hK _ _ ?_
      clear hK K
      refine W.cond rfl (fun h1 => ?_) (fun h1 => ?_)
      · try simp only [RL] at h1
        exact absurd h1 (by simp)
      · try simp only [RL] at h1
        refine W.skip ?_
        refine XThen.norm ?_
        refine W.seq_region fun K hK => ?_
        simp (disch := omega) only [↓RU, RV, RH, ↓reduceIte, Nat.reduceEqDiff, reduceCtorEq, if_pos, List.append_nil, ↓RS, RG, Nat.reduceAdd, Nat.reduceMul, Nat.reduceLeDiff]
        refine CallR.pc (planRooms_pc hs hf) rfl (.inl rfl) ?_
        simp (disch := omega) only [↓RU, RV, RH, ↓reduceIte, Nat.reduceEqDiff, reduceCtorEq, if_pos, List.append_nil, ↓RS, RG, Nat.reduceAdd, Nat.reduceMul, Nat.reduceLeDiff]
        refine hK _ _ ?_
        clear hK K
        refine W.seq ?_
        refine W.seq_region fun K hK => ?_
        simp (disch := omega) only [↓RU, RV, RH, ↓reduceIte, Nat.reduceEqDiff, reduceCtorEq, if_pos, ↓RS, RG, Nat.reduceAdd, Nat.reduceMul, Nat.reduceLeDiff]
        refine hK _ _ ?_
        clear hK K
        refine W.block ?_
        refine W.loop [3, 4, 5, 8, 9, 10] (fun n vs S => ∃ c t2 : Nat, n = (rP p).length - c ∧ c ≤ (rP p).length ∧ vs = [eStrs p, .int .i64 a, .int .i64 b, .int .i64 (rP p).length, .bool true, .int .i64 c] ∧ S = ⟨[], t2⟩) (rP p).length ?_ ?_
        · refine ⟨0, 0, t, rfl, by omega, ?_, rfl⟩
          simp [Env.put, Env.of, argEnv]
        rintro n vs S - ⟨c, t2, rfl, h_c, rfl, rfl⟩
        refine W.seq ?_
        refine W.seq_region fun K hK => ?_
        simp (disch := omega) only [↓RU, RV, RH, ↓reduceIte, Nat.reduceEqDiff, reduceCtorEq, if_pos, w64, ↓RS, RG, Nat.reduceAdd, Nat.reduceMul, Nat.reduceLeDiff, tyint]
        refine hK _ _ ?_
        clear hK K
        refine W.cond rfl (fun h2 => ?_) (fun h2 => ?_)
        · try simp only [RL] at h2
          have hrn : (rP p).length ≤ 9 := okB_rooms (plain_okB (askV_nat hl).choose_spec.choose_spec.2.2.2.2.1).1
          have hc : c < (rP p).length := by omega
          have g5 := g4 c hc
          refine W.skip ?_
          refine XThen.norm ?_
          refine W.seq ?_
          refine W.block ?_
          refine W.seq_region fun K hK => ?_
          cases hbc : askV p (lfM p) b c
          · skip
            simp (disch := omega) only [↓RU, RV, RH, ↓reduceIte, Nat.reduceEqDiff, reduceCtorEq, if_pos, List.append_nil, ↓RS, RG, Nat.reduceAdd, Nat.reduceMul, Nat.reduceLeDiff, hbc]
            refine CallR.pc (orderLeft_pc hs b c) rfl (.inl rfl) ?_
            simp (disch := omega) only [↓RU, RV, RH, ↓reduceIte, Nat.reduceEqDiff, reduceCtorEq, if_pos, List.append_nil, ↓RS, RG, Nat.reduceAdd, Nat.reduceMul, Nat.reduceLeDiff, hbc]
            refine hK _ _ ?_
            clear hK K
            refine W.cond rfl (fun h3 => ?_) (fun h3 => ?_)
            · try simp only [RL] at h3
              exact absurd h3 (by simp)
            · try simp only [RL] at h3
              refine W.skip ?_
              refine XBlock.norm ?_
              refine XThen.norm ?_
              refine W.region_k fun K hK => ?_
              simp (disch := omega) only [↓RU, RV, RH, ↓reduceIte, Nat.reduceEqDiff, reduceCtorEq, if_pos, w64, ↓RS, RG, Nat.reduceAdd, Nat.reduceMul, Nat.reduceLeDiff, tyint]
              refine hK _ _ ?_
              clear hK K
              refine XThen.norm ?_
              refine ⟨(rP p).length - (c + 1), by omega, 0, c + 1, t2, rfl, by omega, ?_, rfl⟩
              simp [Env.put, Env.of]
          · skip
            have hac := g5 hbc
            simp (disch := omega) only [↓RU, RV, RH, ↓reduceIte, Nat.reduceEqDiff, reduceCtorEq, if_pos, List.append_nil, ↓RS, RG, Nat.reduceAdd, Nat.reduceMul, Nat.reduceLeDiff, hbc, hac]
            refine CallR.pc (orderLeft_pc hs b c) rfl (.inl rfl) ?_
            simp (disch := omega) only [↓RU, RV, RH, ↓reduceIte, Nat.reduceEqDiff, reduceCtorEq, if_pos, List.append_nil, ↓RS, RG, Nat.reduceAdd, Nat.reduceMul, Nat.reduceLeDiff, hbc, hac]
            refine CallR.pc (orderLeft_pc hs a c) rfl (.inl rfl) ?_
            simp (disch := omega) only [↓RU, RV, RH, ↓reduceIte, Nat.reduceEqDiff, reduceCtorEq, if_pos, List.append_nil, ↓RS, RG, Nat.reduceAdd, Nat.reduceMul, Nat.reduceLeDiff, hbc, hac]
            refine hK _ _ ?_
            clear hK K
            refine W.cond rfl (fun h3 => ?_) (fun h3 => ?_)
            · try simp only [RL] at h3
              exact absurd h3 (by simp)
            · try simp only [RL] at h3
              refine W.skip ?_
              refine XBlock.norm ?_
              refine XThen.norm ?_
              refine W.region_k fun K hK => ?_
              simp (disch := omega) only [↓RU, RV, RH, ↓reduceIte, Nat.reduceEqDiff, reduceCtorEq, if_pos, w64, ↓RS, RG, Nat.reduceAdd, Nat.reduceMul, Nat.reduceLeDiff, tyint]
              refine hK _ _ ?_
              clear hK K
              refine XThen.norm ?_
              refine ⟨(rP p).length - (c + 1), by omega, 0, c + 1, t2, rfl, by omega, ?_, rfl⟩
              simp [Env.put, Env.of]
        · try simp only [RL] at h2
          refine W.exit ?_
          refine XThen.exit ?_
          refine XThen.exit ?_
          refine XBlock.hit ?_
          refine XThen.norm ?_
          refine W.seq_region fun K hK => ?_
          simp (disch := omega) only [↓RU, RV, RH, ↓reduceIte, Nat.reduceEqDiff, reduceCtorEq, if_pos, List.append_nil, ↓RS, RG, Nat.reduceAdd, Nat.reduceMul, Nat.reduceLeDiff, g1, g2, g3]
          refine CallR.pc (orderLeft_pc hs b a) rfl (.inl rfl) ?_
          simp (disch := omega) only [↓RU, RV, RH, ↓reduceIte, Nat.reduceEqDiff, reduceCtorEq, if_pos, List.append_nil, ↓RS, RG, Nat.reduceAdd, Nat.reduceMul, Nat.reduceLeDiff, g1, g2, g3]
          refine CallR.pc (orderAbove_pc hs a b) rfl (.inl rfl) ?_
          simp (disch := omega) only [↓RU, RV, RH, ↓reduceIte, Nat.reduceEqDiff, reduceCtorEq, if_pos, List.append_nil, ↓RS, RG, Nat.reduceAdd, Nat.reduceMul, Nat.reduceLeDiff, g1, g2, g3]
          refine CallR.pc (orderAbove_pc hs b a) rfl (.inl rfl) ?_
          simp (disch := omega) only [↓RU, RV, RH, ↓reduceIte, Nat.reduceEqDiff, reduceCtorEq, if_pos, List.append_nil, ↓RS, RG, Nat.reduceAdd, Nat.reduceMul, Nat.reduceLeDiff, g1, g2, g3]
          refine hK _ _ ?_
          clear hK K
          refine W.ret ?_
          refine BodyQ.ret rfl ?_
          rfl

end Fw
end Go.Proofs.Ytmhcknpjgikgmaa

/-! Arguments of laws as plain data. -/
namespace Go.Proofs.Ytmhcknpjgikgmaa
namespace Fw
open Go Go.ChangeShapes Go.WideShapes Go.ChangeAt Go.RowKit

set_option maxRecDepth 100000 in
theorem slice_at {W : World} {base : Nat} {t e : TypeId} {a : Addr} {len cap : Nat} (ht : Try.prog.underlying t = some (.slice e)) (hval : Value.okWide Try.prog W .any base t (.slice (some a) len cap)) : a.spot = none ∧ a.block < W.heap.size := by
  simp only [Value.okWide, ht, Cell.okWide, Cell.ok] at hval
  obtain ⟨-, -, -, hsp, row, cells, hsh, -⟩ := hval
  refine ⟨hsp, ?_⟩
  unfold World.shape? at hsh
  rcases Nat.lt_or_ge a.block W.heap.size with h | h
  · exact h
  · rw [Array.getElem?_eq_none h] at hsh; cases hsh
set_option maxRecDepth 100000 in
theorem vi_strs {H : Type} {enc : TypeId × Value → H} {W : World} {base : Nat} {v : Value} {d : DataW H} {ps : List MemPlace} (hval : Value.okWide Try.prog W .any base 23 v) (h : DataW.Trod enc Try.prog W 0 (fun _ => true) true 23 v d ps) :
    ∃ p : List Txt, VI W.heap (fun b => b < W.heap.size) (eStrs p) v ∧ p.length ≤ 9223372036854775807 ∧ ∀ r ∈ p, r.length ≤ 9223372036854775807 := by
  obtain ⟨a0, len, cap, rfl⟩ := okWide_slice Try.underlying23 hval
  obtain ⟨fuel, hf⟩ := h
  rcases open_strings Try.underlying23 Try.underlying9 (by kernel_rfl) hf with ⟨hcs, hx⟩ | ⟨a, len', cap', ss, hcs, -, hl, hm, hz, hx, hcell, hsz⟩
  · simp [Value.cells] at hcs
    obtain ⟨rfl, rfl, rfl⟩ := hcs
    exact ⟨[], .sl0, by simp, by simp⟩
  · simp [Value.cells] at hcs
    obtain ⟨rfl, rfl, rfl⟩ := hcs
    obtain ⟨hsp, hlt⟩ := slice_at Try.underlying23 hval
    obtain ⟨b, off, spot⟩ := a
    simp only at hsp hlt
    subst hsp
    simp only [if_true] at hz
    have hml : maxLen ≤ 9223372036854775807 := by decide
    have hlen : ((ss.take len).map fun s : ByteArray => s.data.toList).length = len := by simp; omega
    have hget : ∀ (i : Nat) q, ((ss.take len).map fun s : ByteArray => s.data.toList)[i]? = some q → i < len ∧ q = (ss.getD i ByteArray.empty).data.toList := by
      intro i q hq
      rw [List.getElem?_map, Option.map_eq_some_iff] at hq
      obtain ⟨s, hs, rfl⟩ := hq
      have hi := len_of hs
      simp only [List.length_take] at hi
      rw [List.getElem?_take_of_lt (by omega)] at hs
      refine ⟨by omega, ?_⟩
      rw [List.getD_eq_getElem?_getD, hs]; rfl
    refine ⟨(ss.take len).map fun s => s.data.toList, ?_, by rw [hlen]; omega, fun r hr => ?_⟩
    · show VI _ _ (.sl (((ss.take len).map fun s : ByteArray => s.data.toList).map .str) ((ss.take len).map fun s : ByteArray => s.data.toList).length) _
      rw [hlen]
      refine .sl _ _ b off cap (fun i => .string (ss.getD i ByteArray.empty)) (fun _ => hlt) hl (fun i q hq => ?_) (fun i q hq => ?_)
      · rw [List.getElem?_map, Option.map_eq_some_iff] at hq
        obtain ⟨x, hx1, rfl⟩ := hq
        obtain ⟨hi, rfl⟩ := hget i x hx1
        refine ⟨rfl, ?_⟩
        rw [← cellH_eq]
        have := hcell i (by omega)
        rwa [add_lit] at this
      · rw [List.getElem?_map, Option.map_eq_some_iff] at hq
        obtain ⟨x, hx1, rfl⟩ := hq
        obtain ⟨hi, rfl⟩ := hget i x hx1
        exact .str _ _ rfl
    · obtain ⟨s, hs, rfl⟩ := List.mem_map.1 hr
      have := hsz s (List.mem_of_mem_take hs)
      have e : s.data.toList.length = s.size := Array.length_toList
      rw [e]; omega
set_option maxRecDepth 100000 in
theorem vi_ints {H : Type} {enc : TypeId × Value → H} {W : World} {base : Nat} {v : Value} {d : DataW H} {ps : List MemPlace} (hval : Value.okWide Try.prog W .any base 30 v) (h : DataW.Trod enc Try.prog W 0 (fun _ => true) true 30 v d ps) :
    ∃ p : List Int, VI W.heap (fun b => b < W.heap.size) (eInts p) v := by
  obtain ⟨a0, len, cap, rfl⟩ := okWide_slice Try.underlying30 hval
  obtain ⟨fuel, hf⟩ := h
  rcases open_ints Try.underlying30 Try.underlying3 (by kernel_rfl) hf with ⟨hcs, hx⟩ | ⟨a, len', cap', zs, hcs, -, hl, hm, hz, hx, hcell, hwf⟩
  · simp [Value.cells] at hcs
    obtain ⟨rfl, rfl, rfl⟩ := hcs
    exact ⟨[], .sl0⟩
  · simp [Value.cells] at hcs
    obtain ⟨rfl, rfl, rfl⟩ := hcs
    obtain ⟨hsp, hlt⟩ := slice_at Try.underlying30 hval
    obtain ⟨b, off, spot⟩ := a
    simp only at hsp hlt
    subst hsp
    simp only [if_true] at hz
    have hlen : (zs.take len).length = len := by simp; omega
    refine ⟨zs.take len, ?_⟩
    show VI _ _ (.sl ((zs.take len).map (.int .i64)) (zs.take len).length) _
    rw [hlen]
    refine .sl _ _ b off cap (fun i => .int .i64 (zs.getD i 0)) (fun _ => hlt) hl (fun i q hq => ?_) (fun i q hq => ?_)
    · rw [List.getElem?_map, Option.map_eq_some_iff] at hq
      obtain ⟨x, hx1, rfl⟩ := hq
      have hi := len_of hx1
      refine ⟨rfl, ?_⟩
      rw [← cellH_eq]
      have := hcell i (by omega)
      rwa [add_lit] at this
    · rw [List.getElem?_map, Option.map_eq_some_iff] at hq
      obtain ⟨x, hx1, rfl⟩ := hq
      have hi := len_of hx1
      rw [List.getElem?_take_of_lt (by omega)] at hx1
      rw [List.getD_eq_getElem?_getD, hx1]
      exact .int _ _
end Fw
end Go.Proofs.Ytmhcknpjgikgmaa

/-! A slice of bytes as an argument: plain data. -/
namespace Go.Proofs.Ytmhcknpjgikgmaa
namespace Fw
open Go Go.ChangeShapes Go.WideShapes Go.ChangeAt Go.RowKit

set_option maxRecDepth 100000 in
theorem vi_bytes {H : Type} {enc : TypeId × Value → H} {W : World} {base : Nat} {v : Value} {d : DataW H} {ps : List MemPlace} (hval : Value.okWide Try.prog W .any base 22 v) (h : DataW.Trod enc Try.prog W 0 (fun _ => true) true 22 v d ps) :
    ∃ p : Txt, VI W.heap (fun b => b < W.heap.size) (.sl (p.map eB) p.length) v ∧ p.length ≤ 9223372036854775807 := by
  obtain ⟨a0, len, cap, rfl⟩ := okWide_slice Try.underlying22 hval
  obtain ⟨fuel, hf⟩ := h
  rcases open_ints Try.underlying22 Try.underlying5 (by kernel_rfl) hf with ⟨hcs, hx⟩ | ⟨a, len', cap', zs, hcs, -, hl, hm, hz, hx, hcell, hwf⟩
  · simp [Value.cells] at hcs
    obtain ⟨rfl, rfl, rfl⟩ := hcs
    exact ⟨[], .sl0, by simp⟩
  · simp [Value.cells] at hcs
    obtain ⟨rfl, rfl, rfl⟩ := hcs
    obtain ⟨hsp, hlt⟩ := slice_at Try.underlying22 hval
    obtain ⟨b, off, spot⟩ := a
    simp only at hsp hlt
    subst hsp
    simp only [if_true] at hz
    have hml : maxLen ≤ 9223372036854775807 := by decide
    have hlen : ((zs.take len).map fun n : Int => UInt8.ofNat n.toNat).length = len := by simp; omega
    have hget : ∀ (i : Nat) c, ((zs.take len).map fun n : Int => UInt8.ofNat n.toNat)[i]? = some c → i < len ∧ (c.toNat : Int) = zs.getD i 0 := by
      intro i c hc
      rw [List.getElem?_map, Option.map_eq_some_iff] at hc
      obtain ⟨z, hz1, rfl⟩ := hc
      have hi := len_of hz1
      simp only [List.length_take] at hi
      rw [List.getElem?_take_of_lt (by omega)] at hz1
      refine ⟨by omega, ?_⟩
      rw [List.getD_eq_getElem?_getD, hz1, Option.getD_some]
      have hw := hwf z (List.mem_of_getElem? hz1)
      have hz8 : 0 ≤ z ∧ z < 256 := by
        have e : IntKind.u8.min ≤ z ∧ z ≤ IntKind.u8.max := by simpa [Lit.wf] using hw
        have e1 : IntKind.u8.min = 0 := by decide
        have e2 : IntKind.u8.max = 255 := by decide
        omega
      have e3 : (UInt8.ofNat z.toNat).toNat = z.toNat % 256 := rfl
      rw [e3]
      omega
    refine ⟨(zs.take len).map fun n : Int => UInt8.ofNat n.toNat, ?_, by rw [hlen]; omega⟩
    rw [hlen]
    refine .sl _ _ b off cap (fun i => .int .u8 (zs.getD i 0)) (fun _ => hlt) hl (fun i q hq => ?_) (fun i q hq => ?_)
    · rw [List.getElem?_map, Option.map_eq_some_iff] at hq
      obtain ⟨c, hc, rfl⟩ := hq
      obtain ⟨hi, -⟩ := hget i c hc
      refine ⟨rfl, ?_⟩
      rw [← cellH_eq]
      have := hcell i (by omega)
      rwa [add_lit] at this
    · rw [List.getElem?_map, Option.map_eq_some_iff] at hq
      obtain ⟨c, hc, rfl⟩ := hq
      obtain ⟨-, e⟩ := hget i c hc
      show VI _ _ (.int .u8 (c.toNat : Int)) _
      rw [e]
      exact .int _ _
end Fw
end Go.Proofs.Ytmhcknpjgikgmaa

/-! Rooms that are left of others are not above them: the law FnLeft answers true for all codes. No condition. -/
namespace Go.Proofs.Ytmhcknpjgikgmaa
open Go Go.ChangeShapes Go.WideShapes Go.ChangeAt Go.RowKit Fw

theorem Try.ownRh : ownKnob Try.prog.godebug = none := by kernel_rfl
theorem Try.laidOutRh : laidOutB Try.prog = true := by kernel_rfl

set_option maxRecDepth 100000 in
theorem rh_lifted (os : Os) (started : os.Started) (H : Type) (enc : TypeId × Value → H) :
    ReturnsInHanded {} Try.checked os 3 .any (Rows.fnLeftSpec.pre6 enc Try.prog Try.f3 Rows.fnLeftRow.domain false) (Rows.fnLeftSpec.post enc Try.prog Try.f3 false true false false) := by
  refine returnsInHanded_of_change (C := Try.checked) Try.ownRh started (by kernel_rfl) Try.func3
    (ChangeSpec.witness6 (enc := enc) (C := Try.checked) false ⟨#[], #[.slice none 0 0], []⟩ 8 (by kernel_rfl) (by kernel_rfl) (by kernel_rfl) (by kernel_rfl)) ?_
  intro W base args ds gs before hval0 hW hcnd _
  have hval : ∀ (j : Nat) t v, Try.f3.params[j]? = some t → args[j]? = some v → Value.okWide Try.prog W .any base t v := hval0
  have hW' := hW
  obtain ⟨p, q, hA0, hV, rfl, hfz, hnd⟩ := hW
  have hA : DataW.TrodAll enc Try.prog W 0 (fun _ => true) true Try.f3.params.toList args.toList ds p := hA0
  rw [Try.params3] at hA hval
  obtain ⟨v0, d0, rfl, rfl, h0⟩ := trodAll_one hA
  obtain ⟨rfl, rfl⟩ := trodVars_none hV
  obtain ⟨l0, i0, b0⟩ := vi_bytes (hval 0 _ v0 rfl rfl) h0
  have hlt : ∀ x ∈ p, x.block < W.heap.size := fun x hx => hW'.lt x (by simp [hx])
  refine ((left_law b0).run (fun b => b < W.heap.size) W #[v0] (fun _ h => h) rfl ?_).mono ?_
  · rintro (_ | i) p c hp hc
    · cases hp; cases hc; exact i0
    · simp at hp
  · rintro e W' ⟨cv, rfl, hB, hr⟩
    have hcv : cv = .bool true := by cases hr; rfl
    subst hcv
    have t0 := Below.trod Try.laidOutRh (by kernel_rfl) (of_decide_eq_true (by kernel_rfl)) h0 hB fun x hx => hlt x (by simp [hx])
    refine ⟨_, rfl, _, _, _, [], p, [], hW', ?_, ?_, ?_, hB.frame _, fun h => by cases h⟩
    · exact trodAll_mk1 (shut_bool Try.underlying4 true)
    · rw [Try.params3]; exact trodAll_mk1 t0
    · trivial
theorem rh_holds : Rows.FnLeftSaid :=
  OpenClaim.holds_of_wide 3 Try.f3 rfl rfl rfl rfl rfl rfl rfl ⟨rfl, rfl, rfl, rfl, rfl⟩ rfl rfl rfl rfl rfl (by kernel_rfl) Try.func3 (by kernel_rfl)
    (of_decide_eq_true (by kernel_rfl)) (by unfold Func.isWrapper; first | (rw [if_pos (by decide +kernel)]; kernel_rfl) | (rw [if_neg (by decide +kernel)]; exact ⟨rfl, rfl⟩))
    (fun os started H enc _ => rh_lifted os started H enc)
end Go.Proofs.Ytmhcknpjgikgmaa
