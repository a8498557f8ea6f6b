/- Rooms left of others are ahead of them in both orders: the law FnKindOrders answers true for all codes. No condition. -/
import Derived.Test.YtcglmbijpjhbmaaGreatJ5
import Derived.Test.YtcglmbijpjhbmaaGreatJ3
import Derived.Test.YtcglmbijpjhbmaaGreatJ4
set_option linter.all false
/-! Drawing plans, gone through, continued. -/
namespace Go.Proofs.YtcglmbijpjhbmaaGreat
namespace Fw
open Go

theorem sm_set {p : List Txt} (h : Sm p) {i : Nat} {r : Txt} (hr : r.length ≤ 1048576) : Sm (p.set i r) := by
  refine ⟨by rw [List.length_set]; exact h.1, fun x hx => ?_⟩
  rcases List.mem_or_eq_of_mem_set hx with k | rfl
  · exact h.2 x k
  · exact hr
theorem set_hd {p : List Txt} {x : Txt} (h : 0 < p.length) : PV.str x :: List.drop 1 (p.map PV.str) = (p.set 0 x).map .str := by cases p with | nil => simp at h | cons a p => simp
theorem one_add {k : Nat} : (1 : Int) + (k : Int) = ((1 + k : Nat) : Int) := by omega

theorem l91Some_ev {code : Txt} {q vr t : Nat} (hc : code.length ≤ 1048576) (hq : q ≤ 700000) {rows cols : Nat} (h1 : 1 ≤ rows) (h2 : rows ≤ 6) (w1 : 1 ≤ cols) (w2 : cols ≤ 6) : Ev Tryz.prog 122 [.ref 0 vr 0, .int .i64 rows, .int .i64 cols] ⟨[.arr vr 119 2 [eBy code, .int .i64 (q : Int)]], t⟩ fun v S => ∃ (p2 : List Txt) (q2 t2 : Nat), v = eStrs p2 ∧ Sm p2 ∧ p2.length ≤ 6 ∧ q2 ≤ q + 200 ∧ S = ⟨[.arr vr 119 2 [eBy code, .int .i64 (q2 : Int)]], t2⟩ := by
  refine Ev.of ⟨Tryz.func122, by kernel_rfl, rfl, by kernel_rfl⟩ tabOk mixed (by show 3 ≤ Tryz.f122.ntmps; decide) ?_
  refine W.seq_region fun K hK => ?_
  simp (disch := omega) only [↓RU, RV, RH, ↓reduceIte, Nat.reduceEqDiff, reduceCtorEq, if_pos, ↓RS, RG, Nat.reduceAdd, Nat.reduceMul, Nat.reduceLeDiff]
  refine hK _ _ ?_
  clear hK K
  refine W.seq_region fun K hK => ?_
  simp (disch := omega) only [↓RU, RV, RH, ↓reduceIte, Nat.reduceEqDiff, reduceCtorEq, if_pos, List.append_nil, w64, ↓RS, RG, Nat.reduceAdd, Nat.reduceMul, Nat.reduceLeDiff, tyint]
  refine CallR.ev (pick_ev hc (by omega) (rows : Int) (by omega) (by omega)) ?_
  rintro _ _ ⟨k1, rfl, -, hk1, rfl⟩
  have hk1b := hk1 (by omega)
  simp (disch := omega) only [↓RU, RV, RH, ↓reduceIte, Nat.reduceEqDiff, reduceCtorEq, if_pos, List.append_nil, w64, ↓RS, RG, Nat.reduceAdd, Nat.reduceMul, Nat.reduceLeDiff, tyint, one_add]
  refine hK _ _ ?_
  clear hK K
  refine W.seq_region fun K hK => ?_
  simp (disch := omega) only [↓RU, RV, RH, ↓reduceIte, Nat.reduceEqDiff, reduceCtorEq, if_pos, List.append_nil, w64, ↓RS, RG, Nat.reduceAdd, Nat.reduceMul, Nat.reduceLeDiff, tyint]
  refine CallR.ev (pick_ev hc (by omega) (cols : Int) (by omega) (by omega)) ?_
  rintro _ _ ⟨k2, rfl, -, hk2, rfl⟩
  have hk2b := hk2 (by omega)
  simp (disch := omega) only [↓RU, RV, RH, ↓reduceIte, Nat.reduceEqDiff, reduceCtorEq, if_pos, List.append_nil, w64, ↓RS, RG, Nat.reduceAdd, Nat.reduceMul, Nat.reduceLeDiff, tyint, one_add]
  refine CallR.ev (l91Plan_ev (q := q + 1 + 1) hc (by omega) (nh := 1 + k1) (nw := 1 + k2) (by omega) (by omega) (by omega) (by omega)) ?_
  rintro _ _ ⟨p2, q2, t2, rfl, hp2, hl2, hq2, rfl⟩
  simp (disch := omega) only [↓RU, RV, RH, ↓reduceIte, Nat.reduceEqDiff, reduceCtorEq, if_pos, List.append_nil, w64, ↓RS, RG, Nat.reduceAdd, Nat.reduceMul, Nat.reduceLeDiff, tyint]
  refine hK _ _ ?_
  clear hK K
  obtain ⟨ps1, ps2, ps3⟩ := plan_small hp2
  have hsm := plan_sm hp2
  obtain ⟨nh, hnh⟩ : ∃ nh : Nat, 1 + k1 = nh := ⟨_, rfl⟩
  simp only [hnh] at hl2 ⊢
  refine W.joinZ [8] (fun vs S => ∃ (p3 : List Txt) (q3 tk : Nat), Sm p3 ∧ p3.length ≤ 6 ∧ q3 ≤ q + 200 ∧ vs = [eStrs p3] ∧ S = ⟨[.arr vr 119 2 [eBy code, .int .i64 (q3 : Int)]], tk⟩) ?_ ?_
  ·
    refine W.seq_region fun K hK => ?_
    simp (disch := omega) only [↓RU, RV, RH, ↓reduceIte, Nat.reduceEqDiff, reduceCtorEq, if_pos, List.append_nil, ↓RS, RG, Nat.reduceAdd, Nat.reduceMul, Nat.reduceLeDiff]
    refine CallR.ev (pick_ev hc (by omega) 50 (by omega) (by omega)) ?_
    rintro _ _ ⟨k3, rfl, -, hk3, rfl⟩
    simp (disch := omega) only [↓RU, RV, RH, ↓reduceIte, Nat.reduceEqDiff, reduceCtorEq, if_pos, List.append_nil, ↓RS, RG, Nat.reduceAdd, Nat.reduceMul, Nat.reduceLeDiff]
    refine hK _ _ ?_
    clear hK K
    refine W.block ?_
    refine W.seq_region fun K hK => ?_
    simp (disch := omega) only [↓RU, RV, RH, ↓reduceIte, Nat.reduceEqDiff, reduceCtorEq, if_pos, w64, ↓RS, RG, Nat.reduceAdd, Nat.reduceMul, Nat.reduceLeDiff, tyint]
    refine hK _ _ ?_
    clear hK K
    refine W.cond rfl (fun h0 => ?_) (fun h0 => ?_)
    · try simp only [RL] at h0
      obtain ⟨row, hrow, hrm⟩ := get_of (show nh - 1 < p2.length by omega)
      have hr6 := (ps3 row hrm).2
      refine W.seq_region fun K hK => ?_
      simp (disch := omega) only [↓RU, RV, RH, ↓reduceIte, Nat.reduceEqDiff, reduceCtorEq, if_pos, ↓RS, RG, Nat.reduceAdd, Nat.reduceMul, Nat.reduceLeDiff, tyLstring, tystring]
      refine hK _ _ ?_
      clear hK K
      refine W.region_k fun K hK => ?_
      simp (disch := omega) only [↓RU, RV, RH, ↓reduceIte, Nat.reduceEqDiff, reduceCtorEq, if_pos, w64, ↓RS, RG, Nat.reduceAdd, Nat.reduceMul, Nat.reduceLeDiff, tyLstring, tyint, tystring, toNat_pred, hrow, pStr, set_spl, set_str, cells_str, List.length_cons, List.length_nil]
      refine hK _ _ ?_
      clear hK K
      refine XBlock.norm ?_
      refine XThen.norm ?_
      have hPs : Sm (p2.set (nh - 1) (row ++ [97])) := sm_set hsm (by simp; omega)
      have hPl : (p2.set (nh - 1) (row ++ [97])).length = p2.length := by simp
      generalize p2.set (nh - 1) (row ++ [97]) = P at hPs hPl ⊢
      have htk : (P.map PV.str).take p2.length = P.map .str := List.take_of_length_le (by simp [hPl])
      refine ⟨1, [eStrs P], ⟨[.arr vr 119 2 [eBy code, .int .i64 ((q2 + 1 : Nat) : Int)]], t2 + 1 + 1⟩, ?_, ?_, P, q2 + 1, t2 + 1 + 1, hPs, by omega, by omega, rfl, rfl⟩
      · simp [-List.mapM_map, Store.frz, frzObs, frzOb, frz_eInts, frz_loc, rfz_loc, frz_int, frz_sl, frz_ints, rfz_ints, frz_strs, frz_bytes, rfz_bytes, rfz_str, rfz_bool, frz_str, frz_bool, Env.put, Env.of, argEnv, rfz_int, List.mapM_append, List.mapM_cons, frz_ref0, tk_strs, rfz_tstr, htk, hPl]
      · simp [-List.mapM_map, Store.frz, frzObs, frzOb, frz_eInts, frz_loc, rfz_loc, frz_int, frz_sl, frz_ints, rfz_ints, frz_strs, frz_bytes, rfz_bytes, rfz_str, rfz_bool, frz_str, frz_bool, Env.put, Env.of, argEnv, rfz_int, List.mapM_append, List.mapM_cons, frz_ref0, tk_strs, rfz_tstr]
    · try simp only [RL] at h0
      refine W.seq_region fun K hK => ?_
      simp (disch := omega) only [↓RU, RV, RH, ↓reduceIte, Nat.reduceEqDiff, reduceCtorEq, if_pos, w64, ↓RS, RG, Nat.reduceAdd, Nat.reduceMul, Nat.reduceLeDiff, tyint]
      refine hK _ _ ?_
      clear hK K
      refine W.cond rfl (fun h1 => ?_) (fun h1 => ?_)
      · try simp only [RL] at h1
        obtain ⟨row, hrow, hrm⟩ := get_of (show 0 < p2.length by omega)
        have hr6 := ps3 row hrm
        have hdl : (row.drop 1).length ≤ 6 := by rw [List.length_drop]; omega
        refine W.seq_region fun K hK => ?_
        simp (disch := omega) only [↓RU, RV, RH, ↓reduceIte, Nat.reduceEqDiff, reduceCtorEq, if_pos, ↓RS, RG, Nat.reduceAdd, Nat.reduceMul, Nat.reduceLeDiff, tyLstring, tystring]
        refine hK _ _ ?_
        clear hK K
        refine W.region_k fun K hK => ?_
        simp (disch := omega) only [↓RU, RV, RH, ↓reduceIte, Nat.reduceEqDiff, reduceCtorEq, if_pos, Option.map_none, w64, ↓RS, RG, Nat.reduceAdd, Nat.reduceMul, Nat.reduceLeDiff, tyLstring, tystring, hrow, pStr, set_spl, set_str, cells_str, List.length_cons, List.length_nil, Int.toNat_zero, Int.reduceToNat, List.take_length, Nat.zero_mul, Nat.zero_add]
        refine hK _ _ ?_
        clear hK K
        rw [set_hd (show 0 < p2.length by omega)]
        refine XBlock.norm ?_
        refine XThen.norm ?_
        have hPs : Sm (p2.set 0 (122 :: row.drop 1)) := sm_set hsm (by simp; omega)
        have hPl : (p2.set 0 (122 :: row.drop 1)).length = p2.length := by simp
        generalize p2.set 0 (122 :: row.drop 1) = P at hPs hPl ⊢
        have htk : (P.map PV.str).take p2.length = P.map .str := List.take_of_length_le (by simp [hPl])
        refine ⟨1, [eStrs P], ⟨[.arr vr 119 2 [eBy code, .int .i64 ((q2 + 1 : Nat) : Int)]], t2 + 1 + 1⟩, ?_, ?_, P, q2 + 1, t2 + 1 + 1, hPs, by omega, by omega, rfl, rfl⟩
        · simp [-List.mapM_map, Store.frz, frzObs, frzOb, frz_eInts, frz_loc, rfz_loc, frz_int, frz_sl, frz_ints, rfz_ints, frz_strs, frz_bytes, rfz_bytes, rfz_str, rfz_bool, frz_str, frz_bool, Env.put, Env.of, argEnv, rfz_int, List.mapM_append, List.mapM_cons, frz_ref0, tk_strs, rfz_tstr, htk, hPl]
        · simp [-List.mapM_map, Store.frz, frzObs, frzOb, frz_eInts, frz_loc, rfz_loc, frz_int, frz_sl, frz_ints, rfz_ints, frz_strs, frz_bytes, rfz_bytes, rfz_str, rfz_bool, frz_str, frz_bool, Env.put, Env.of, argEnv, rfz_int, List.mapM_append, List.mapM_cons, frz_ref0, tk_strs, rfz_tstr]
      · try simp only [RL] at h1
        refine W.skip ?_
        refine XBlock.norm ?_
        refine XThen.norm ?_
        have hPs := hsm
        have hPl : p2.length = p2.length := rfl
        have htk : True := trivial
        refine ⟨1, [eStrs p2], ⟨[.arr vr 119 2 [eBy code, .int .i64 ((q2 + 1 : Nat) : Int)]], t2⟩, ?_, ?_, p2, q2 + 1, t2, hPs, by omega, by omega, rfl, rfl⟩
        · simp [-List.mapM_map, Store.frz, frzObs, frzOb, frz_eInts, frz_loc, rfz_loc, frz_int, frz_sl, frz_ints, rfz_ints, frz_strs, frz_bytes, rfz_bytes, rfz_str, rfz_bool, frz_str, frz_bool, Env.put, Env.of, argEnv, rfz_int, List.mapM_append, List.mapM_cons, frz_ref0, tk_strs, rfz_tstr, htk, hPl]
        · simp [-List.mapM_map, Store.frz, frzObs, frzOb, frz_eInts, frz_loc, rfz_loc, frz_int, frz_sl, frz_ints, rfz_ints, frz_strs, frz_bytes, rfz_bytes, rfz_str, rfz_bool, frz_str, frz_bool, Env.put, Env.of, argEnv, rfz_int, List.mapM_append, List.mapM_cons, frz_ref0, tk_strs, rfz_tstr]
  rintro vs S - ⟨p3, q3, tk, hs3, hl3, hq3, rfl, rfl⟩
  refine W.seq_region fun K hK => ?_
  simp (disch := omega) only [↓RU, RV, RH, ↓reduceIte, Nat.reduceEqDiff, reduceCtorEq, if_pos, ↓RS, RG, Nat.reduceAdd, Nat.reduceMul, Nat.reduceLeDiff]
  refine hK _ _ ?_
  clear hK K
  refine W.ret ?_
  refine BodyQ.ret rfl ?_
  exact ⟨_, p3, q3, tk, rfl, hs3, hl3, hq3, take_all⟩

theorem l91Plain_ev {code : Txt} {q vr t : Nat} (hc : code.length ≤ 1048576) (hq : q ≤ 600000) {rows cols : Nat} (h1 : 1 ≤ rows) (h2 : rows ≤ 6) (w1 : 1 ≤ cols) (w2 : cols ≤ 6) : Ev Tryz.prog 97 [.ref 0 vr 0, .int .i64 rows, .int .i64 cols] ⟨[.arr vr 119 2 [eBy code, .int .i64 (q : Int)]], t⟩ fun v S => ∃ (p2 : List Txt) (q2 t2 : Nat), v = eStrs p2 ∧ Sm p2 ∧ p2.length ≤ 6 ∧ q2 ≤ q + 1000 ∧ S = ⟨[.arr vr 119 2 [eBy code, .int .i64 (q2 : Int)]], t2⟩ := by
  refine Ev.of ⟨Tryz.func97, by kernel_rfl, rfl, by kernel_rfl⟩ tabOk mixed (by show 3 ≤ Tryz.f97.ntmps; decide) ?_
  refine W.seq_region fun K hK => ?_
  simp (disch := omega) only [↓RU, RV, RH, ↓reduceIte, Nat.reduceEqDiff, reduceCtorEq, if_pos, ↓RS, RG, Nat.reduceAdd, Nat.reduceMul, Nat.reduceLeDiff]
  refine hK _ _ ?_
  clear hK K
  refine W.seq_region fun K hK => ?_
  simp (disch := omega) only [↓RU, RV, RH, ↓reduceIte, Nat.reduceEqDiff, reduceCtorEq, if_pos, List.append_nil, ↓RS, RG, Nat.reduceAdd, Nat.reduceMul, Nat.reduceLeDiff]
  refine CallR.ev (l91Some_ev (q := q) hc (by omega) h1 h2 w1 w2) ?_
  rintro _ _ ⟨p3, q3, t3, rfl, hs3, hl3, hq3, rfl⟩
  simp (disch := omega) only [↓RU, RV, RH, ↓reduceIte, Nat.reduceEqDiff, reduceCtorEq, if_pos, List.append_nil, ↓RS, RG, Nat.reduceAdd, Nat.reduceMul, Nat.reduceLeDiff]
  refine hK _ _ ?_
  clear hK K
  refine W.seq ?_
  refine W.seq_region fun K hK => ?_
  simp (disch := omega) only [↓RU, RV, RH, ↓reduceIte, Nat.reduceEqDiff, reduceCtorEq, if_pos, ↓RS, RG, Nat.reduceAdd, Nat.reduceMul, Nat.reduceLeDiff]
  refine hK _ _ ?_
  clear hK K
  refine W.block ?_
  refine W.loop [0, 1, 2, 7, 8] (fun n vs S => ∃ (i : Nat) (p2 : List Txt) (q2 tk : Nat), n = 3 - i ∧ i ≤ 3 ∧ Sm p2 ∧ p2.length ≤ 6 ∧ q2 ≤ q + 200 + 200 * i ∧ vs = [.ref 0 vr 0, .int .i64 rows, .int .i64 cols, eStrs p2, .int .i64 i] ∧ S = ⟨[.arr vr 119 2 [eBy code, .int .i64 (q2 : Int)]], tk⟩) 3 ?_ ?_
  · refine ⟨1, 0, p3, q3, t3, rfl, by omega, hs3, hl3, by omega, ?_, rfl⟩
    simp [Env.put, Env.of, argEnv]
  rintro n vs S - ⟨i, p2, q2, tk, rfl, h_i, hs2, hl2, hq2, rfl, rfl⟩
  refine W.seq ?_
  refine W.seq_region fun K hK => ?_
  by_cases hi3 : i < 3
  · skip
    have hd : decide ((i : Int) < 3) = true := decide_eq_true (by omega)
    simp (disch := omega) only [↓RU, RV, RH, ↓reduceIte, Nat.reduceEqDiff, reduceCtorEq, if_pos, w64, List.append_nil, ↓RS, RG, Nat.reduceAdd, Nat.reduceMul, Nat.reduceLeDiff, tyint, hd]
    refine CallR.pc (sWallPlain_pc hs2) rfl (.inl rfl) ?_
    simp (disch := omega) only [↓RU, RV, RH, ↓reduceIte, Nat.reduceEqDiff, reduceCtorEq, if_pos, w64, List.append_nil, ↓RS, RG, Nat.reduceAdd, Nat.reduceMul, Nat.reduceLeDiff, tyint, hd]
    refine hK _ _ ?_
    clear hK K
    refine W.cond rfl (fun h => ?_) (fun h => ?_)
    · try simp only [RL] at h
      refine W.skip ?_
      refine XThen.norm ?_
      refine W.seq ?_
      refine W.block ?_
      refine W.region_k fun K hK => ?_
      simp (disch := omega) only [↓RU, RV, RH, ↓reduceIte, Nat.reduceEqDiff, reduceCtorEq, if_pos, List.append_nil, ↓RS, RG, Nat.reduceAdd, Nat.reduceMul, Nat.reduceLeDiff]
      refine CallR.ev (l91Some_ev (q := q2) hc (by omega) h1 h2 w1 w2) ?_
      rintro _ _ ⟨p3, q3, t3, rfl, hs3, hl3, hq3, rfl⟩
      simp (disch := omega) only [↓RU, RV, RH, ↓reduceIte, Nat.reduceEqDiff, reduceCtorEq, if_pos, List.append_nil, ↓RS, RG, Nat.reduceAdd, Nat.reduceMul, Nat.reduceLeDiff]
      refine hK _ _ ?_
      clear hK K
      refine XBlock.norm ?_
      refine XThen.norm ?_
      refine W.region_k fun K hK => ?_
      simp (disch := omega) only [↓RU, RV, RH, ↓reduceIte, Nat.reduceEqDiff, reduceCtorEq, if_pos, w64, ↓RS, RG, Nat.reduceAdd, Nat.reduceMul, Nat.reduceLeDiff, tyint]
      refine hK _ _ ?_
      clear hK K
      refine XThen.norm ?_
      refine ⟨3 - (i + 1), by omega, 1, i + 1, p3, q3, t3, rfl, by omega, hs3, hl3, by omega, ?_, rfl⟩
      simp [Env.put, Env.of]
    · try simp only [RL] at h
      refine W.exit ?_
      refine XThen.exit ?_
      refine XThen.exit ?_
      refine XBlock.hit ?_
      refine XThen.norm ?_
      refine W.seq_region fun K hK => ?_
      simp (disch := omega) only [↓RU, RV, RH, ↓reduceIte, Nat.reduceEqDiff, reduceCtorEq, if_pos, ↓RS, RG, Nat.reduceAdd, Nat.reduceMul, Nat.reduceLeDiff]
      refine hK _ _ ?_
      clear hK K
      refine W.ret ?_
      refine BodyQ.ret rfl ?_
      exact ⟨_, p2, q2, tk, rfl, hs2, hl2, by omega, take_all⟩
  · skip
    have hd : decide ((i : Int) < 3) = false := decide_eq_false (by omega)
    simp (disch := omega) only [↓RU, RV, RH, ↓reduceIte, Nat.reduceEqDiff, reduceCtorEq, if_pos, w64, List.append_nil, ↓RS, RG, Nat.reduceAdd, Nat.reduceMul, Nat.reduceLeDiff, tyint, hd]
    refine hK _ _ ?_
    clear hK K
    refine W.cond rfl (fun h => ?_) (fun h => ?_)
    · try simp only [RL] at h
      exact absurd h (by simp)
    · try simp only [RL] at h
      refine W.exit ?_
      refine XThen.exit ?_
      refine XThen.exit ?_
      refine XBlock.hit ?_
      refine XThen.norm ?_
      refine W.seq_region fun K hK => ?_
      simp (disch := omega) only [↓RU, RV, RH, ↓reduceIte, Nat.reduceEqDiff, reduceCtorEq, if_pos, ↓RS, RG, Nat.reduceAdd, Nat.reduceMul, Nat.reduceLeDiff]
      refine hK _ _ ?_
      clear hK K
      refine W.ret ?_
      refine BodyQ.ret rfl ?_
      exact ⟨_, p2, q2, tk, rfl, hs2, hl2, by omega, take_all⟩

theorem tdiv23 {k : Nat} : ((k : Nat) : Int).tdiv 23 = ((k / 23 : Nat) : Int) := (Int.ofNat_tdiv k 23).symm
theorem tw0 : ((23 : Int) = 0) = False := by simp

theorem l91Ordered_ev {code : Txt} (hc : code.length ≤ 1048576) : Ev Tryz.prog 89 [eBy code] ⟨[], 0⟩ fun v S => ∃ (p : List Txt) (a b : Int) (t : Nat), Sm p ∧ -300 ≤ a ∧ a ≤ 300 ∧ -300 ≤ b ∧ b ≤ 300 ∧ v = .tup [eStrs p, .int .i64 a, .int .i64 b] ∧ S = ⟨[], t⟩ := by
  refine Ev.of ⟨Tryz.func89, by kernel_rfl, rfl, by kernel_rfl⟩ tabOk mixed (by show 1 ≤ Tryz.f89.ntmps; decide) ?_
  refine W.seq_region fun K hK => ?_
  simp (disch := omega) only [↓RU, RV, RH, ↓reduceIte, Nat.reduceEqDiff, reduceCtorEq, if_pos, ↓RS, RG, Nat.reduceAdd, Nat.reduceMul, Nat.reduceLeDiff]
  refine hK _ _ ?_
  clear hK K
  refine W.seq_region fun K hK => ?_
  simp (disch := omega) only [↓RU, RV, RH, ↓reduceIte, Nat.reduceEqDiff, reduceCtorEq, if_pos, List.append_nil, ↓RS, RG, Nat.reduceAdd, Nat.reduceMul, Nat.reduceLeDiff, rdO]
  refine CallR.pn (l6Open_pn hc) rfl (.inr rfl) ?_
  simp (disch := omega) only [↓RU, RV, RH, ↓reduceIte, Nat.reduceEqDiff, reduceCtorEq, if_pos, List.append_nil, ↓RS, RG, Nat.reduceAdd, Nat.reduceMul, Nat.reduceLeDiff, rdO, rdO, RN]
  refine hK _ _ ?_
  clear hK K
  refine W.seq_region fun K hK => ?_
  have hc2 : (code.take 2000).length ≤ 1048576 := by rw [List.length_take]; omega
  generalize code.take 2000 = code2 at hc2 ⊢
  simp (disch := omega) only [↓RU, RV, RH, ↓reduceIte, Nat.reduceEqDiff, reduceCtorEq, if_pos, List.append_nil, ↓RS, RG, Nat.reduceAdd, Nat.reduceMul, Nat.reduceLeDiff]
  refine CallR.ev (l91Plain_ev (q := 0) (code := code2) hc2 (by omega) (rows := 5) (cols := 5) (by omega) (by omega) (by omega) (by omega)) ?_
  rintro _ _ ⟨p, q, t, rfl, hs, hl, hq, rfl⟩
  simp (disch := omega) only [↓RU, RV, RH, ↓reduceIte, Nat.reduceEqDiff, reduceCtorEq, if_pos, List.append_nil, ↓RS, RG, Nat.reduceAdd, Nat.reduceMul, Nat.reduceLeDiff]
  refine hK _ _ ?_
  clear hK K
  have hrb := l1Rooms_bound p
  refine W.seq_region fun K hK => ?_
  simp (disch := omega) only [↓RU, RV, RH, ↓reduceIte, Nat.reduceEqDiff, reduceCtorEq, if_pos, List.append_nil, w64, ↓RS, RG, Nat.reduceAdd, Nat.reduceMul, Nat.reduceLeDiff, tyint]
  refine CallR.pc (l1Rooms_pc hs) rfl (.inl rfl) ?_
  simp (disch := omega) only [↓RU, RV, RH, ↓reduceIte, Nat.reduceEqDiff, reduceCtorEq, if_pos, List.append_nil, w64, ↓RS, RG, Nat.reduceAdd, Nat.reduceMul, Nat.reduceLeDiff, tyint]
  refine CallR.ev (pick_ev (q := q) hc2 (by omega) (l1Rooms p) (by omega) (by omega)) ?_
  rintro _ _ ⟨k1, rfl, hk1z, hk1, rfl⟩
  simp (disch := omega) only [↓RU, RV, RH, ↓reduceIte, Nat.reduceEqDiff, reduceCtorEq, if_pos, List.append_nil, w64, ↓RS, RG, Nat.reduceAdd, Nat.reduceMul, Nat.reduceLeDiff, tyint, tdiv23, tw0]
  refine CallR.pc (l1Rooms_pc hs) rfl (.inl rfl) ?_
  simp (disch := omega) only [↓RU, RV, RH, ↓reduceIte, Nat.reduceEqDiff, reduceCtorEq, if_pos, List.append_nil, w64, ↓RS, RG, Nat.reduceAdd, Nat.reduceMul, Nat.reduceLeDiff, tyint]
  refine CallR.ev (pick_ev (q := q + 1) hc2 (by omega) 24 (by omega) (by omega)) ?_
  rintro _ _ ⟨k2, rfl, hk2z, hk2, rfl⟩
  simp (disch := omega) only [↓RU, RV, RH, ↓reduceIte, Nat.reduceEqDiff, reduceCtorEq, if_pos, List.append_nil, w64, ↓RS, RG, Nat.reduceAdd, Nat.reduceMul, Nat.reduceLeDiff, tyint, tdiv23, tw0]
  refine CallR.ev (pick_ev (q := q + 1 + 1) hc2 (by omega) (l1Rooms p + ((k2 / 23 : Nat) : Int)) (by omega) (by omega)) ?_
  rintro _ _ ⟨k3, rfl, hk3z, hk3, rfl⟩
  simp (disch := omega) only [↓RU, RV, RH, ↓reduceIte, Nat.reduceEqDiff, reduceCtorEq, if_pos, List.append_nil, w64, ↓RS, RG, Nat.reduceAdd, Nat.reduceMul, Nat.reduceLeDiff, tyint, tdiv23, tw0]
  refine CallR.ev (pick_ev (q := q + 1 + 1 + 1) hc2 (by omega) 24 (by omega) (by omega)) ?_
  rintro _ _ ⟨k4, rfl, hk4z, hk4, rfl⟩
  simp (disch := omega) only [↓RU, RV, RH, ↓reduceIte, Nat.reduceEqDiff, reduceCtorEq, if_pos, List.append_nil, w64, ↓RS, RG, Nat.reduceAdd, Nat.reduceMul, Nat.reduceLeDiff, tyint, tdiv23, tw0]
  refine hK _ _ ?_
  clear hK K
  refine W.ret ?_
  refine BodyQ.ret rfl ?_
  have hk1c := hk1
  have hk3c := hk3
  have hk4c := hk4 (by omega)
  refine ⟨0, p, (k1 : Int), (k3 : Int) - ((k4 / 23 : Nat) : Int), _, hs, by omega, by omega, by omega, by omega, rfl, rfl⟩

theorem drawKind_ev {code : Txt} (hc : code.length ≤ 1048576) : Ev Tryz.prog 49 [eBy code] ⟨[], 0⟩ fun v S => ∃ (p : List Txt) (a b : Int) (t : Nat), Sm p ∧ -300 ≤ a ∧ a ≤ 300 ∧ -300 ≤ b ∧ b ≤ 300 ∧ v = .tup [eStrs p, .int .i64 a, .int .i64 b] ∧ S = ⟨[], t⟩ := by
  refine Ev.of ⟨Tryz.func49, by kernel_rfl, rfl, by kernel_rfl⟩ tabOk mixed (by show 1 ≤ Tryz.f49.ntmps; decide) ?_
  refine W.seq_region fun K hK => ?_
  simp (disch := omega) only [↓RU, RV, RH, ↓reduceIte, Nat.reduceEqDiff, reduceCtorEq, if_pos, ↓RS, RG, Nat.reduceAdd, Nat.reduceMul, Nat.reduceLeDiff]
  refine hK _ _ ?_
  clear hK K
  refine W.seq_region fun K hK => ?_
  simp (disch := omega) only [↓RU, RV, RH, ↓reduceIte, Nat.reduceEqDiff, reduceCtorEq, if_pos, List.append_nil, ↓RS, RG, Nat.reduceAdd, Nat.reduceMul, Nat.reduceLeDiff]
  refine CallR.ev (l91Ordered_ev hc) ?_
  rintro _ _ ⟨p, a, b, t, hs, ha1, ha2, hb1, hb2, rfl, rfl⟩
  simp (disch := omega) only [↓RU, RV, RH, ↓reduceIte, Nat.reduceEqDiff, reduceCtorEq, if_pos, List.append_nil, ↓RS, RG, Nat.reduceAdd, Nat.reduceMul, Nat.reduceLeDiff]
  refine hK _ _ ?_
  clear hK K
  refine W.ret ?_
  refine BodyQ.ret rfl ?_
  exact ⟨0, p, a, b, _, hs, ha1, ha2, hb1, hb2, rfl, rfl⟩

end Fw
end Go.Proofs.YtcglmbijpjhbmaaGreat

/-! Drawing needs, gone through. -/
namespace Go.Proofs.YtcglmbijpjhbmaaGreat
namespace Fw
open Go

end Fw
end Go.Proofs.YtcglmbijpjhbmaaGreat

/-! Areas, gone through. -/
namespace Go.Proofs.YtcglmbijpjhbmaaGreat
namespace Fw
open Go

end Fw
end Go.Proofs.YtcglmbijpjhbmaaGreat

/-! Sizes in plain words: areas, places, slacks, longest rows. -/
namespace Go.Proofs.YtcglmbijpjhbmaaGreat
namespace Fw
open Go

section
variable {M : List (List Bool)} {ws : List Int} {n : Nat} {rk : Nat → Nat}
end
end Fw
end Go.Proofs.YtcglmbijpjhbmaaGreat

/-! What the laws of sizes ask, of plans in plain words. -/
namespace Go.Proofs.YtcglmbijpjhbmaaGreat
namespace Fw
open Go

end Fw
end Go.Proofs.YtcglmbijpjhbmaaGreat

/-! The law of areas, gone through. -/
namespace Go.Proofs.YtcglmbijpjhbmaaGreat
namespace Fw
open Go

theorem pEq_bb {S : Store} {a b : Bool} : pEq tab S 4 (.bool a) (.bool b) = some (a == b) := rfl
end Fw
end Go.Proofs.YtcglmbijpjhbmaaGreat

/-! The laws of left and above, gone through. -/
namespace Go.Proofs.YtcglmbijpjhbmaaGreat
namespace Fw
open Go

theorem askV_nat {p : List Txt} {M : List (List Bool)} {a b : Int} (h : askV p M a b = true) : ∃ a' b' : Nat, a = a' ∧ b = b' ∧ a' < (rP p).length ∧ b' < (rP p).length ∧ plainI p = true ∧ getB M a' b' = true := by
  unfold askV at h
  simp only [Bool.and_eq_true, Bool.not_eq_true', decide_eq_false_iff_not] at h
  obtain ⟨⟨⟨h1, h2⟩, h3⟩, h4⟩ := h
  exact ⟨a.toNat, b.toNat, by omega, by omega, by omega, by omega, h1, h4⟩
theorem askV_of {p : List Txt} {M : List (List Bool)} {a b : Nat} (hv : plainI p = true) (ha : a < (rP p).length) (hb : b < (rP p).length) : askV p M a b = getB M a b := by
  unfold askV
  have e1 : decide (min (a : Int) (b : Int) < 0) = false := decide_eq_false (by omega)
  have e2 : decide (max (a : Int) (b : Int) ≥ ((rP p).length : Int)) = false := decide_eq_false (by omega)
  rw [hv, e1, e2, Int.toNat_natCast, Int.toNat_natCast]; rfl
theorem plainI_B {p : List Txt} (h : plainI p = true) : plainB p = true := by rw [← plainI_plain]; exact h
/-- What is asked of the program is what the specification says. -/
theorem ask_ord {p : List Txt} (a b : Int) : askV p (lfM p) a b = ordS p 0 a b ∧ askV p (abM p) a b = ordS p 1 a b := by
  cases hv : plainI p with
  | false =>
    have hb : plainB p = false := by rw [← plainI_plain]; exact hv
    unfold askV ordS
    rw [hv, hb]; exact ⟨rfl, rfl⟩
  | true =>
    have hp := plainI_B hv
    have hpl := plain_plan hp
    have hN := plan_named hpl
    have hr := hN.rooms
    obtain ⟨s0, s1⟩ := same_all hN.hg (n := (rP p).length) (by omega) (fun i j hi hj => hN.cell hi hj) gP_room
    have key : ∀ {M : List (List Bool)} {k : Int}, Same (rP p).length M (allS p k) → askV p M a b = ordS p k a b := by
      intro M k hs
      unfold askV ordS givenB
      rw [hv, hp, hpl]
      by_cases q : 0 ≤ a ∧ 0 ≤ b ∧ a < (rP p).length ∧ b < (rP p).length
      · obtain ⟨q1, q2, q3, q4⟩ := q
        have e1 : decide (min a b < 0) = false := decide_eq_false (by omega)
        have e2 : decide (max a b ≥ ((rP p).length : Int)) = false := decide_eq_false (by omega)
        rw [e1, e2, hs.2.2 a.toNat b.toNat (by omega) (by omega)]
        simp only [Bool.true_and, Bool.not_false]
        have e3 : decide (0 ≤ a) = true := decide_eq_true q1
        have e4 : decide (a ≤ l1Rooms p - 1) = true := decide_eq_true (by omega)
        have e5 : decide (0 ≤ b) = true := decide_eq_true q2
        have e6 : decide (b ≤ l1Rooms p - 1) = true := decide_eq_true (by omega)
        rw [e3, e4, e5, e6]; rfl
      · have l : (true && !decide (min a b < 0) && !decide (max a b ≥ ((rP p).length : Int))) = false := by
          by_cases c1 : min a b < 0
          · rw [decide_eq_true c1]; rfl
          · have c2 : max a b ≥ ((rP p).length : Int) := by omega
            rw [decide_eq_true c2]; simp
        have r : (true && (true && (decide (0 ≤ a) && decide (a ≤ l1Rooms p - 1))) && (true && (decide (0 ≤ b) && decide (b ≤ l1Rooms p - 1)))) = false := by
          simp only [Bool.true_and, Bool.and_eq_false_iff, decide_eq_false_iff_not]
          omega
        rw [l, r]; rfl
    exact ⟨key s0, key s1⟩
/-- Left of leads on, and is none of the others. -/
theorem left_facts {p : List Txt} {a b : Int} (h : askV p (lfM p) a b = true) : floorI p = true ∧ askV p (lfM p) b a = false ∧ askV p (abM p) a b = false ∧ askV p (abM p) b a = false ∧ ∀ c : Nat, c < (rP p).length → askV p (lfM p) b c = true → askV p (lfM p) a c = true := by
  obtain ⟨a, b, rfl, rfl, ha, hb, hv, hg⟩ := askV_nat h
  have hp := plainI_B hv
  obtain ⟨o1, o2, o3⟩ := Lf.only hp ha hb hg
  have hf : floorI p = true := by unfold plainI at hv; simp only [Bool.and_eq_true] at hv; exact hv.1
  rw [askV_of hv hb ha, askV_of hv ha hb, askV_of hv hb ha]
  refine ⟨hf, by simpa [Lf] using o1, by simpa [Ab] using o2, by simpa [Ab] using o3, fun c hc h2 => ?_⟩
  rw [askV_of hv hb hc] at h2
  rw [askV_of hv ha hc]
  exact Lf.trans ha hb hc hg h2
theorem above_facts {p : List Txt} {a b : Int} (h : askV p (abM p) a b = true) : floorI p = true ∧ askV p (abM p) b a = false ∧ askV p (lfM p) a b = false ∧ askV p (lfM p) b a = false ∧ ∀ c : Nat, c < (rP p).length → askV p (abM p) b c = true → askV p (abM p) a c = true := by
  obtain ⟨a, b, rfl, rfl, ha, hb, hv, hg⟩ := askV_nat h
  have hp := plainI_B hv
  obtain ⟨o1, o2, o3⟩ := Ab.only hp ha hb hg
  have hf : floorI p = true := by unfold plainI at hv; simp only [Bool.and_eq_true] at hv; exact hv.1
  rw [askV_of hv hb ha, askV_of hv ha hb, askV_of hv hb ha]
  refine ⟨hf, by simpa [Ab] using o1, by simpa [Lf] using o2, by simpa [Lf] using o3, fun c hc h2 => ?_⟩
  rw [askV_of hv hb hc] at h2
  rw [askV_of hv ha hc]
  exact Ab.trans ha hb hc hg h2

end Fw
end Go.Proofs.YtcglmbijpjhbmaaGreat

/-! The law of places, gone through. -/
namespace Go.Proofs.YtcglmbijpjhbmaaGreat
namespace Fw
open Go

theorem PN.ints {P : Program} {f : FuncId} {args : List PV} {l : List Int} {n : Nat} {b im : Bool} (h : PN P f args (.tup [.loc 0 0 0 n, .bool b]) [.arr 0 3 1 (l.map (.int .i64))] im) (h1 : args.mapM (reify ⟨[], 0⟩ true 10) = some args) (hl : l.length = n) : PC P f args (.tup [eInts l, .bool b]) true := by
  refine PN.pc h h1 ?_
  subst hl
  simp only [up_tup, up_loc, up_bool, List.map_cons, List.map_nil, upOb_arr, up_ints, Nat.add_zero]
  show (([PV.loc 0 0 0 l.length, PV.bool b]).mapM (reify _ _ 9)).map PV.tup = _
  rw [mapM_one (reify_loc (k := 8) rfl (by simp) (mapM_int _)) (mapM_one rfl rfl)]
  rfl
end Fw
end Go.Proofs.YtcglmbijpjhbmaaGreat

/-! Permutations by the program and by the specification, gone through. -/
namespace Go.Proofs.YtcglmbijpjhbmaaGreat
namespace Fw
open Go

end Fw
end Go.Proofs.YtcglmbijpjhbmaaGreat

/-! Permutations of plans, gone through. -/
namespace Go.Proofs.YtcglmbijpjhbmaaGreat
namespace Fw
open Go

/-- A list, or none. -/
def ifL (b : Bool) (l : List Int) : List Int := if b then l else []
theorem plainI_is {p : List Txt} {b : Bool} (h : plainI p = b) : plainB p = b := by rw [← plainI_plain]; exact h
theorem orderFirst_pc {p : List Txt} (hs : Sm p) : PC Tryz.prog 52 [eStrs p] (.tup [eInts (ifL (plainI p) (srt p false)), .bool (plainI p)]) true := by
  cases hv : plainI p with
  | false => exact orderFirst_no hs hv
  | true => exact PN.ints (orderFirst_yes hs hv) rfl srt_len

theorem orderSecond_pc {p : List Txt} (hs : Sm p) : PC Tryz.prog 42 [eStrs p] (.tup [eInts (ifL (plainI p) (srt p true)), .bool (plainI p)]) true := by
  cases hv : plainI p with
  | false => exact orderSecond_no hs hv
  | true => exact PN.ints (orderSecond_yes hs hv) rfl srt_len

end Fw
end Go.Proofs.YtcglmbijpjhbmaaGreat

/-! The orders and permutations: the exported functions, gone through. -/
namespace Go.Proofs.YtcglmbijpjhbmaaGreat
namespace Fw
open Go

theorem ifL_t {l : List Int} : ifL true l = l := rfl
end Fw
end Go.Proofs.YtcglmbijpjhbmaaGreat

/-! Where the two orders begin and end: the rooms in the corners. -/
namespace Go.Proofs.YtcglmbijpjhbmaaGreat
namespace Fw
open Go

theorem TC.out {R : Nat → Nat → Prop} {a b : Nat} (h : TC R a b) : ∃ x, R a x := by
  induction h with
  | one h => exact ⟨_, h⟩
  | tail _ _ ih => exact ih
section
variable {p : List Txt} {a b : Nat}
end
end Fw
end Go.Proofs.YtcglmbijpjhbmaaGreat

/-! Kinds of two rooms, gone through. -/
namespace Go.Proofs.YtcglmbijpjhbmaaGreat
namespace Fw
open Go

def kindI (p : List Txt) (a b : Int) : Txt × Bool :=
  if askV p (lfM p) a b then ([108], true) else if askV p (lfM p) b a then ([114], true) else if askV p (abM p) a b then ([117], true) else if askV p (abM p) b a then ([100], true) else ([], false)
def kindS (p : List Txt) (a b : Int) : Txt × Bool :=
  if ((plainB p && givenB p a && givenB p b) && !decide (a = b)) then if bitOf (allS p 0) a.toNat b.toNat then ([108], true) else if bitOf (allS p 0) b.toNat a.toNat then ([114], true) else if bitOf (allS p 1) a.toNat b.toNat then ([117], true) else ([100], true) else ([], false)
theorem ask_same {p : List Txt} {a : Int} : askV p (lfM p) a a = false ∧ askV p (abM p) a a = false := by
  constructor
  · cases h : askV p (lfM p) a a with
    | false => rfl
    | true => have := (left_facts h).2.1; rw [h] at this; exact this
  · cases h : askV p (abM p) a a with
    | false => rfl
    | true => have := (above_facts h).2.1; rw [h] at this; exact this
theorem kind_eq {p : List Txt} (a b : Int) : kindS p a b = kindI p a b := by
  obtain ⟨o1, o2⟩ := ask_ord (p := p) a b
  obtain ⟨o3, o4⟩ := ask_ord (p := p) b a
  unfold ordS at o1 o2 o3 o4
  have hcom : (plainB p && givenB p b && givenB p a) = (plainB p && givenB p a && givenB p b) := by cases plainB p <;> cases givenB p a <;> cases givenB p b <;> rfl
  rw [hcom] at o3 o4
  unfold kindS kindI
  cases hg : (plainB p && givenB p a && givenB p b) with
  | false =>
    rw [hg] at o1 o2 o3 o4
    rw [o1, o2, o3, o4]; rfl
  | true =>
    rw [hg] at o1 o2 o3 o4
    by_cases e : a = b
    · subst e
      rw [ask_same.1, ask_same.2, decide_eq_true rfl]; rfl
    · rw [decide_eq_false e]
      simp only [Bool.true_and] at o1 o2 o3 o4
      rw [← o1, ← o3, ← o2]
      cases h1 : askV p (lfM p) a b with
      | true => rfl
      | false =>
        cases h2 : askV p (lfM p) b a with
        | true => rfl
        | false =>
          cases h3 : askV p (abM p) a b with
          | true => rfl
          | false =>
            have h4 : askV p (abM p) b a = true := by
              simp only [Bool.and_eq_true] at hg
              obtain ⟨⟨hp, hga⟩, hgb⟩ := hg
              have hv : plainI p = true := by rw [plainI_plain]; exact hp
              obtain ⟨a0, a1, -, -, -⟩ := given_rooms hp hga
              obtain ⟨b0, b1, -, -, -⟩ := given_rooms hp hgb
              obtain ⟨a, rfl⟩ : ∃ a2 : Nat, a = a2 := ⟨a.toNat, by omega⟩
              obtain ⟨b, rfl⟩ : ∃ b2 : Nat, b = b2 := ⟨b.toNat, by omega⟩
              have ha : a < (rP p).length := by omega
              have hb : b < (rP p).length := by omega
              rw [askV_of hv ha hb] at h1 h3
              rw [askV_of hv hb ha] at h2 ⊢
              rcases order_some hp ha hb (by omega) with k | k | k | k
              · unfold Lf at k; rw [k] at h1; cases h1
              · unfold Lf at k; rw [k] at h2; cases h2
              · unfold Ab at k; rw [k] at h3; cases h3
              · exact k
            rw [h4]; rfl
theorem kind_cases (p : List Txt) (a b : Int) : kindI p a b = ([], false) ∨
    (kindI p a b = ([108], true) ∧ askV p (lfM p) a b = true ∧ askV p (lfM p) b a = false ∧ askV p (abM p) a b = false ∧ askV p (abM p) b a = false) ∨
    (kindI p a b = ([114], true) ∧ askV p (lfM p) a b = false ∧ askV p (lfM p) b a = true ∧ askV p (abM p) a b = false ∧ askV p (abM p) b a = false) ∨
    (kindI p a b = ([117], true) ∧ askV p (lfM p) a b = false ∧ askV p (lfM p) b a = false ∧ askV p (abM p) a b = true ∧ askV p (abM p) b a = false) ∨
    (kindI p a b = ([100], true) ∧ askV p (lfM p) a b = false ∧ askV p (lfM p) b a = false ∧ askV p (abM p) a b = false ∧ askV p (abM p) b a = true) := by
  unfold kindI
  cases h1 : askV p (lfM p) a b with
  | true => obtain ⟨-, g1, g2, g3, -⟩ := left_facts h1; rw [g1, g2, g3]; simp
  | false =>
    cases h2 : askV p (lfM p) b a with
    | true => obtain ⟨-, g1, g2, g3, -⟩ := left_facts h2; rw [g2, g3]; simp
    | false =>
      cases h3 : askV p (abM p) a b with
      | true => obtain ⟨-, g1, -, -, -⟩ := above_facts h3; rw [g1]; simp
      | false => cases h4 : askV p (abM p) b a <;> simp

theorem orderKind_pc {p : List Txt} (hs : Sm p) (a b : Int) : PC Tryz.prog 50 [eStrs p, .int .i64 a, .int .i64 b] (.tup [.str (kindI p a b).1, .bool (kindI p a b).2]) true := by
  refine PC.of ⟨Tryz.func50, by kernel_rfl, rfl, by kernel_rfl⟩ tabOk mixed (by show 3 ≤ Tryz.f50.ntmps; decide) ?_
  refine W.seq_region fun K hK => ?_
  simp (disch := omega) only [↓RU, RV, RH, ↓reduceIte, Nat.reduceEqDiff, reduceCtorEq, if_pos, ↓RS, RG, Nat.reduceAdd, Nat.reduceMul, Nat.reduceLeDiff]
  refine hK _ _ ?_
  clear hK K
  refine W.seq ?_
  refine W.block ?_
  refine W.seq_region fun K hK => ?_
  simp (disch := omega) only [↓RU, RV, RH, ↓reduceIte, Nat.reduceEqDiff, reduceCtorEq, if_pos, List.append_nil, ↓RS, RG, Nat.reduceAdd, Nat.reduceMul, Nat.reduceLeDiff]
  refine CallR.pc (lefts_asked hs a b) rfl (.inl rfl) ?_
  simp (disch := omega) only [↓RU, RV, RH, ↓reduceIte, Nat.reduceEqDiff, reduceCtorEq, if_pos, List.append_nil, ↓RS, RG, Nat.reduceAdd, Nat.reduceMul, Nat.reduceLeDiff]
  refine hK _ _ ?_
  clear hK K
  refine W.cond rfl (fun h0 => ?_) (fun h0 => ?_)
  · try simp only [RL] at h0
    refine W.seq_region fun K hK => ?_
    simp (disch := omega) only [↓RU, RV, RH, ↓reduceIte, Nat.reduceEqDiff, reduceCtorEq, if_pos, ↓RS, RG, Nat.reduceAdd, Nat.reduceMul, Nat.reduceLeDiff]
    refine hK _ _ ?_
    clear hK K
    refine W.ret ?_
    refine XBlock.ret ?_
    refine XThen.ret ?_
    refine BodyQ.ret rfl ?_
    rw [show kindI p a b = ([108], true) by unfold kindI; rw [h0]; rfl]
    rfl
  · try simp only [RL] at h0
    refine W.seq_region fun K hK => ?_
    simp (disch := omega) only [↓RU, RV, RH, ↓reduceIte, Nat.reduceEqDiff, reduceCtorEq, if_pos, List.append_nil, ↓RS, RG, Nat.reduceAdd, Nat.reduceMul, Nat.reduceLeDiff]
    refine CallR.pc (lefts_asked hs b a) rfl (.inl rfl) ?_
    simp (disch := omega) only [↓RU, RV, RH, ↓reduceIte, Nat.reduceEqDiff, reduceCtorEq, if_pos, List.append_nil, ↓RS, RG, Nat.reduceAdd, Nat.reduceMul, Nat.reduceLeDiff]
    refine hK _ _ ?_
    clear hK K
    refine W.cond rfl (fun h1 => ?_) (fun h1 => ?_)
    · try simp only [RL] at h1
      refine W.seq_region fun K hK => ?_
      simp (disch := omega) only [↓RU, RV, RH, ↓reduceIte, Nat.reduceEqDiff, reduceCtorEq, if_pos, ↓RS, RG, Nat.reduceAdd, Nat.reduceMul, Nat.reduceLeDiff]
      refine hK _ _ ?_
      clear hK K
      refine W.ret ?_
      refine XBlock.ret ?_
      refine XThen.ret ?_
      refine BodyQ.ret rfl ?_
      rw [show kindI p a b = ([114], true) by unfold kindI; rw [h0, h1]; rfl]
      rfl
    · try simp only [RL] at h1
      refine W.seq_region fun K hK => ?_
      simp (disch := omega) only [↓RU, RV, RH, ↓reduceIte, Nat.reduceEqDiff, reduceCtorEq, if_pos, List.append_nil, ↓RS, RG, Nat.reduceAdd, Nat.reduceMul, Nat.reduceLeDiff]
      refine CallR.pc (aboves_asked hs a b) rfl (.inl rfl) ?_
      simp (disch := omega) only [↓RU, RV, RH, ↓reduceIte, Nat.reduceEqDiff, reduceCtorEq, if_pos, List.append_nil, ↓RS, RG, Nat.reduceAdd, Nat.reduceMul, Nat.reduceLeDiff]
      refine hK _ _ ?_
      clear hK K
      refine W.cond rfl (fun h2 => ?_) (fun h2 => ?_)
      · try simp only [RL] at h2
        refine W.seq_region fun K hK => ?_
        simp (disch := omega) only [↓RU, RV, RH, ↓reduceIte, Nat.reduceEqDiff, reduceCtorEq, if_pos, ↓RS, RG, Nat.reduceAdd, Nat.reduceMul, Nat.reduceLeDiff]
        refine hK _ _ ?_
        clear hK K
        refine W.ret ?_
        refine XBlock.ret ?_
        refine XThen.ret ?_
        refine BodyQ.ret rfl ?_
        rw [show kindI p a b = ([117], true) by unfold kindI; rw [h0, h1, h2]; rfl]
        rfl
      · try simp only [RL] at h2
        refine W.seq_region fun K hK => ?_
        simp (disch := omega) only [↓RU, RV, RH, ↓reduceIte, Nat.reduceEqDiff, reduceCtorEq, if_pos, List.append_nil, ↓RS, RG, Nat.reduceAdd, Nat.reduceMul, Nat.reduceLeDiff]
        refine CallR.pc (aboves_asked hs b a) rfl (.inl rfl) ?_
        simp (disch := omega) only [↓RU, RV, RH, ↓reduceIte, Nat.reduceEqDiff, reduceCtorEq, if_pos, List.append_nil, ↓RS, RG, Nat.reduceAdd, Nat.reduceMul, Nat.reduceLeDiff]
        refine hK _ _ ?_
        clear hK K
        refine W.cond rfl (fun h3 => ?_) (fun h3 => ?_)
        · try simp only [RL] at h3
          refine W.seq_region fun K hK => ?_
          simp (disch := omega) only [↓RU, RV, RH, ↓reduceIte, Nat.reduceEqDiff, reduceCtorEq, if_pos, ↓RS, RG, Nat.reduceAdd, Nat.reduceMul, Nat.reduceLeDiff]
          refine hK _ _ ?_
          clear hK K
          refine W.ret ?_
          refine XBlock.ret ?_
          refine XThen.ret ?_
          refine BodyQ.ret rfl ?_
          rw [show kindI p a b = ([100], true) by unfold kindI; rw [h0, h1, h2, h3]; rfl]
          rfl
        · try simp only [RL] at h3
          refine W.skip ?_
          refine XBlock.norm ?_
          refine XThen.norm ?_
          refine W.seq_region fun K hK => ?_
          simp (disch := omega) only [↓RU, RV, RH, ↓reduceIte, Nat.reduceEqDiff, reduceCtorEq, if_pos, ↓RS, RG, Nat.reduceAdd, Nat.reduceMul, Nat.reduceLeDiff]
          refine hK _ _ ?_
          clear hK K
          refine W.ret ?_
          refine BodyQ.ret rfl ?_
          rw [show kindI p a b = ([], false) by unfold kindI; rw [h0, h1, h2, h3]; rfl]
          rfl

theorem sOrderKind_pc {p : List Txt} (hs : Sm p) (a b : Int) : PC Tryz.prog 51 [eStrs p, .int .i64 a, .int .i64 b] (.tup [.str (kindS p a b).1, .bool (kindS p a b).2]) true := by
  refine PC.of ⟨Tryz.func51, by kernel_rfl, rfl, by kernel_rfl⟩ tabOk mixed (by show 3 ≤ Tryz.f51.ntmps; decide) ?_
  refine W.seq_region fun K hK => ?_
  simp (disch := omega) only [↓RU, RV, RH, ↓reduceIte, Nat.reduceEqDiff, reduceCtorEq, if_pos, ↓RS, RG, Nat.reduceAdd, Nat.reduceMul, Nat.reduceLeDiff]
  refine hK _ _ ?_
  clear hK K
  refine W.seq ?_
  refine W.seq_region fun K hK => ?_
  cases hgg : (plainB p && givenB p a && givenB p b)
  · skip
    simp (disch := omega) only [↓RU, RV, RH, ↓reduceIte, Nat.reduceEqDiff, reduceCtorEq, if_pos, List.append_nil, w64, ↓RS, RG, Nat.reduceAdd, Nat.reduceMul, Nat.reduceLeDiff, tyint, hgg]
    refine CallR.pc (l5Rooms_pc hs a b) rfl (.inl rfl) ?_
    simp (disch := omega) only [↓RU, RV, RH, ↓reduceIte, Nat.reduceEqDiff, reduceCtorEq, if_pos, List.append_nil, w64, ↓RS, RG, Nat.reduceAdd, Nat.reduceMul, Nat.reduceLeDiff, tyint, hgg]
    refine hK _ _ ?_
    clear hK K
    refine W.cond rfl (fun h0 => ?_) (fun h0 => ?_)
    · try simp only [RL] at h0
      refine W.seq_region fun K hK => ?_
      simp (disch := omega) only [↓RU, RV, RH, ↓reduceIte, Nat.reduceEqDiff, reduceCtorEq, if_pos, ↓RS, RG, Nat.reduceAdd, Nat.reduceMul, Nat.reduceLeDiff]
      refine hK _ _ ?_
      clear hK K
      refine W.ret ?_
      refine XThen.ret ?_
      refine BodyQ.ret rfl ?_
      rw [show kindS p a b = ([], false) by unfold kindS; rw [hgg]; rfl]
      rfl
    · try simp only [RL] at h0
      exact absurd h0 (by simp)
  · skip
    simp (disch := omega) only [↓RU, RV, RH, ↓reduceIte, Nat.reduceEqDiff, reduceCtorEq, if_pos, List.append_nil, w64, ↓RS, RG, Nat.reduceAdd, Nat.reduceMul, Nat.reduceLeDiff, tyint, hgg]
    refine CallR.pc (l5Rooms_pc hs a b) rfl (.inl rfl) ?_
    simp (disch := omega) only [↓RU, RV, RH, ↓reduceIte, Nat.reduceEqDiff, reduceCtorEq, if_pos, List.append_nil, w64, ↓RS, RG, Nat.reduceAdd, Nat.reduceMul, Nat.reduceLeDiff, tyint, hgg]
    refine hK _ _ ?_
    clear hK K
    refine W.cond rfl (fun h0 => ?_) (fun h0 => ?_)
    · try simp only [RL] at h0
      have hab : a = b := by simpa using h0
      refine W.seq_region fun K hK => ?_
      simp (disch := omega) only [↓RU, RV, RH, ↓reduceIte, Nat.reduceEqDiff, reduceCtorEq, if_pos, ↓RS, RG, Nat.reduceAdd, Nat.reduceMul, Nat.reduceLeDiff]
      refine hK _ _ ?_
      clear hK K
      refine W.ret ?_
      refine XThen.ret ?_
      refine BodyQ.ret rfl ?_
      rw [show kindS p a b = ([], false) by unfold kindS; rw [hgg, decide_eq_true hab]; rfl]
      rfl
    · try simp only [RL] at h0
      have hab : ¬ a = b := by simpa using h0
      have hg3 := hgg
      simp only [Bool.and_eq_true] at hg3
      obtain ⟨⟨hp, hga⟩, hgb⟩ := hg3
      obtain ⟨a0, a1, hr, hg, h9⟩ := given_rooms hp hga
      obtain ⟨b0, b1, -, -, -⟩ := given_rooms hp hgb
      obtain ⟨a, rfl⟩ : ∃ a2 : Nat, a = a2 := ⟨a.toNat, by omega⟩
      obtain ⟨b, rfl⟩ : ∃ b2 : Nat, b = b2 := ⟨b.toNat, by omega⟩
      have hm0 := allS_msk hg h9 0
      have hm1 := allS_msk hg h9 1
      obtain ⟨m0, hma, hm5⟩ := hm0.at_ (show a < (l1Rooms p).toNat by omega)
      obtain ⟨m1, hmb, hm6⟩ := hm0.at_ (show b < (l1Rooms p).toNat by omega)
      obtain ⟨m2, hmu, hm7⟩ := hm1.at_ (show a < (l1Rooms p).toNat by omega)
      have hl0 := hm0.1
      have hl1 := hm1.1
      have hr9 : (rP p).length ≤ 9 := by omega
      have q0 := bitOf_is (b := b) hma
      have q1 := bitOf_is (b := a) hmb
      have q2 := bitOf_is (b := b) hmu
      have hab2 : decide ((a : Int) = (b : Int)) = false := decide_eq_false hab
      refine W.skip ?_
      refine XThen.norm ?_
      refine W.seq_region fun K hK => ?_
      simp (disch := omega) only [↓RU, RV, RH, ↓reduceIte, Nat.reduceEqDiff, reduceCtorEq, if_pos, List.append_nil, ↓RS, RG, Nat.reduceAdd, Nat.reduceMul, Nat.reduceLeDiff]
      refine CallR.pc (l5All_pc hs hg h9 0) rfl (.inl rfl) ?_
      simp (disch := omega) only [↓RU, RV, RH, ↓reduceIte, Nat.reduceEqDiff, reduceCtorEq, if_pos, List.append_nil, ↓RS, RG, Nat.reduceAdd, Nat.reduceMul, Nat.reduceLeDiff]
      refine hK _ _ ?_
      clear hK K
      refine W.seq_region fun K hK => ?_
      simp (disch := omega) only [↓RU, RV, RH, ↓reduceIte, Nat.reduceEqDiff, reduceCtorEq, if_pos, List.append_nil, ↓RS, RG, Nat.reduceAdd, Nat.reduceMul, Nat.reduceLeDiff]
      refine CallR.pc (l5All_pc hs hg h9 1) rfl (.inl rfl) ?_
      simp (disch := omega) only [↓RU, RV, RH, ↓reduceIte, Nat.reduceEqDiff, reduceCtorEq, if_pos, List.append_nil, ↓RS, RG, Nat.reduceAdd, Nat.reduceMul, Nat.reduceLeDiff]
      refine hK _ _ ?_
      clear hK K
      refine W.seq ?_
      refine W.block ?_
      refine W.seq_region fun K hK => ?_
      simp (disch := omega) only [↓RU, RV, RH, ↓reduceIte, Nat.reduceEqDiff, reduceCtorEq, if_pos, w64, ↓RS, RG, Nat.reduceAdd, Nat.reduceMul, Nat.reduceLeDiff, tyLint, tyint, hma, hl0, pShr, w_bit]
      refine hK _ _ ?_
      clear hK K
      refine W.cond rfl (fun h1 => ?_) (fun h1 => ?_)
      · try simp only [RL] at h1
        refine W.seq_region fun K hK => ?_
        simp (disch := omega) only [↓RU, RV, RH, ↓reduceIte, Nat.reduceEqDiff, reduceCtorEq, if_pos, ↓RS, RG, Nat.reduceAdd, Nat.reduceMul, Nat.reduceLeDiff]
        refine hK _ _ ?_
        clear hK K
        refine W.ret ?_
        refine XBlock.ret ?_
        refine XThen.ret ?_
        refine BodyQ.ret rfl ?_
        rw [show kindS p a b = ([108], true) by unfold kindS; rw [hgg, hab2, Int.toNat_natCast, Int.toNat_natCast, q0, h1]; rfl]
        rfl
      · try simp only [RL] at h1
        refine W.seq_region fun K hK => ?_
        simp (disch := omega) only [↓RU, RV, RH, ↓reduceIte, Nat.reduceEqDiff, reduceCtorEq, if_pos, w64, ↓RS, RG, Nat.reduceAdd, Nat.reduceMul, Nat.reduceLeDiff, tyLint, tyint, hmb, hl0, pShr, w_bit]
        refine hK _ _ ?_
        clear hK K
        refine W.cond rfl (fun h2 => ?_) (fun h2 => ?_)
        · try simp only [RL] at h2
          refine W.seq_region fun K hK => ?_
          simp (disch := omega) only [↓RU, RV, RH, ↓reduceIte, Nat.reduceEqDiff, reduceCtorEq, if_pos, ↓RS, RG, Nat.reduceAdd, Nat.reduceMul, Nat.reduceLeDiff]
          refine hK _ _ ?_
          clear hK K
          refine W.ret ?_
          refine XBlock.ret ?_
          refine XThen.ret ?_
          refine BodyQ.ret rfl ?_
          rw [show kindS p a b = ([114], true) by unfold kindS; rw [hgg, hab2, Int.toNat_natCast, Int.toNat_natCast, q0, q1, h1, h2]; rfl]
          rfl
        · try simp only [RL] at h2
          refine W.seq_region fun K hK => ?_
          simp (disch := omega) only [↓RU, RV, RH, ↓reduceIte, Nat.reduceEqDiff, reduceCtorEq, if_pos, w64, ↓RS, RG, Nat.reduceAdd, Nat.reduceMul, Nat.reduceLeDiff, tyLint, tyint, hmu, hl1, pShr, w_bit]
          refine hK _ _ ?_
          clear hK K
          refine W.cond rfl (fun h3 => ?_) (fun h3 => ?_)
          · try simp only [RL] at h3
            refine W.seq_region fun K hK => ?_
            simp (disch := omega) only [↓RU, RV, RH, ↓reduceIte, Nat.reduceEqDiff, reduceCtorEq, if_pos, ↓RS, RG, Nat.reduceAdd, Nat.reduceMul, Nat.reduceLeDiff]
            refine hK _ _ ?_
            clear hK K
            refine W.ret ?_
            refine XBlock.ret ?_
            refine XThen.ret ?_
            refine BodyQ.ret rfl ?_
            rw [show kindS p a b = ([117], true) by unfold kindS; rw [hgg, hab2, Int.toNat_natCast, Int.toNat_natCast, q0, q1, q2, h1, h2, h3]; rfl]
            rfl
          · try simp only [RL] at h3
            refine W.skip ?_
            refine XBlock.norm ?_
            refine XThen.norm ?_
            refine W.seq_region fun K hK => ?_
            simp (disch := omega) only [↓RU, RV, RH, ↓reduceIte, Nat.reduceEqDiff, reduceCtorEq, if_pos, ↓RS, RG, Nat.reduceAdd, Nat.reduceMul, Nat.reduceLeDiff]
            refine hK _ _ ?_
            clear hK K
            refine W.ret ?_
            refine BodyQ.ret rfl ?_
            rw [show kindS p a b = ([100], true) by unfold kindS; rw [hgg, hab2, Int.toNat_natCast, Int.toNat_natCast, q0, q1, q2, h1, h2, h3]; rfl]
            rfl

end Fw
end Go.Proofs.YtcglmbijpjhbmaaGreat

/-! The laws of the first and the second order, gone through. -/
namespace Go.Proofs.YtcglmbijpjhbmaaGreat
namespace Fw
open Go

end Fw
end Go.Proofs.YtcglmbijpjhbmaaGreat

/-! The law of places of kinds, gone through. -/
namespace Go.Proofs.YtcglmbijpjhbmaaGreat
namespace Fw
open Go

theorem kind_nat {p : List Txt} {a b : Int} (h : (kindI p a b).2 = true) : ∃ a' b' : Nat, a = a' ∧ b = b' ∧ a' < (rP p).length ∧ b' < (rP p).length ∧ plainI p = true := by
  rcases kind_cases p a b with hk | ⟨hk, f1, f2, f3, f4⟩ | ⟨hk, f1, f2, f3, f4⟩ | ⟨hk, f1, f2, f3, f4⟩ | ⟨hk, f1, f2, f3, f4⟩
  · rw [hk] at h; cases h
  · obtain ⟨x, y, e1, e2, h1, h2, h3, -⟩ := askV_nat f1; exact ⟨x, y, e1, e2, h1, h2, h3⟩
  · obtain ⟨x, y, e1, e2, h1, h2, h3, -⟩ := askV_nat f2; exact ⟨y, x, e2, e1, h2, h1, h3⟩
  · obtain ⟨x, y, e1, e2, h1, h2, h3, -⟩ := askV_nat f3; exact ⟨x, y, e1, e2, h1, h2, h3⟩
  · obtain ⟨x, y, e1, e2, h1, h2, h3, -⟩ := askV_nat f4; exact ⟨y, x, e2, e1, h2, h1, h3⟩
end Fw
end Go.Proofs.YtcglmbijpjhbmaaGreat

/-! The law of kinds and orders, gone through. -/
namespace Go.Proofs.YtcglmbijpjhbmaaGreat
namespace Fw
open Go

/-- Whether a place is ahead of another one, as far as the loops have come. -/
def oneO (A B i : Nat) : Bool := decide (A < i ∧ A < B)
def oneV (A B i k : Nat) : Bool := oneO A B i || decide (A = i ∧ A < B ∧ B < k)
theorem oneV_start {A B i : Nat} : oneV A B i (i + 1) = oneO A B i := by
  unfold oneV
  rw [show decide (A = i ∧ A < B ∧ B < i + 1) = false from decide_eq_false (by omega), Bool.or_false]
theorem oneV_step {A B i k : Nat} (h : i < k) : oneV A B i (k + 1) = (oneV A B i k || (decide (i = A) && decide (k = B))) := by
  unfold oneV
  rw [Bool.or_assoc]
  congr 1
  rw [Bool.eq_iff_iff]
  simp only [Bool.or_eq_true, Bool.and_eq_true, decide_eq_true_eq]
  omega
theorem oneV_end {A B i n : Nat} (hB : B < n) : oneV A B i n = oneO A B (i + 1) := by
  unfold oneV oneO
  rw [Bool.eq_iff_iff]
  simp only [Bool.or_eq_true, decide_eq_true_eq]
  omega
theorem oneO_end {A B n : Nat} (hA : A < n) : oneO A B n = decide (A < B) := by
  unfold oneO
  exact decide_eq_decide.2 (by omega)
theorem at_place {p : List Txt} (hp : plainB p = true) {below : Bool} {i a : Nat} {x : Int} (ha : a < (rP p).length) (hx : (srt p below)[i]? = some x) : (x == (a : Int)) = decide (i = ahK p below a) := by
  have hi := len_of hx
  rw [srt_len] at hi
  obtain ⟨c, hc, hc2, hc3⟩ := srt_get (below := below) hp hi
  rw [hx] at hc3
  cases hc3
  rw [Bool.eq_iff_iff]
  simp only [beq_iff_eq, decide_eq_true_eq]
  constructor
  · intro h; have : c = a := by omega
    subst this; exact hc2.symm
  · intro h; have := ahK_inj (below := below) hp hc ha (by omega)
    rw [this]
theorem one_is {p : List Txt} (hp : plainB p = true) {a b : Nat} (ha : a < (rP p).length) (hb : b < (rP p).length) {below : Bool} : oneO (ahK p below a) (ahK p below b) (rP p).length = bfK p below a b := by
  rw [oneO_end (ahK_lt hp ha), Bool.eq_iff_iff, ahK_iff hp ha hb]
  simp
theorem kind_orders {p : List Txt} {a b : Nat} (hv : plainI p = true) (ha : a < (rP p).length) (hb : b < (rP p).length) (hk : (kindI p a b).2 = true) :
    ((kindI p a b).1 == [108]) = (bfK p false a b && bfK p true a b) ∧ ((kindI p a b).1 == [117]) = (bfK p false a b && !bfK p true a b) := by
  simp only [bfK, bf1, bf2, Bool.false_eq_true, if_false, if_true]
  rcases kind_cases p a b with h | ⟨h, f1, f2, f3, f4⟩ | ⟨h, f1, f2, f3, f4⟩ | ⟨h, f1, f2, f3, f4⟩ | ⟨h, f1, f2, f3, f4⟩
  · rw [h] at hk; cases hk
  all_goals
    rw [askV_of hv ha hb] at f1 f3
    rw [askV_of hv hb ha] at f2 f4
    rw [h, f1, f3, f4]
    exact ⟨rfl, rfl⟩

theorem kindOrders_law {code : Txt} (hcode : code.length ≤ 9223372036854775807) : PC Tryz.prog 11 [eBy code] (.bool true) true := by
  refine PC.of ⟨Tryz.func11, by kernel_rfl, rfl, by kernel_rfl⟩ tabOk mixed (by show 1 ≤ Tryz.f11.ntmps; decide) ?_
  refine W.seq_region fun K hK => ?_
  simp (disch := omega) only [↓RU, RV, RH, ↓reduceIte, Nat.reduceEqDiff, reduceCtorEq, if_pos, ↓RS, RG, Nat.reduceAdd, Nat.reduceMul, Nat.reduceLeDiff]
  refine hK _ _ ?_
  clear hK K
  refine W.seq ?_
  refine W.seq_region fun K hK => ?_
  simp (disch := omega) only [↓RU, RV, RH, ↓reduceIte, Nat.reduceEqDiff, reduceCtorEq, if_pos, w64, ↓RS, RG, Nat.reduceAdd, Nat.reduceMul, Nat.reduceLeDiff, tyLuint8, tyint, tyuint8]
  refine hK _ _ ?_
  clear hK K
  refine W.cond rfl (fun h0 => ?_) (fun h0 => ?_)
  · try simp only [RL] at h0
    refine W.seq_region fun K hK => ?_
    simp (disch := omega) only [↓RU, RV, RH, ↓reduceIte, Nat.reduceEqDiff, reduceCtorEq, if_pos, ↓RS, RG, Nat.reduceAdd, Nat.reduceMul, Nat.reduceLeDiff]
    refine hK _ _ ?_
    clear hK K
    refine W.ret ?_
    refine XThen.ret ?_
    refine BodyQ.ret rfl ?_
    rfl
  · try simp only [RL] at h0
    have hcl : code.length ≤ 1048576 := by omega
    refine W.skip ?_
    refine XThen.norm ?_
    refine W.seq_region fun K hK => ?_
    simp (disch := omega) only [↓RU, RV, RH, ↓reduceIte, Nat.reduceEqDiff, reduceCtorEq, if_pos, List.append_nil, ↓RS, RG, Nat.reduceAdd, Nat.reduceMul, Nat.reduceLeDiff]
    refine CallR.ev (drawKind_ev hcl) ?_
    rintro _ _ ⟨p, a, b, t, hs, ha1, ha2, hb1, hb2, rfl, rfl⟩
    simp (disch := omega) only [↓RU, RV, RH, ↓reduceIte, Nat.reduceEqDiff, reduceCtorEq, if_pos, List.append_nil, ↓RS, RG, Nat.reduceAdd, Nat.reduceMul, Nat.reduceLeDiff]
    refine hK _ _ ?_
    clear hK K
    refine W.seq_region fun K hK => ?_
    simp (disch := omega) only [↓RU, RV, RH, ↓reduceIte, Nat.reduceEqDiff, reduceCtorEq, if_pos, List.append_nil, ↓RS, RG, Nat.reduceAdd, Nat.reduceMul, Nat.reduceLeDiff]
    refine CallR.pc (orderKind_pc hs a b) rfl (.inl rfl) ?_
    simp (disch := omega) only [↓RU, RV, RH, ↓reduceIte, Nat.reduceEqDiff, reduceCtorEq, if_pos, List.append_nil, ↓RS, RG, Nat.reduceAdd, Nat.reduceMul, Nat.reduceLeDiff]
    refine hK _ _ ?_
    clear hK K
    refine W.seq_region fun K hK => ?_
    simp (disch := omega) only [↓RU, RV, RH, ↓reduceIte, Nat.reduceEqDiff, reduceCtorEq, if_pos, List.append_nil, ↓RS, RG, Nat.reduceAdd, Nat.reduceMul, Nat.reduceLeDiff]
    refine CallR.pc (sOrderKind_pc hs a b) rfl (.inl rfl) ?_
    simp (disch := omega) only [↓RU, RV, RH, ↓reduceIte, Nat.reduceEqDiff, reduceCtorEq, if_pos, List.append_nil, ↓RS, RG, Nat.reduceAdd, Nat.reduceMul, Nat.reduceLeDiff]
    refine hK _ _ ?_
    clear hK K
    rw [kind_eq]
    refine W.seq ?_
    refine W.seq_region fun K hK => ?_
    cases hkb : (kindI p a b).2
    · skip
      simp (disch := omega) only [↓RU, RV, RH, ↓reduceIte, Nat.reduceEqDiff, reduceCtorEq, if_pos, w64, ↓RS, RG, Nat.reduceAdd, Nat.reduceMul, Nat.reduceLeDiff, tybool, tystring, pEq_bb, Option.map_some, bne_self_eq_false, beq_self_eq_true, Bool.not_true, Bool.not_false, decide_true, pStr, hkb]
      refine hK _ _ ?_
      clear hK K
      refine W.cond rfl (fun h1 => ?_) (fun h1 => ?_)
      · try simp only [RL] at h1
        refine W.seq_region fun K hK => ?_
        simp (disch := omega) only [↓RU, RV, RH, ↓reduceIte, Nat.reduceEqDiff, reduceCtorEq, if_pos, w64, ↓RS, RG, Nat.reduceAdd, Nat.reduceMul, Nat.reduceLeDiff, tybool, tystring, pEq_bb, Option.map_some, bne_self_eq_false, beq_self_eq_true, Bool.not_true, Bool.not_false, decide_true, pStr]
        refine hK _ _ ?_
        clear hK K
        refine W.ret ?_
        refine XThen.ret ?_
        refine BodyQ.ret rfl ?_
        rfl
      · try simp only [RL] at h1
        exact absurd h1 (by simp)
    · skip
      simp (disch := omega) only [↓RU, RV, RH, ↓reduceIte, Nat.reduceEqDiff, reduceCtorEq, if_pos, w64, ↓RS, RG, Nat.reduceAdd, Nat.reduceMul, Nat.reduceLeDiff, tybool, tystring, pEq_bb, Option.map_some, bne_self_eq_false, beq_self_eq_true, Bool.not_true, Bool.not_false, decide_true, pStr, hkb]
      refine hK _ _ ?_
      clear hK K
      refine W.cond rfl (fun h1 => ?_) (fun h1 => ?_)
      · try simp only [RL] at h1
        exact absurd h1 (by simp)
      · try simp only [RL] at h1
        obtain ⟨a, b, rfl, rfl, hna, hnb, hv⟩ := kind_nat hkb
        have hp := plainI_is hv
        have hn9 := okB_rooms (plain_okB hv).1
        have hl1 := srt_len (p := p) (below := false)
        have hl2 := srt_len (p := p) (below := true)
        obtain ⟨ho1, ho2⟩ := kind_orders hv hna hnb hkb
        refine W.skip ?_
        refine XThen.norm ?_
        refine W.seq_region fun K hK => ?_
        simp (disch := omega) only [↓RU, RV, RH, ↓reduceIte, Nat.reduceEqDiff, reduceCtorEq, if_pos, List.append_nil, ↓RS, RG, Nat.reduceAdd, Nat.reduceMul, Nat.reduceLeDiff, hv, ifL_t]
        refine CallR.pc (orderFirst_pc hs) rfl (.inl rfl) ?_
        simp (disch := omega) only [↓RU, RV, RH, ↓reduceIte, Nat.reduceEqDiff, reduceCtorEq, if_pos, List.append_nil, ↓RS, RG, Nat.reduceAdd, Nat.reduceMul, Nat.reduceLeDiff, hv, ifL_t]
        refine hK _ _ ?_
        clear hK K
        refine W.seq_region fun K hK => ?_
        simp (disch := omega) only [↓RU, RV, RH, ↓reduceIte, Nat.reduceEqDiff, reduceCtorEq, if_pos, List.append_nil, ↓RS, RG, Nat.reduceAdd, Nat.reduceMul, Nat.reduceLeDiff, hv, ifL_t]
        refine CallR.pc (orderSecond_pc hs) rfl (.inl rfl) ?_
        simp (disch := omega) only [↓RU, RV, RH, ↓reduceIte, Nat.reduceEqDiff, reduceCtorEq, if_pos, List.append_nil, ↓RS, RG, Nat.reduceAdd, Nat.reduceMul, Nat.reduceLeDiff, hv, ifL_t]
        refine hK _ _ ?_
        clear hK K
        refine W.seq_region fun K hK => ?_
        simp (disch := omega) only [↓RU, RV, RH, ↓reduceIte, Nat.reduceEqDiff, reduceCtorEq, if_pos, ↓RS, RG, Nat.reduceAdd, Nat.reduceMul, Nat.reduceLeDiff]
        refine hK _ _ ?_
        clear hK K
        refine W.seq_region fun K hK => ?_
        simp (disch := omega) only [↓RU, RV, RH, ↓reduceIte, Nat.reduceEqDiff, reduceCtorEq, if_pos, ↓RS, RG, Nat.reduceAdd, Nat.reduceMul, Nat.reduceLeDiff]
        refine hK _ _ ?_
        clear hK K
        refine W.seq ?_
        refine W.seq_region fun K hK => ?_
        simp (disch := omega) only [↓RU, RV, RH, ↓reduceIte, Nat.reduceEqDiff, reduceCtorEq, if_pos, ↓RS, RG, Nat.reduceAdd, Nat.reduceMul, Nat.reduceLeDiff]
        refine hK _ _ ?_
        clear hK K
        refine W.block ?_
        refine W.loop [4, 5, 6, 10, 11, 12, 13, 14, 15, 16] (fun n vs S => ∃ i tk : Nat, n = (rP p).length - i ∧ i ≤ (rP p).length ∧ vs = [.int .i64 a, .int .i64 b, .str (kindI p a b).1, eInts (srt p false), .bool true, eInts (srt p true), .bool true, .bool (oneO (ahK p false a) (ahK p false b) i), .bool (oneO (ahK p true a) (ahK p true b) i), .int .i64 i] ∧ S = ⟨[], tk⟩) (rP p).length ?_ ?_
        · refine ⟨0, 0, t, rfl, Nat.zero_le _, ?_, rfl⟩
          simp [Env.put, Env.of, argEnv, oneO]
        rintro n vs S - ⟨i, tk, rfl, h_i, rfl, rfl⟩
        refine W.seq ?_
        refine W.seq_region fun K hK => ?_
        simp (disch := omega) only [↓RU, RV, RH, ↓reduceIte, Nat.reduceEqDiff, reduceCtorEq, if_pos, w64, ↓RS, RG, Nat.reduceAdd, Nat.reduceMul, Nat.reduceLeDiff, tyLint, tyint]
        refine hK _ _ ?_
        clear hK K
        refine W.cond rfl (fun h2 => ?_) (fun h2 => ?_)
        · try simp only [RL] at h2
          obtain ⟨x, hx, -⟩ := get_of (show i < (srt p false).length by omega)
          obtain ⟨y, hy, -⟩ := get_of (show i < (srt p true).length by omega)
          have hxa := at_place hp hna hx
          have hya := at_place hp hna hy
          refine W.skip ?_
          refine XThen.norm ?_
          refine W.seq ?_
          refine W.block ?_
          refine W.seq_region fun K hK => ?_
          simp (disch := omega) only [↓RU, RV, RH, ↓reduceIte, Nat.reduceEqDiff, reduceCtorEq, if_pos, w64, ↓RS, RG, Nat.reduceAdd, Nat.reduceMul, Nat.reduceLeDiff, tyint]
          refine hK _ _ ?_
          clear hK K
          refine W.block ?_
          refine W.loop [4, 5, 6, 10, 11, 12, 13, 14, 15, 16, 17] (fun n vs S => ∃ k tk2 : Nat, n = (rP p).length - k ∧ i < k ∧ k ≤ (rP p).length ∧ vs = [.int .i64 a, .int .i64 b, .str (kindI p a b).1, eInts (srt p false), .bool true, eInts (srt p true), .bool true, .bool (oneV (ahK p false a) (ahK p false b) i k), .bool (oneV (ahK p true a) (ahK p true b) i k), .int .i64 i, .int .i64 k] ∧ S = ⟨[], tk2⟩) ((rP p).length - (i + 1)) ?_ ?_
          · refine ⟨0, i + 1, tk, rfl, by omega, by omega, ?_, rfl⟩
            simp [Env.put, Env.of, oneV_start]
          rintro n vs S - ⟨k, tk2, rfl, hik, h_k, rfl, rfl⟩
          refine W.seq ?_
          refine W.seq_region fun K hK => ?_
          simp (disch := omega) only [↓RU, RV, RH, ↓reduceIte, Nat.reduceEqDiff, reduceCtorEq, if_pos, w64, ↓RS, RG, Nat.reduceAdd, Nat.reduceMul, Nat.reduceLeDiff, tyLint, tyint]
          refine hK _ _ ?_
          clear hK K
          refine W.cond rfl (fun h3 => ?_) (fun h3 => ?_)
          · try simp only [RL] at h3
            obtain ⟨u, hu, -⟩ := get_of (show k < (srt p false).length by omega)
            obtain ⟨w, hw, -⟩ := get_of (show k < (srt p true).length by omega)
            have hub := at_place hp hnb hu
            have hwb := at_place hp hnb hw
            have st1 := oneV_step (A := (ahK p false a)) (B := (ahK p false b)) hik
            have st2 := oneV_step (A := (ahK p true a)) (B := (ahK p true b)) hik
            refine W.skip ?_
            refine XThen.norm ?_
            refine W.seq ?_
            refine W.block ?_
            refine W.join [4, 5, 6, 10, 11, 12, 13, 14, 15, 16, 17] (fun vs S => ∃ tk3 : Nat, vs = [.int .i64 a, .int .i64 b, .str (kindI p a b).1, eInts (srt p false), .bool true, eInts (srt p true), .bool true, .bool (oneV (ahK p false a) (ahK p false b) i (k + 1)), .bool (oneV (ahK p true a) (ahK p true b) i k), .int .i64 i, .int .i64 k] ∧ S = ⟨[], tk3⟩) ?_ ?_
            ·
              refine W.region_k fun K hK => ?_
              rcases hO : (oneV (ahK p false a) (ahK p false b) i k, x == (a : Int)) with ⟨_ | _, _ | _⟩
              · skip
                simp only [Prod.mk.injEq] at hO
                obtain ⟨o1, o2⟩ := hO
                rw [← hxa, ← hub, o1, o2] at st1
                simp (disch := omega) only [↓RU, RV, RH, ↓reduceIte, Nat.reduceEqDiff, reduceCtorEq, if_pos, w64, ↓RS, RG, Nat.reduceAdd, Nat.reduceMul, Nat.reduceLeDiff, tyLint, tyint, o1, o2, hx, hu]
                refine hK _ _ ?_
                clear hK K
                refine XThen.norm ?_
                refine ⟨0, tk2, ?_, rfl⟩
                simp [Env.put, Env.of, st1]
              · skip
                simp only [Prod.mk.injEq] at hO
                obtain ⟨o1, o2⟩ := hO
                rw [← hxa, ← hub, o1, o2] at st1
                simp (disch := omega) only [↓RU, RV, RH, ↓reduceIte, Nat.reduceEqDiff, reduceCtorEq, if_pos, w64, ↓RS, RG, Nat.reduceAdd, Nat.reduceMul, Nat.reduceLeDiff, tyLint, tyint, o1, o2, hx, hu]
                refine hK _ _ ?_
                clear hK K
                refine XThen.norm ?_
                refine ⟨0, tk2, ?_, rfl⟩
                simp [Env.put, Env.of, st1]
              · skip
                simp only [Prod.mk.injEq] at hO
                obtain ⟨o1, o2⟩ := hO
                rw [← hxa, ← hub, o1, o2] at st1
                simp (disch := omega) only [↓RU, RV, RH, ↓reduceIte, Nat.reduceEqDiff, reduceCtorEq, if_pos, w64, ↓RS, RG, Nat.reduceAdd, Nat.reduceMul, Nat.reduceLeDiff, tyLint, tyint, o1, o2, hx, hu]
                refine hK _ _ ?_
                clear hK K
                refine XThen.norm ?_
                refine ⟨0, tk2, ?_, rfl⟩
                simp [Env.put, Env.of, st1]
              · skip
                simp only [Prod.mk.injEq] at hO
                obtain ⟨o1, o2⟩ := hO
                rw [← hxa, ← hub, o1, o2] at st1
                simp (disch := omega) only [↓RU, RV, RH, ↓reduceIte, Nat.reduceEqDiff, reduceCtorEq, if_pos, w64, ↓RS, RG, Nat.reduceAdd, Nat.reduceMul, Nat.reduceLeDiff, tyLint, tyint, o1, o2, hx, hu]
                refine hK _ _ ?_
                clear hK K
                refine XThen.norm ?_
                refine ⟨0, tk2, ?_, rfl⟩
                simp [Env.put, Env.of, st1]
            rintro vs S - ⟨tk3, rfl, rfl⟩
            refine W.region_k fun K hK => ?_
            rcases hO : (oneV (ahK p true a) (ahK p true b) i k, y == (a : Int)) with ⟨_ | _, _ | _⟩
            · skip
              simp only [Prod.mk.injEq] at hO
              obtain ⟨o1, o2⟩ := hO
              rw [← hya, ← hwb, o1, o2] at st2
              have hT := st2
              simp (disch := omega) only [↓RU, RV, RH, ↓reduceIte, Nat.reduceEqDiff, reduceCtorEq, if_pos, w64, ↓RS, RG, Nat.reduceAdd, Nat.reduceMul, Nat.reduceLeDiff, tyLint, tyint, o1, o2, hy, hw]
              refine hK _ _ ?_
              clear hK K
              refine XBlock.norm ?_
              refine XThen.norm ?_
              refine W.region_k fun K hK => ?_
              simp (disch := omega) only [↓RU, RV, RH, ↓reduceIte, Nat.reduceEqDiff, reduceCtorEq, if_pos, w64, ↓RS, RG, Nat.reduceAdd, Nat.reduceMul, Nat.reduceLeDiff, tyint]
              refine hK _ _ ?_
              clear hK K
              refine XThen.norm ?_
              refine ⟨(rP p).length - (k + 1), by omega, 0, k + 1, tk3, rfl, by omega, by omega, ?_, rfl⟩
              simp [Env.put, Env.of, hT]
            · skip
              simp only [Prod.mk.injEq] at hO
              obtain ⟨o1, o2⟩ := hO
              rw [← hya, ← hwb, o1, o2] at st2
              have hT := st2
              simp (disch := omega) only [↓RU, RV, RH, ↓reduceIte, Nat.reduceEqDiff, reduceCtorEq, if_pos, w64, ↓RS, RG, Nat.reduceAdd, Nat.reduceMul, Nat.reduceLeDiff, tyLint, tyint, o1, o2, hy, hw]
              refine hK _ _ ?_
              clear hK K
              refine XBlock.norm ?_
              refine XThen.norm ?_
              refine W.region_k fun K hK => ?_
              simp (disch := omega) only [↓RU, RV, RH, ↓reduceIte, Nat.reduceEqDiff, reduceCtorEq, if_pos, w64, ↓RS, RG, Nat.reduceAdd, Nat.reduceMul, Nat.reduceLeDiff, tyint]
              refine hK _ _ ?_
              clear hK K
              refine XThen.norm ?_
              refine ⟨(rP p).length - (k + 1), by omega, 0, k + 1, tk3, rfl, by omega, by omega, ?_, rfl⟩
              simp [Env.put, Env.of, hT]
            · skip
              simp only [Prod.mk.injEq] at hO
              obtain ⟨o1, o2⟩ := hO
              rw [← hya, ← hwb, o1, o2] at st2
              have hT := st2
              simp (disch := omega) only [↓RU, RV, RH, ↓reduceIte, Nat.reduceEqDiff, reduceCtorEq, if_pos, w64, ↓RS, RG, Nat.reduceAdd, Nat.reduceMul, Nat.reduceLeDiff, tyLint, tyint, o1, o2, hy, hw]
              refine hK _ _ ?_
              clear hK K
              refine XBlock.norm ?_
              refine XThen.norm ?_
              refine W.region_k fun K hK => ?_
              simp (disch := omega) only [↓RU, RV, RH, ↓reduceIte, Nat.reduceEqDiff, reduceCtorEq, if_pos, w64, ↓RS, RG, Nat.reduceAdd, Nat.reduceMul, Nat.reduceLeDiff, tyint]
              refine hK _ _ ?_
              clear hK K
              refine XThen.norm ?_
              refine ⟨(rP p).length - (k + 1), by omega, 0, k + 1, tk3, rfl, by omega, by omega, ?_, rfl⟩
              simp [Env.put, Env.of, hT]
            · skip
              simp only [Prod.mk.injEq] at hO
              obtain ⟨o1, o2⟩ := hO
              rw [← hya, ← hwb, o1, o2] at st2
              have hT := st2
              simp (disch := omega) only [↓RU, RV, RH, ↓reduceIte, Nat.reduceEqDiff, reduceCtorEq, if_pos, w64, ↓RS, RG, Nat.reduceAdd, Nat.reduceMul, Nat.reduceLeDiff, tyLint, tyint, o1, o2, hy, hw]
              refine hK _ _ ?_
              clear hK K
              refine XBlock.norm ?_
              refine XThen.norm ?_
              refine W.region_k fun K hK => ?_
              simp (disch := omega) only [↓RU, RV, RH, ↓reduceIte, Nat.reduceEqDiff, reduceCtorEq, if_pos, w64, ↓RS, RG, Nat.reduceAdd, Nat.reduceMul, Nat.reduceLeDiff, tyint]
              refine hK _ _ ?_
              clear hK K
              refine XThen.norm ?_
              refine ⟨(rP p).length - (k + 1), by omega, 0, k + 1, tk3, rfl, by omega, by omega, ?_, rfl⟩
              simp [Env.put, Env.of, hT]
          · try simp only [RL] at h3
            obtain rfl : k = (rP p).length := by omega
            refine W.exit ?_
            refine XThen.exit ?_
            refine XThen.exit ?_
            refine XBlock.hit ?_
            refine XBlock.norm ?_
            refine XThen.norm ?_
            refine W.region_k fun K hK => ?_
            simp (disch := omega) only [↓RU, RV, RH, ↓reduceIte, Nat.reduceEqDiff, reduceCtorEq, if_pos, w64, ↓RS, RG, Nat.reduceAdd, Nat.reduceMul, Nat.reduceLeDiff, tyint]
            refine hK _ _ ?_
            clear hK K
            refine XThen.norm ?_
            refine ⟨(rP p).length - (i + 1), by omega, 0, i + 1, tk2, rfl, by omega, ?_, rfl⟩
            simp [Env.put, Env.of, oneV_end (ahK_lt hp hnb)]
        · try simp only [RL] at h2
          obtain rfl : i = (rP p).length := by omega
          rw [one_is hp hna hnb, one_is hp hna hnb]
          refine W.exit ?_
          refine XThen.exit ?_
          refine XThen.exit ?_
          refine XBlock.hit ?_
          refine XThen.norm ?_
          refine W.seq_region fun K hK => ?_
          rcases hO : (bfK p false a b, bfK p true a b) with ⟨_ | _, _ | _⟩
          · skip
            simp only [Prod.mk.injEq] at hO
            obtain ⟨o1, o2⟩ := hO
            rw [o1, o2] at ho1 ho2
            simp only [Bool.and_self, Bool.not_true, Bool.not_false, Bool.and_true, Bool.and_false, Bool.false_and, Bool.true_and] at ho1 ho2
            simp (disch := omega) only [↓RU, RV, RH, ↓reduceIte, Nat.reduceEqDiff, reduceCtorEq, if_pos, w64, ↓RS, RG, Nat.reduceAdd, Nat.reduceMul, Nat.reduceLeDiff, tybool, tystring, pEq_bb, Option.map_some, bne_self_eq_false, beq_self_eq_true, Bool.not_true, Bool.not_false, decide_true, pStr, o1, o2, ho1, ho2]
            refine hK _ _ ?_
            clear hK K
            refine W.ret ?_
            refine BodyQ.ret rfl ?_
            rfl
          · skip
            simp only [Prod.mk.injEq] at hO
            obtain ⟨o1, o2⟩ := hO
            rw [o1, o2] at ho1 ho2
            simp only [Bool.and_self, Bool.not_true, Bool.not_false, Bool.and_true, Bool.and_false, Bool.false_and, Bool.true_and] at ho1 ho2
            simp (disch := omega) only [↓RU, RV, RH, ↓reduceIte, Nat.reduceEqDiff, reduceCtorEq, if_pos, w64, ↓RS, RG, Nat.reduceAdd, Nat.reduceMul, Nat.reduceLeDiff, tybool, tystring, pEq_bb, Option.map_some, bne_self_eq_false, beq_self_eq_true, Bool.not_true, Bool.not_false, decide_true, pStr, o1, o2, ho1, ho2]
            refine hK _ _ ?_
            clear hK K
            refine W.ret ?_
            refine BodyQ.ret rfl ?_
            rfl
          · skip
            simp only [Prod.mk.injEq] at hO
            obtain ⟨o1, o2⟩ := hO
            rw [o1, o2] at ho1 ho2
            simp only [Bool.and_self, Bool.not_true, Bool.not_false, Bool.and_true, Bool.and_false, Bool.false_and, Bool.true_and] at ho1 ho2
            simp (disch := omega) only [↓RU, RV, RH, ↓reduceIte, Nat.reduceEqDiff, reduceCtorEq, if_pos, w64, ↓RS, RG, Nat.reduceAdd, Nat.reduceMul, Nat.reduceLeDiff, tybool, tystring, pEq_bb, Option.map_some, bne_self_eq_false, beq_self_eq_true, Bool.not_true, Bool.not_false, decide_true, pStr, o1, o2, ho1, ho2]
            refine hK _ _ ?_
            clear hK K
            refine W.ret ?_
            refine BodyQ.ret rfl ?_
            rfl
          · skip
            simp only [Prod.mk.injEq] at hO
            obtain ⟨o1, o2⟩ := hO
            rw [o1, o2] at ho1 ho2
            simp only [Bool.and_self, Bool.not_true, Bool.not_false, Bool.and_true, Bool.and_false, Bool.false_and, Bool.true_and] at ho1 ho2
            simp (disch := omega) only [↓RU, RV, RH, ↓reduceIte, Nat.reduceEqDiff, reduceCtorEq, if_pos, w64, ↓RS, RG, Nat.reduceAdd, Nat.reduceMul, Nat.reduceLeDiff, tybool, tystring, pEq_bb, Option.map_some, bne_self_eq_false, beq_self_eq_true, Bool.not_true, Bool.not_false, decide_true, pStr, o1, o2, ho1, ho2]
            refine hK _ _ ?_
            clear hK K
            refine W.ret ?_
            refine BodyQ.ret rfl ?_
            rfl

end Fw
end Go.Proofs.YtcglmbijpjhbmaaGreat

/-! Rooms left of others are ahead of them in both orders: the law FnKindOrders answers true for all codes. No condition. -/
namespace Go.Proofs.YtcglmbijpjhbmaaGreat
open Go Go.ChangeShapes Go.WideShapes Go.ChangeAt Go.RowKit Fw

theorem Tryz.ownRv : ownKnob Tryz.prog.godebug = none := by kernel_rfl
theorem Tryz.laidOutRv : laidOutB Tryz.prog = true := by kernel_rfl

set_option maxRecDepth 100000 in
theorem rv_lifted (os : Os) (started : os.Started) (H : Type) (enc : TypeId × Value → H) :
    ReturnsInHanded {} Tryz.checked os 11 .any (Rows.fnKindOrdersSpec.pre6 enc Tryz.prog Tryz.f11 Rows.fnKindOrdersRow.domain false) (Rows.fnKindOrdersSpec.post enc Tryz.prog Tryz.f11 false true false false) := by
  refine returnsInHanded_of_change (C := Tryz.checked) Tryz.ownRv started (by kernel_rfl) Tryz.func11
    (ChangeSpec.witness6 (enc := enc) (C := Tryz.checked) false ⟨#[], #[.slice none 0 0], []⟩ 8 (by kernel_rfl) (by kernel_rfl) (by kernel_rfl) (by kernel_rfl)) ?_
  intro W base args ds gs before hval0 hW hcnd _
  have hval : ∀ (j : Nat) t v, Tryz.f11.params[j]? = some t → args[j]? = some v → Value.okWide Tryz.prog W .any base t v := hval0
  have hW' := hW
  obtain ⟨p, q, hA0, hV, rfl, hfz, hnd⟩ := hW
  have hA : DataW.TrodAll enc Tryz.prog W 0 (fun _ => true) true Tryz.f11.params.toList args.toList ds p := hA0
  rw [Tryz.params11] at hA hval
  obtain ⟨v0, d0, rfl, rfl, h0⟩ := trodAll_one hA
  obtain ⟨rfl, rfl⟩ := trodVars_none hV
  obtain ⟨l0, i0, b0⟩ := vi_bytes (hval 0 _ v0 rfl rfl) h0
  have hlt : ∀ x ∈ p, x.block < W.heap.size := fun x hx => hW'.lt x (by simp [hx])
  refine ((kindOrders_law b0).run (fun b => b < W.heap.size) W #[v0] (fun _ h => h) rfl ?_).mono ?_
  · rintro (_ | i) p c hp hc
    · cases hp; cases hc; exact i0
    · simp at hp
  · rintro e W' ⟨cv, rfl, hB, hr⟩
    have hcv : cv = .bool true := by cases hr; rfl
    subst hcv
    have t0 := Below.trod Tryz.laidOutRv (by kernel_rfl) (of_decide_eq_true (by kernel_rfl)) h0 hB fun x hx => hlt x (by simp [hx])
    refine ⟨_, rfl, _, _, _, [], p, [], hW', ?_, ?_, ?_, hB.frame _, fun h => by cases h⟩
    · exact trodAll_mk1 (shut_bool Tryz.underlying4 true)
    · rw [Tryz.params11]; exact trodAll_mk1 t0
    · trivial
theorem rv_holds : Rows.FnKindOrdersSaid :=
  OpenClaim.holds_of_wide 11 Tryz.f11 rfl rfl rfl rfl rfl rfl rfl ⟨rfl, rfl, rfl, rfl, rfl⟩ rfl rfl rfl rfl rfl (by kernel_rfl) Tryz.func11 (by kernel_rfl)
    (of_decide_eq_true (by kernel_rfl)) (by unfold Func.isWrapper; first | (rw [if_pos (by decide +kernel)]; kernel_rfl) | (rw [if_neg (by decide +kernel)]; exact ⟨rfl, rfl⟩))
    (fun os started H enc _ => rv_lifted os started H enc)
end Go.Proofs.YtcglmbijpjhbmaaGreat
