/- First orders go from the upper left room to the lower right one: the law FnFirst answers true for all codes. No condition. -/
import Derived.Test.YtcglmbijpjhbmaaGreatJ5
import Derived.Test.YtcglmbijpjhbmaaGreatJ3
import Derived.Test.YtcglmbijpjhbmaaGreatJ4
set_option linter.all false
/-! Drawing plans, gone through, continued. -/
namespace Go.Proofs.YtcglmbijpjhbmaaGreat
namespace Fw
open Go

theorem sm_set {p : List Txt} (h : Sm p) {i : Nat} {r : Txt} (hr : r.length ≤ 1048576) : Sm (p.set i r) := by
  refine ⟨by rw [List.length_set]; exact h.1, fun x hx => ?_⟩
  rcases List.mem_or_eq_of_mem_set hx with k | rfl
  · exact h.2 x k
  · exact hr
theorem set_hd {p : List Txt} {x : Txt} (h : 0 < p.length) : PV.str x :: List.drop 1 (p.map PV.str) = (p.set 0 x).map .str := by cases p with | nil => simp at h | cons a p => simp
theorem one_add {k : Nat} : (1 : Int) + (k : Int) = ((1 + k : Nat) : Int) := by omega

theorem l91Some_ev {code : Txt} {q vr t : Nat} (hc : code.length ≤ 1048576) (hq : q ≤ 700000) {rows cols : Nat} (h1 : 1 ≤ rows) (h2 : rows ≤ 6) (w1 : 1 ≤ cols) (w2 : cols ≤ 6) : Ev Tryz.prog 122 [.ref 0 vr 0, .int .i64 rows, .int .i64 cols] ⟨[.arr vr 119 2 [eBy code, .int .i64 (q : Int)]], t⟩ fun v S => ∃ (p2 : List Txt) (q2 t2 : Nat), v = eStrs p2 ∧ Sm p2 ∧ p2.length ≤ 6 ∧ q2 ≤ q + 200 ∧ S = ⟨[.arr vr 119 2 [eBy code, .int .i64 (q2 : Int)]], t2⟩ := by
  refine Ev.of ⟨Tryz.func122, by kernel_rfl, rfl, by kernel_rfl⟩ tabOk mixed (by show 3 ≤ Tryz.f122.ntmps; decide) ?_
  refine W.seq_region fun K hK => ?_
  simp (disch := omega) only [↓RU, RV, RH, ↓reduceIte, Nat.reduceEqDiff, reduceCtorEq, if_pos, ↓RS, RG, Nat.reduceAdd, Nat.reduceMul, Nat.reduceLeDiff]
  refine hK _ _ ?_
  clear hK K
  refine W.seq_region fun K hK => ?_
  simp (disch := omega) only [↓RU, RV, RH, ↓reduceIte, Nat.reduceEqDiff, reduceCtorEq, if_pos, List.append_nil, w64, ↓RS, RG, Nat.reduceAdd, Nat.reduceMul, Nat.reduceLeDiff, tyint]
  refine CallR.ev (pick_ev hc (by omega) (rows : Int) (by omega) (by omega)) ?_
  rintro _ _ ⟨k1, rfl, -, hk1, rfl⟩
  have hk1b := hk1 (by omega)
  simp (disch := omega) only [↓RU, RV, RH, ↓reduceIte, Nat.reduceEqDiff, reduceCtorEq, if_pos, List.append_nil, w64, ↓RS, RG, Nat.reduceAdd, Nat.reduceMul, Nat.reduceLeDiff, tyint, one_add]
  refine hK _ _ ?_
  clear hK K
  refine W.seq_region fun K hK => ?_
  simp (disch := omega) only [↓RU, RV, RH, ↓reduceIte, Nat.reduceEqDiff, reduceCtorEq, if_pos, List.append_nil, w64, ↓RS, RG, Nat.reduceAdd, Nat.reduceMul, Nat.reduceLeDiff, tyint]
  refine CallR.ev (pick_ev hc (by omega) (cols : Int) (by omega) (by omega)) ?_
  rintro _ _ ⟨k2, rfl, -, hk2, rfl⟩
  have hk2b := hk2 (by omega)
  simp (disch := omega) only [↓RU, RV, RH, ↓reduceIte, Nat.reduceEqDiff, reduceCtorEq, if_pos, List.append_nil, w64, ↓RS, RG, Nat.reduceAdd, Nat.reduceMul, Nat.reduceLeDiff, tyint, one_add]
  refine CallR.ev (l91Plan_ev (q := q + 1 + 1) hc (by omega) (nh := 1 + k1) (nw := 1 + k2) (by omega) (by omega) (by omega) (by omega)) ?_
  rintro _ _ ⟨p2, q2, t2, rfl, hp2, hl2, hq2, rfl⟩
  simp (disch := omega) only [↓RU, RV, RH, ↓reduceIte, Nat.reduceEqDiff, reduceCtorEq, if_pos, List.append_nil, w64, ↓RS, RG, Nat.reduceAdd, Nat.reduceMul, Nat.reduceLeDiff, tyint]
  refine hK _ _ ?_
  clear hK K
  obtain ⟨ps1, ps2, ps3⟩ := plan_small hp2
  have hsm := plan_sm hp2
  obtain ⟨nh, hnh⟩ : ∃ nh : Nat, 1 + k1 = nh := ⟨_, rfl⟩
  simp only [hnh] at hl2 ⊢
  refine W.joinZ [8] (fun vs S => ∃ (p3 : List Txt) (q3 tk : Nat), Sm p3 ∧ p3.length ≤ 6 ∧ q3 ≤ q + 200 ∧ vs = [eStrs p3] ∧ S = ⟨[.arr vr 119 2 [eBy code, .int .i64 (q3 : Int)]], tk⟩) ?_ ?_
  ·
    refine W.seq_region fun K hK => ?_
    simp (disch := omega) only [↓RU, RV, RH, ↓reduceIte, Nat.reduceEqDiff, reduceCtorEq, if_pos, List.append_nil, ↓RS, RG, Nat.reduceAdd, Nat.reduceMul, Nat.reduceLeDiff]
    refine CallR.ev (pick_ev hc (by omega) 50 (by omega) (by omega)) ?_
    rintro _ _ ⟨k3, rfl, -, hk3, rfl⟩
    simp (disch := omega) only [↓RU, RV, RH, ↓reduceIte, Nat.reduceEqDiff, reduceCtorEq, if_pos, List.append_nil, ↓RS, RG, Nat.reduceAdd, Nat.reduceMul, Nat.reduceLeDiff]
    refine hK _ _ ?_
    clear hK K
    refine W.block ?_
    refine W.seq_region fun K hK => ?_
    simp (disch := omega) only [↓RU, RV, RH, ↓reduceIte, Nat.reduceEqDiff, reduceCtorEq, if_pos, w64, ↓RS, RG, Nat.reduceAdd, Nat.reduceMul, Nat.reduceLeDiff, tyint]
    refine hK _ _ ?_
    clear hK K
    refine W.cond rfl (fun h0 => ?_) (fun h0 => ?_)
    · try simp only [RL] at h0
      obtain ⟨row, hrow, hrm⟩ := get_of (show nh - 1 < p2.length by omega)
      have hr6 := (ps3 row hrm).2
      refine W.seq_region fun K hK => ?_
      simp (disch := omega) only [↓RU, RV, RH, ↓reduceIte, Nat.reduceEqDiff, reduceCtorEq, if_pos, ↓RS, RG, Nat.reduceAdd, Nat.reduceMul, Nat.reduceLeDiff, tyLstring, tystring]
      refine hK _ _ ?_
      clear hK K
      refine W.region_k fun K hK => ?_
      simp (disch := omega) only [↓RU, RV, RH, ↓reduceIte, Nat.reduceEqDiff, reduceCtorEq, if_pos, w64, ↓RS, RG, Nat.reduceAdd, Nat.reduceMul, Nat.reduceLeDiff, tyLstring, tyint, tystring, toNat_pred, hrow, pStr, set_spl, set_str, cells_str, List.length_cons, List.length_nil]
      refine hK _ _ ?_
      clear hK K
      refine XBlock.norm ?_
      refine XThen.norm ?_
      have hPs : Sm (p2.set (nh - 1) (row ++ [97])) := sm_set hsm (by simp; omega)
      have hPl : (p2.set (nh - 1) (row ++ [97])).length = p2.length := by simp
      generalize p2.set (nh - 1) (row ++ [97]) = P at hPs hPl ⊢
      have htk : (P.map PV.str).take p2.length = P.map .str := List.take_of_length_le (by simp [hPl])
      refine ⟨1, [eStrs P], ⟨[.arr vr 119 2 [eBy code, .int .i64 ((q2 + 1 : Nat) : Int)]], t2 + 1 + 1⟩, ?_, ?_, P, q2 + 1, t2 + 1 + 1, hPs, by omega, by omega, rfl, rfl⟩
      · simp [-List.mapM_map, Store.frz, frzObs, frzOb, frz_eInts, frz_loc, rfz_loc, frz_int, frz_sl, frz_ints, rfz_ints, frz_strs, frz_bytes, rfz_bytes, rfz_str, rfz_bool, frz_str, frz_bool, Env.put, Env.of, argEnv, rfz_int, List.mapM_append, List.mapM_cons, frz_ref0, tk_strs, rfz_tstr, htk, hPl]
      · simp [-List.mapM_map, Store.frz, frzObs, frzOb, frz_eInts, frz_loc, rfz_loc, frz_int, frz_sl, frz_ints, rfz_ints, frz_strs, frz_bytes, rfz_bytes, rfz_str, rfz_bool, frz_str, frz_bool, Env.put, Env.of, argEnv, rfz_int, List.mapM_append, List.mapM_cons, frz_ref0, tk_strs, rfz_tstr]
    · try simp only [RL] at h0
      refine W.seq_region fun K hK => ?_
      simp (disch := omega) only [↓RU, RV, RH, ↓reduceIte, Nat.reduceEqDiff, reduceCtorEq, if_pos, w64, ↓RS, RG, Nat.reduceAdd, Nat.reduceMul, Nat.reduceLeDiff, tyint]
      refine hK _ _ ?_
      clear hK K
      refine W.cond rfl (fun h1 => ?_) (fun h1 => ?_)
      · try simp only [RL] at h1
        obtain ⟨row, hrow, hrm⟩ := get_of (show 0 < p2.length by omega)
        have hr6 := ps3 row hrm
        have hdl : (row.drop 1).length ≤ 6 := by rw [List.length_drop]; omega
        refine W.seq_region fun K hK => ?_
        simp (disch := omega) only [↓RU, RV, RH, ↓reduceIte, Nat.reduceEqDiff, reduceCtorEq, if_pos, ↓RS, RG, Nat.reduceAdd, Nat.reduceMul, Nat.reduceLeDiff, tyLstring, tystring]
        refine hK _ _ ?_
        clear hK K
        refine W.region_k fun K hK => ?_
        simp (disch := omega) only [↓RU, RV, RH, ↓reduceIte, Nat.reduceEqDiff, reduceCtorEq, if_pos, Option.map_none, w64, ↓RS, RG, Nat.reduceAdd, Nat.reduceMul, Nat.reduceLeDiff, tyLstring, tystring, hrow, pStr, set_spl, set_str, cells_str, List.length_cons, List.length_nil, Int.toNat_zero, Int.reduceToNat, List.take_length, Nat.zero_mul, Nat.zero_add]
        refine hK _ _ ?_
        clear hK K
        rw [set_hd (show 0 < p2.length by omega)]
        refine XBlock.norm ?_
        refine XThen.norm ?_
        have hPs : Sm (p2.set 0 (122 :: row.drop 1)) := sm_set hsm (by simp; omega)
        have hPl : (p2.set 0 (122 :: row.drop 1)).length = p2.length := by simp
        generalize p2.set 0 (122 :: row.drop 1) = P at hPs hPl ⊢
        have htk : (P.map PV.str).take p2.length = P.map .str := List.take_of_length_le (by simp [hPl])
        refine ⟨1, [eStrs P], ⟨[.arr vr 119 2 [eBy code, .int .i64 ((q2 + 1 : Nat) : Int)]], t2 + 1 + 1⟩, ?_, ?_, P, q2 + 1, t2 + 1 + 1, hPs, by omega, by omega, rfl, rfl⟩
        · simp [-List.mapM_map, Store.frz, frzObs, frzOb, frz_eInts, frz_loc, rfz_loc, frz_int, frz_sl, frz_ints, rfz_ints, frz_strs, frz_bytes, rfz_bytes, rfz_str, rfz_bool, frz_str, frz_bool, Env.put, Env.of, argEnv, rfz_int, List.mapM_append, List.mapM_cons, frz_ref0, tk_strs, rfz_tstr, htk, hPl]
        · simp [-List.mapM_map, Store.frz, frzObs, frzOb, frz_eInts, frz_loc, rfz_loc, frz_int, frz_sl, frz_ints, rfz_ints, frz_strs, frz_bytes, rfz_bytes, rfz_str, rfz_bool, frz_str, frz_bool, Env.put, Env.of, argEnv, rfz_int, List.mapM_append, List.mapM_cons, frz_ref0, tk_strs, rfz_tstr]
      · try simp only [RL] at h1
        refine W.skip ?_
        refine XBlock.norm ?_
        refine XThen.norm ?_
        have hPs := hsm
        have hPl : p2.length = p2.length := rfl
        have htk : True := trivial
        refine ⟨1, [eStrs p2], ⟨[.arr vr 119 2 [eBy code, .int .i64 ((q2 + 1 : Nat) : Int)]], t2⟩, ?_, ?_, p2, q2 + 1, t2, hPs, by omega, by omega, rfl, rfl⟩
        · simp [-List.mapM_map, Store.frz, frzObs, frzOb, frz_eInts, frz_loc, rfz_loc, frz_int, frz_sl, frz_ints, rfz_ints, frz_strs, frz_bytes, rfz_bytes, rfz_str, rfz_bool, frz_str, frz_bool, Env.put, Env.of, argEnv, rfz_int, List.mapM_append, List.mapM_cons, frz_ref0, tk_strs, rfz_tstr, htk, hPl]
        · simp [-List.mapM_map, Store.frz, frzObs, frzOb, frz_eInts, frz_loc, rfz_loc, frz_int, frz_sl, frz_ints, rfz_ints, frz_strs, frz_bytes, rfz_bytes, rfz_str, rfz_bool, frz_str, frz_bool, Env.put, Env.of, argEnv, rfz_int, List.mapM_append, List.mapM_cons, frz_ref0, tk_strs, rfz_tstr]
  rintro vs S - ⟨p3, q3, tk, hs3, hl3, hq3, rfl, rfl⟩
  refine W.seq_region fun K hK => ?_
  simp (disch := omega) only [↓RU, RV, RH, ↓reduceIte, Nat.reduceEqDiff, reduceCtorEq, if_pos, ↓RS, RG, Nat.reduceAdd, Nat.reduceMul, Nat.reduceLeDiff]
  refine hK _ _ ?_
  clear hK K
  refine W.ret ?_
  refine BodyQ.ret rfl ?_
  exact ⟨_, p3, q3, tk, rfl, hs3, hl3, hq3, take_all⟩

theorem l91Plain_ev {code : Txt} {q vr t : Nat} (hc : code.length ≤ 1048576) (hq : q ≤ 600000) {rows cols : Nat} (h1 : 1 ≤ rows) (h2 : rows ≤ 6) (w1 : 1 ≤ cols) (w2 : cols ≤ 6) : Ev Tryz.prog 97 [.ref 0 vr 0, .int .i64 rows, .int .i64 cols] ⟨[.arr vr 119 2 [eBy code, .int .i64 (q : Int)]], t⟩ fun v S => ∃ (p2 : List Txt) (q2 t2 : Nat), v = eStrs p2 ∧ Sm p2 ∧ p2.length ≤ 6 ∧ q2 ≤ q + 1000 ∧ S = ⟨[.arr vr 119 2 [eBy code, .int .i64 (q2 : Int)]], t2⟩ := by
  refine Ev.of ⟨Tryz.func97, by kernel_rfl, rfl, by kernel_rfl⟩ tabOk mixed (by show 3 ≤ Tryz.f97.ntmps; decide) ?_
  refine W.seq_region fun K hK => ?_
  simp (disch := omega) only [↓RU, RV, RH, ↓reduceIte, Nat.reduceEqDiff, reduceCtorEq, if_pos, ↓RS, RG, Nat.reduceAdd, Nat.reduceMul, Nat.reduceLeDiff]
  refine hK _ _ ?_
  clear hK K
  refine W.seq_region fun K hK => ?_
  simp (disch := omega) only [↓RU, RV, RH, ↓reduceIte, Nat.reduceEqDiff, reduceCtorEq, if_pos, List.append_nil, ↓RS, RG, Nat.reduceAdd, Nat.reduceMul, Nat.reduceLeDiff]
  refine CallR.ev (l91Some_ev (q := q) hc (by omega) h1 h2 w1 w2) ?_
  rintro _ _ ⟨p3, q3, t3, rfl, hs3, hl3, hq3, rfl⟩
  simp (disch := omega) only [↓RU, RV, RH, ↓reduceIte, Nat.reduceEqDiff, reduceCtorEq, if_pos, List.append_nil, ↓RS, RG, Nat.reduceAdd, Nat.reduceMul, Nat.reduceLeDiff]
  refine hK _ _ ?_
  clear hK K
  refine W.seq ?_
  refine W.seq_region fun K hK => ?_
  simp (disch := omega) only [↓RU, RV, RH, ↓reduceIte, Nat.reduceEqDiff, reduceCtorEq, if_pos, ↓RS, RG, Nat.reduceAdd, Nat.reduceMul, Nat.reduceLeDiff]
  refine hK _ _ ?_
  clear hK K
  refine W.block ?_
  refine W.loop [0, 1, 2, 7, 8] (fun n vs S => ∃ (i : Nat) (p2 : List Txt) (q2 tk : Nat), n = 3 - i ∧ i ≤ 3 ∧ Sm p2 ∧ p2.length ≤ 6 ∧ q2 ≤ q + 200 + 200 * i ∧ vs = [.ref 0 vr 0, .int .i64 rows, .int .i64 cols, eStrs p2, .int .i64 i] ∧ S = ⟨[.arr vr 119 2 [eBy code, .int .i64 (q2 : Int)]], tk⟩) 3 ?_ ?_
  · refine ⟨1, 0, p3, q3, t3, rfl, by omega, hs3, hl3, by omega, ?_, rfl⟩
    simp [Env.put, Env.of, argEnv]
  rintro n vs S - ⟨i, p2, q2, tk, rfl, h_i, hs2, hl2, hq2, rfl, rfl⟩
  refine W.seq ?_
  refine W.seq_region fun K hK => ?_
  by_cases hi3 : i < 3
  · skip
    have hd : decide ((i : Int) < 3) = true := decide_eq_true (by omega)
    simp (disch := omega) only [↓RU, RV, RH, ↓reduceIte, Nat.reduceEqDiff, reduceCtorEq, if_pos, w64, List.append_nil, ↓RS, RG, Nat.reduceAdd, Nat.reduceMul, Nat.reduceLeDiff, tyint, hd]
    refine CallR.pc (sWallPlain_pc hs2) rfl (.inl rfl) ?_
    simp (disch := omega) only [↓RU, RV, RH, ↓reduceIte, Nat.reduceEqDiff, reduceCtorEq, if_pos, w64, List.append_nil, ↓RS, RG, Nat.reduceAdd, Nat.reduceMul, Nat.reduceLeDiff, tyint, hd]
    refine hK _ _ ?_
    clear hK K
    refine W.cond rfl (fun h => ?_) (fun h => ?_)
    · try simp only [RL] at h
      refine W.skip ?_
      refine XThen.norm ?_
      refine W.seq ?_
      refine W.block ?_
      refine W.region_k fun K hK => ?_
      simp (disch := omega) only [↓RU, RV, RH, ↓reduceIte, Nat.reduceEqDiff, reduceCtorEq, if_pos, List.append_nil, ↓RS, RG, Nat.reduceAdd, Nat.reduceMul, Nat.reduceLeDiff]
      refine CallR.ev (l91Some_ev (q := q2) hc (by omega) h1 h2 w1 w2) ?_
      rintro _ _ ⟨p3, q3, t3, rfl, hs3, hl3, hq3, rfl⟩
      simp (disch := omega) only [↓RU, RV, RH, ↓reduceIte, Nat.reduceEqDiff, reduceCtorEq, if_pos, List.append_nil, ↓RS, RG, Nat.reduceAdd, Nat.reduceMul, Nat.reduceLeDiff]
      refine hK _ _ ?_
      clear hK K
      refine XBlock.norm ?_
      refine XThen.norm ?_
      refine W.region_k fun K hK => ?_
      simp (disch := omega) only [↓RU, RV, RH, ↓reduceIte, Nat.reduceEqDiff, reduceCtorEq, if_pos, w64, ↓RS, RG, Nat.reduceAdd, Nat.reduceMul, Nat.reduceLeDiff, tyint]
      refine hK _ _ ?_
      clear hK K
      refine XThen.norm ?_
      refine ⟨3 - (i + 1), by omega, 1, i + 1, p3, q3, t3, rfl, by omega, hs3, hl3, by omega, ?_, rfl⟩
      simp [Env.put, Env.of]
    · try simp only [RL] at h
      refine W.exit ?_
      refine XThen.exit ?_
      refine XThen.exit ?_
      refine XBlock.hit ?_
      refine XThen.norm ?_
      refine W.seq_region fun K hK => ?_
      simp (disch := omega) only [↓RU, RV, RH, ↓reduceIte, Nat.reduceEqDiff, reduceCtorEq, if_pos, ↓RS, RG, Nat.reduceAdd, Nat.reduceMul, Nat.reduceLeDiff]
      refine hK _ _ ?_
      clear hK K
      refine W.ret ?_
      refine BodyQ.ret rfl ?_
      exact ⟨_, p2, q2, tk, rfl, hs2, hl2, by omega, take_all⟩
  · skip
    have hd : decide ((i : Int) < 3) = false := decide_eq_false (by omega)
    simp (disch := omega) only [↓RU, RV, RH, ↓reduceIte, Nat.reduceEqDiff, reduceCtorEq, if_pos, w64, List.append_nil, ↓RS, RG, Nat.reduceAdd, Nat.reduceMul, Nat.reduceLeDiff, tyint, hd]
    refine hK _ _ ?_
    clear hK K
    refine W.cond rfl (fun h => ?_) (fun h => ?_)
    · try simp only [RL] at h
      exact absurd h (by simp)
    · try simp only [RL] at h
      refine W.exit ?_
      refine XThen.exit ?_
      refine XThen.exit ?_
      refine XBlock.hit ?_
      refine XThen.norm ?_
      refine W.seq_region fun K hK => ?_
      simp (disch := omega) only [↓RU, RV, RH, ↓reduceIte, Nat.reduceEqDiff, reduceCtorEq, if_pos, ↓RS, RG, Nat.reduceAdd, Nat.reduceMul, Nat.reduceLeDiff]
      refine hK _ _ ?_
      clear hK K
      refine W.ret ?_
      refine BodyQ.ret rfl ?_
      exact ⟨_, p2, q2, tk, rfl, hs2, hl2, by omega, take_all⟩

end Fw
end Go.Proofs.YtcglmbijpjhbmaaGreat

/-! Drawing needs, gone through. -/
namespace Go.Proofs.YtcglmbijpjhbmaaGreat
namespace Fw
open Go

theorem tdiv39 {k : Nat} : ((k : Nat) : Int).tdiv 39 = ((k / 39 : Nat) : Int) := (Int.ofNat_tdiv k 39).symm
theorem tdiv59 {k : Nat} : ((k : Nat) : Int).tdiv 59 = ((k / 59 : Nat) : Int) := (Int.ofNat_tdiv k 59).symm
theorem tw39 : ((39 : Int) = 0) = False := by simp
theorem tw59 : ((59 : Int) = 0) = False := by simp
theorem tk_ints {l : List Int} {q : IntKind} : (l.map (PV.int q)).take l.length = l.map (.int q) := List.take_of_length_le (by simp)
theorem tk_i {l : List Int} {q : IntKind} {i : Nat} (h : l.length = i) : (l.map (PV.int q)).take i = l.map (.int q) := List.take_of_length_le (by simp [h])

theorem l92Needs_ev {code : Txt} {q vr t : Nat} (hc : code.length ≤ 1048576) (hq : q ≤ 700000) {p : List Txt} (hs : Sm p) : Ev Tryz.prog 99 [.ref 0 vr 0, eStrs p] ⟨[.arr vr 119 2 [eBy code, .int .i64 (q : Int)]], t⟩ fun v S => ∃ (l : List Int) (q2 t2 v1 : Nat), v = .loc 1 v1 0 l.length ∧ l.length ≤ 400 ∧ q2 ≤ q + 1000 ∧ S = ⟨[.arr vr 119 2 [eBy code, .int .i64 (q2 : Int)], .arr v1 3 1 (l.map (.int .i64))], t2⟩ := by
  have hrb := l1Rooms_bound p
  refine Ev.of ⟨Tryz.func99, by kernel_rfl, rfl, by kernel_rfl⟩ tabOk mixed (by show 2 ≤ Tryz.f99.ntmps; decide) ?_
  refine W.seq_region fun K hK => ?_
  simp (disch := omega) only [↓RU, RV, RH, ↓reduceIte, Nat.reduceEqDiff, reduceCtorEq, if_pos, ↓RS, RG, Nat.reduceAdd, Nat.reduceMul, Nat.reduceLeDiff]
  refine hK _ _ ?_
  clear hK K
  refine W.seq_region fun K hK => ?_
  simp (disch := omega) only [↓RU, RV, RH, ↓reduceIte, Nat.reduceEqDiff, reduceCtorEq, if_pos, ↓RS, RG, Nat.reduceAdd, Nat.reduceMul, Nat.reduceLeDiff, tyLint, tyint]
  refine hK _ _ ?_
  clear hK K
  refine W.seq_region fun K hK => ?_
  simp (disch := omega) only [↓RU, RV, RH, ↓reduceIte, Nat.reduceEqDiff, reduceCtorEq, if_pos, List.append_nil, w64, ↓RS, RG, Nat.reduceAdd, Nat.reduceMul, Nat.reduceLeDiff, tyint]
  refine CallR.pc (l1Rooms_pc hs) rfl (.inl rfl) ?_
  simp (disch := omega) only [↓RU, RV, RH, ↓reduceIte, Nat.reduceEqDiff, reduceCtorEq, if_pos, List.append_nil, w64, ↓RS, RG, Nat.reduceAdd, Nat.reduceMul, Nat.reduceLeDiff, tyint]
  refine CallR.ev (pick_ev (q := q) hc (by omega) 40 (by omega) (by omega)) ?_
  rintro _ _ ⟨k0, rfl, hk0z, hk0, rfl⟩
  have hk0b := hk0 (by omega)
  simp (disch := omega) only [↓RU, RV, RH, ↓reduceIte, Nat.reduceEqDiff, reduceCtorEq, if_pos, List.append_nil, w64, ↓RS, RG, Nat.reduceAdd, Nat.reduceMul, Nat.reduceLeDiff, tyint, tdiv39, tw39, tdiv59, tw59]
  refine hK _ _ ?_
  clear hK K
  obtain ⟨N, hN⟩ : ∃ N : Nat, l1Rooms p + ((k0 / 39 : Nat) : Int) = N := ⟨(l1Rooms p + ((k0 / 39 : Nat) : Int)).toNat, by omega⟩
  have hN2 : N ≤ 300 := by omega
  simp only [hN]
  refine W.seq ?_
  refine W.seq_region fun K hK => ?_
  simp (disch := omega) only [↓RU, RV, RH, ↓reduceIte, Nat.reduceEqDiff, reduceCtorEq, if_pos, ↓RS, RG, Nat.reduceAdd, Nat.reduceMul, Nat.reduceLeDiff]
  refine hK _ _ ?_
  clear hK K
  refine W.block ?_
  refine W.loop [0, 1, 5, 6, 7] (fun n vs S => ∃ (i q2 v1 t2 : Nat) (l : List Int), n = N - i ∧ i ≤ N ∧ l.length = i ∧ q2 ≤ q + 1 + 2 * i ∧ vs = [.ref 0 vr 0, eStrs p, .loc 1 v1 0 i, .int .i64 N, .int .i64 i] ∧ S = ⟨[.arr vr 119 2 [eBy code, .int .i64 (q2 : Int)], .arr v1 3 1 (l.map (.int .i64))], t2⟩) N ?_ ?_
  · refine ⟨2, 0, q + 1, t, t + 1, [], rfl, by omega, rfl, by omega, ?_, rfl⟩
    simp [Env.put, Env.of, argEnv]
  rintro n vs S - ⟨i, q2, v1, t2, l, rfl, h_i, hll, hq2, rfl, rfl⟩
  refine W.seq ?_
  refine W.seq_region fun K hK => ?_
  simp (disch := omega) only [↓RU, RV, RH, ↓reduceIte, Nat.reduceEqDiff, reduceCtorEq, if_pos, w64, ↓RS, RG, Nat.reduceAdd, Nat.reduceMul, Nat.reduceLeDiff, tyint]
  refine hK _ _ ?_
  clear hK K
  refine W.cond rfl (fun h => ?_) (fun h => ?_)
  · try simp only [RL] at h
    refine W.skip ?_
    refine XThen.norm ?_
    refine W.seq ?_
    refine W.block ?_
    refine W.region_k fun K hK => ?_
    simp (disch := omega) only [↓RU, RV, RH, ↓reduceIte, Nat.reduceEqDiff, reduceCtorEq, if_pos, List.append_nil, w64, ↓RS, RG, Nat.reduceAdd, Nat.reduceMul, Nat.reduceLeDiff, tyLint, tyint, tk_i hll]
    refine CallR.ev (pick_ev (q := q2) hc (by omega) 6 (by omega) (by omega)) ?_
    rintro _ _ ⟨k1, rfl, hk1z, hk1, rfl⟩
    have hk1b := hk1 (by omega)
    simp (disch := omega) only [↓RU, RV, RH, ↓reduceIte, Nat.reduceEqDiff, reduceCtorEq, if_pos, List.append_nil, w64, ↓RS, RG, Nat.reduceAdd, Nat.reduceMul, Nat.reduceLeDiff, tyLint, tyint, tk_i hll, tdiv39, tw39, tdiv59, tw59]
    refine CallR.ev (pick_ev (q := q2 + 1) hc (by omega) 60 (by omega) (by omega)) ?_
    rintro _ _ ⟨k2, rfl, hk2z, hk2, rfl⟩
    have hk2b := hk2 (by omega)
    simp (disch := omega) only [↓RU, RV, RH, ↓reduceIte, Nat.reduceEqDiff, reduceCtorEq, if_pos, List.append_nil, w64, ↓RS, RG, Nat.reduceAdd, Nat.reduceMul, Nat.reduceLeDiff, tyLint, tyint, tk_i hll, tdiv39, tw39, tdiv59, tw59]
    refine hK _ _ ?_
    clear hK K
    refine XBlock.norm ?_
    refine XThen.norm ?_
    refine W.region_k fun K hK => ?_
    simp (disch := omega) only [↓RU, RV, RH, ↓reduceIte, Nat.reduceEqDiff, reduceCtorEq, if_pos, w64, ↓RS, RG, Nat.reduceAdd, Nat.reduceMul, Nat.reduceLeDiff, tyint]
    refine hK _ _ ?_
    clear hK K
    refine XThen.norm ?_
    refine ⟨N - (i + 1), by omega, 2, i + 1, q2 + 1 + 1, t2 + 1, t2 + 2, l ++ [1 + (k1 : Int) + ((k2 / 59 : Nat) : Int) * 9], rfl, by omega, by simp [hll], by omega, ?_, ?_⟩
    all_goals simp [Env.put, Env.of, take_eq, tk_le, hll, tk_i hll]
  · try simp only [RL] at h
    obtain rfl : i = N := by omega
    refine W.exit ?_
    refine XThen.exit ?_
    refine XThen.exit ?_
    refine XBlock.hit ?_
    refine XThen.norm ?_
    refine W.seq_region fun K hK => ?_
    simp (disch := omega) only [↓RU, RV, RH, ↓reduceIte, Nat.reduceEqDiff, reduceCtorEq, if_pos, ↓RS, RG, Nat.reduceAdd, Nat.reduceMul, Nat.reduceLeDiff]
    refine hK _ _ ?_
    clear hK K
    refine W.ret ?_
    refine BodyQ.ret rfl ?_
    exact ⟨_, l, q2, t2, v1, by rw [hll]; rfl, by omega, by omega, take_all⟩

theorem l92Sized_ev {code : Txt} (hc : code.length ≤ 1048576) : Ev Tryz.prog 68 [eBy code] ⟨[], 0⟩ fun v S => ∃ (p : List Txt) (ws : List Int) (t : Nat), Sm p ∧ ws.length ≤ 400 ∧ v = .tup [eStrs p, eInts ws] ∧ S = ⟨[], t⟩ := by
  refine Ev.of ⟨Tryz.func68, by kernel_rfl, rfl, by kernel_rfl⟩ tabOk mixed (by show 1 ≤ Tryz.f68.ntmps; decide) ?_
  refine W.seq_region fun K hK => ?_
  simp (disch := omega) only [↓RU, RV, RH, ↓reduceIte, Nat.reduceEqDiff, reduceCtorEq, if_pos, ↓RS, RG, Nat.reduceAdd, Nat.reduceMul, Nat.reduceLeDiff]
  refine hK _ _ ?_
  clear hK K
  refine W.seq_region fun K hK => ?_
  simp (disch := omega) only [↓RU, RV, RH, ↓reduceIte, Nat.reduceEqDiff, reduceCtorEq, if_pos, List.append_nil, ↓RS, RG, Nat.reduceAdd, Nat.reduceMul, Nat.reduceLeDiff, rdO]
  refine CallR.pn (l6Open_pn hc) rfl (.inr rfl) ?_
  simp (disch := omega) only [↓RU, RV, RH, ↓reduceIte, Nat.reduceEqDiff, reduceCtorEq, if_pos, List.append_nil, ↓RS, RG, Nat.reduceAdd, Nat.reduceMul, Nat.reduceLeDiff, rdO, rdO, RN]
  refine hK _ _ ?_
  clear hK K
  refine W.seq_region fun K hK => ?_
  have hc2 : (code.take 2000).length ≤ 1048576 := by rw [List.length_take]; omega
  generalize code.take 2000 = code2 at hc2 ⊢
  simp (disch := omega) only [↓RU, RV, RH, ↓reduceIte, Nat.reduceEqDiff, reduceCtorEq, if_pos, List.append_nil, ↓RS, RG, Nat.reduceAdd, Nat.reduceMul, Nat.reduceLeDiff]
  refine CallR.ev (l91Plain_ev (q := 0) (code := code2) hc2 (by omega) (rows := 5) (cols := 5) (by omega) (by omega) (by omega) (by omega)) ?_
  rintro _ _ ⟨p, q, t, rfl, hs, hl, hq, rfl⟩
  simp (disch := omega) only [↓RU, RV, RH, ↓reduceIte, Nat.reduceEqDiff, reduceCtorEq, if_pos, List.append_nil, ↓RS, RG, Nat.reduceAdd, Nat.reduceMul, Nat.reduceLeDiff]
  refine hK _ _ ?_
  clear hK K
  refine W.joinZ [2, 3] (fun vs S => ∃ (ws : List Int) (tk : Nat), ws.length ≤ 400 ∧ vs = [eStrs p, eInts ws] ∧ S = ⟨[], tk⟩) ?_ ?_
  ·
    refine W.region_k fun K hK => ?_
    simp (disch := omega) only [↓RU, RV, RH, ↓reduceIte, Nat.reduceEqDiff, reduceCtorEq, if_pos, List.append_nil, ↓RS, RG, Nat.reduceAdd, Nat.reduceMul, Nat.reduceLeDiff]
    refine CallR.ev (l92Needs_ev (q := q) hc2 (by omega) hs) ?_
    rintro _ _ ⟨ws, q2, t2, v1, rfl, hwsl, hq2, rfl⟩
    simp (disch := omega) only [↓RU, RV, RH, ↓reduceIte, Nat.reduceEqDiff, reduceCtorEq, if_pos, List.append_nil, ↓RS, RG, Nat.reduceAdd, Nat.reduceMul, Nat.reduceLeDiff]
    refine hK _ _ ?_
    clear hK K
    refine XThen.norm ?_
    refine ⟨0, [eStrs p, eInts ws], ⟨[], t2⟩, ?_, ?_, ws, t2, hwsl, rfl, rfl⟩
    · simp [-List.mapM_map, Store.frz, frzObs, frzOb, frz_eInts, frz_loc, rfz_loc, frz_int, frz_sl, frz_ints, rfz_ints, frz_strs, frz_bytes, rfz_bytes, rfz_str, rfz_bool, frz_str, frz_bool, Env.put, Env.of, argEnv, rfz_int, List.mapM_append, List.mapM_cons, frz_ref0, tk_strs, rfz_tstr, tk_ints, ← frz_eInts]
    · simp [-List.mapM_map, Store.frz, frzObs, frzOb, frz_eInts, frz_loc, rfz_loc, frz_int, frz_sl, frz_ints, rfz_ints, frz_strs, frz_bytes, rfz_bytes, rfz_str, rfz_bool, frz_str, frz_bool, Env.put, Env.of, argEnv, rfz_int, List.mapM_append, List.mapM_cons, frz_ref0, tk_strs, rfz_tstr, tk_ints]
  rintro vs S - ⟨ws, tk, hwsl, rfl, rfl⟩
  refine W.ret ?_
  refine BodyQ.ret rfl ?_
  exact ⟨0, p, ws, tk, hs, hwsl, rfl, rfl⟩

theorem l91Order_ev {code : Txt} (hc : code.length ≤ 1048576) : Ev Tryz.prog 93 [eBy code] ⟨[], 0⟩ fun v S => ∃ (p : List Txt) (t : Nat), Sm p ∧ v = eStrs p ∧ S = ⟨[], t⟩ := by
  refine Ev.of ⟨Tryz.func93, by kernel_rfl, rfl, by kernel_rfl⟩ tabOk mixed (by show 1 ≤ Tryz.f93.ntmps; decide) ?_
  refine W.seq_region fun K hK => ?_
  simp (disch := omega) only [↓RU, RV, RH, ↓reduceIte, Nat.reduceEqDiff, reduceCtorEq, if_pos, ↓RS, RG, Nat.reduceAdd, Nat.reduceMul, Nat.reduceLeDiff]
  refine hK _ _ ?_
  clear hK K
  refine W.seq_region fun K hK => ?_
  simp (disch := omega) only [↓RU, RV, RH, ↓reduceIte, Nat.reduceEqDiff, reduceCtorEq, if_pos, List.append_nil, ↓RS, RG, Nat.reduceAdd, Nat.reduceMul, Nat.reduceLeDiff, rdO]
  refine CallR.pn (l6Open_pn hc) rfl (.inr rfl) ?_
  simp (disch := omega) only [↓RU, RV, RH, ↓reduceIte, Nat.reduceEqDiff, reduceCtorEq, if_pos, List.append_nil, ↓RS, RG, Nat.reduceAdd, Nat.reduceMul, Nat.reduceLeDiff, rdO, rdO, RN]
  have hc2 : (code.take 2000).length ≤ 1048576 := by rw [List.length_take]; omega
  generalize code.take 2000 = code2 at hc2 ⊢
  refine CallR.ev (l91Plain_ev (q := 0) (code := code2) hc2 (by omega) (rows := 5) (cols := 5) (by omega) (by omega) (by omega) (by omega)) ?_
  rintro _ _ ⟨p, q, t, rfl, hs, hl, hq, rfl⟩
  simp (disch := omega) only [↓RU, RV, RH, ↓reduceIte, Nat.reduceEqDiff, reduceCtorEq, if_pos, List.append_nil, ↓RS, RG, Nat.reduceAdd, Nat.reduceMul, Nat.reduceLeDiff, rdO]
  refine hK _ _ ?_
  clear hK K
  refine W.ret ?_
  refine BodyQ.ret rfl ?_
  exact ⟨0, p, _, hs, rfl, rfl⟩

theorem drawOrderFirst_ev {code : Txt} (hc : code.length ≤ 1048576) : Ev Tryz.prog 55 [eBy code] ⟨[], 0⟩ fun v S => ∃ (p : List Txt) (t : Nat), Sm p ∧ v = eStrs p ∧ S = ⟨[], t⟩ := by
  refine Ev.of ⟨Tryz.func55, by kernel_rfl, rfl, by kernel_rfl⟩ tabOk mixed (by show 1 ≤ Tryz.f55.ntmps; decide) ?_
  refine W.seq_region fun K hK => ?_
  simp (disch := omega) only [↓RU, RV, RH, ↓reduceIte, Nat.reduceEqDiff, reduceCtorEq, if_pos, ↓RS, RG, Nat.reduceAdd, Nat.reduceMul, Nat.reduceLeDiff]
  refine hK _ _ ?_
  clear hK K
  refine W.seq_region fun K hK => ?_
  simp (disch := omega) only [↓RU, RV, RH, ↓reduceIte, Nat.reduceEqDiff, reduceCtorEq, if_pos, List.append_nil, ↓RS, RG, Nat.reduceAdd, Nat.reduceMul, Nat.reduceLeDiff]
  refine CallR.ev (l91Order_ev hc) ?_
  rintro _ _ ⟨p, t, hs, rfl, rfl⟩
  simp (disch := omega) only [↓RU, RV, RH, ↓reduceIte, Nat.reduceEqDiff, reduceCtorEq, if_pos, List.append_nil, ↓RS, RG, Nat.reduceAdd, Nat.reduceMul, Nat.reduceLeDiff]
  refine hK _ _ ?_
  clear hK K
  refine W.ret ?_
  refine BodyQ.ret rfl ?_
  exact ⟨0, p, _, hs, rfl, rfl⟩

end Fw
end Go.Proofs.YtcglmbijpjhbmaaGreat

/-! Areas, gone through. -/
namespace Go.Proofs.YtcglmbijpjhbmaaGreat
namespace Fw
open Go

end Fw
end Go.Proofs.YtcglmbijpjhbmaaGreat

/-! Sizes in plain words: areas, places, slacks, longest rows. -/
namespace Go.Proofs.YtcglmbijpjhbmaaGreat
namespace Fw
open Go

section
variable {M : List (List Bool)} {ws : List Int} {n : Nat} {rk : Nat → Nat}
end
end Fw
end Go.Proofs.YtcglmbijpjhbmaaGreat

/-! What the laws of sizes ask, of plans in plain words. -/
namespace Go.Proofs.YtcglmbijpjhbmaaGreat
namespace Fw
open Go

/-- The first cell is a. -/
theorem nameRow_pre : ∀ (row : Txt) (s : List UInt8 × Txt), ∃ z, (row.foldl nameStep s).2 = s.2 ++ z
  | [], s => ⟨[], by simp⟩
  | c :: row, s => by
    obtain ⟨z, h⟩ := nameRow_pre row (nameStep s c)
    rw [List.foldl_cons, h]
    exact ⟨[UInt8.ofNat (97 + s.1.idxOf c)] ++ z, by simp [nameStep]⟩
theorem nameGo_pre : ∀ (p : List Txt) (s : List UInt8 × List Txt), ∃ z, (p.foldl nameGo s).2 = s.2 ++ z
  | [], s => ⟨[], by simp⟩
  | r :: p, s => by
    obtain ⟨z, h⟩ := nameGo_pre p (nameGo s r)
    rw [List.foldl_cons, h]
    exact ⟨[(nameRow s.1 r).2] ++ z, by simp [nameGo]⟩
theorem cell00 {p : List Txt} (hp : planB p = true) : cellZ p 0 0 = 0 := by
  have h := plan_named hp
  unfold planB at hp
  simp only [Bool.and_eq_true, decide_eq_true_eq] at hp
  have hnm : names p = p := hp.1.1.2
  cases p with
  | nil => have := hp.1.1.1; unfold gridB at this; simp at this
  | cons row p =>
    cases row with
    | nil =>
      have := hp.1.1.1
      unfold gridB at this; simp [hdRow, rowB] at this
    | cons c row =>
      unfold names namesAll at hnm
      rw [List.foldl_cons] at hnm
      obtain ⟨z, hz⟩ := nameGo_pre p (nameGo ([], []) (c :: row))
      rw [hz] at hnm
      have e : (nameRow [] (c :: row)).2 = c :: row := by
        have := congrArg List.head? hnm
        simpa [nameGo] using this
      unfold nameRow at e
      rw [List.foldl_cons] at e
      obtain ⟨y, hy⟩ := nameRow_pre row (nameStep ([], []) c)
      rw [hy] at e
      have e2 := congrArg List.head? e
      simp [nameStep] at e2
      unfold cellZ
      simp [← e2]
theorem first_first {p : List Txt} (hp : plainB p = true) : ∀ a, a < (rP p).length → getB (lfM p) a 0 = false ∧ getB (abM p) a 0 = false := by
  intro a ha
  have hpl := plain_plan hp
  obtain ⟨u0, u1⟩ := plan_up hpl
  have hN := plan_named hpl
  have hsm := grid_small hN.hg
  obtain ⟨row0, hr0, hm0⟩ := get_of hsm.1
  have hw1 := row_pos hN.hg hr0
  rw [← hdRow_of hr0] at hw1
  obtain ⟨b, hb, hi, hf, -⟩ := plan_rect hpl (i := 0) (j := 0) (by omega) (by omega)
  rw [cell00 hpl] at hb
  have hb0 : (rP p)[0]? = some b := by simpa using hb
  have hn0 := len_of hb0
  simp only [inB, Bool.and_eq_true, decide_eq_true_eq] at hi
  refine ⟨?_, ?_⟩
  · cases h : getB (lfM p) a 0 with
    | false => rfl
    | true =>
      have := u0.up a 0 ha hn0 h
      have e : rkL p 0 = 0 := by unfold rkL; rw [hb0]; simp only; omega
      omega
  · cases h : getB (abM p) a 0 with
    | false => rfl
    | true =>
      have := u1.up a 0 ha hn0 h
      have e : rkA p 0 = 0 := by unfold rkA; rw [hb0]; simp only; omega
      omega
end Fw
end Go.Proofs.YtcglmbijpjhbmaaGreat

/-! The law of areas, gone through. -/
namespace Go.Proofs.YtcglmbijpjhbmaaGreat
namespace Fw
open Go

theorem pEq_bb {S : Store} {a b : Bool} : pEq tab S 4 (.bool a) (.bool b) = some (a == b) := rfl
end Fw
end Go.Proofs.YtcglmbijpjhbmaaGreat

/-! The laws of left and above, gone through. -/
namespace Go.Proofs.YtcglmbijpjhbmaaGreat
namespace Fw
open Go

theorem askV_of {p : List Txt} {M : List (List Bool)} {a b : Nat} (hv : plainI p = true) (ha : a < (rP p).length) (hb : b < (rP p).length) : askV p M a b = getB M a b := by
  unfold askV
  have e1 : decide (min (a : Int) (b : Int) < 0) = false := decide_eq_false (by omega)
  have e2 : decide (max (a : Int) (b : Int) ≥ ((rP p).length : Int)) = false := decide_eq_false (by omega)
  rw [hv, e1, e2, Int.toNat_natCast, Int.toNat_natCast]; rfl
end Fw
end Go.Proofs.YtcglmbijpjhbmaaGreat

/-! The law of places, gone through. -/
namespace Go.Proofs.YtcglmbijpjhbmaaGreat
namespace Fw
open Go

theorem sameInts_pc {p q : List Int} (hp : p.length < 2147483648) (hq : q.length < 2147483648) : PC Tryz.prog 23 [eInts p, eInts q] (.bool (decide (p = q))) true := by
  refine PC.of ⟨Tryz.func23, by kernel_rfl, rfl, by kernel_rfl⟩ tabOk mixed (by show 2 ≤ Tryz.f23.ntmps; decide) ?_
  refine W.seq_region fun K hK => ?_
  simp (disch := omega) only [↓RU, RV, RH, ↓reduceIte, Nat.reduceEqDiff, reduceCtorEq, if_pos]
  refine hK _ _ ?_
  clear hK K
  refine W.seq ?_
  refine W.seq_region fun K hK => ?_
  simp (disch := omega) only [↓RU, RV, RH, ↓reduceIte, Nat.reduceEqDiff, reduceCtorEq, if_pos, w64, tyLint, tyint]
  refine hK _ _ ?_
  clear hK K
  refine W.cond rfl (fun h => ?_) (fun h => ?_)
  · try simp only [RL] at h
    refine W.seq_region fun K hK => ?_
    simp (disch := omega) only [↓RU, RV, RH, ↓reduceIte, Nat.reduceEqDiff, reduceCtorEq, if_pos]
    refine hK _ _ ?_
    clear hK K
    refine W.ret ?_
    refine XThen.ret ?_
    refine BodyQ.ret rfl ?_
    rw [show decide (p = q) = false by simp; rintro rfl; exact h rfl]
    rfl
  · try simp only [RL] at h
    refine W.skip ?_
    refine XThen.norm ?_
    refine W.seq ?_
    refine W.seq_region fun K hK => ?_
    simp (disch := omega) only [↓RU, RV, RH, ↓reduceIte, Nat.reduceEqDiff, reduceCtorEq, if_pos]
    refine hK _ _ ?_
    clear hK K
    refine W.block ?_
    refine W.loop [0, 1, 5] (fun n vs S => ∃ i : Nat, n = p.length - i ∧ i ≤ p.length ∧ (p.take i = q.take i) ∧ vs = [eInts p, eInts q, .int .i64 i] ∧ S = ⟨[], 0⟩) (p.length) ?_ ?_
    · refine ⟨0, 0, rfl, Nat.zero_le _, rfl, ?_, rfl⟩
      simp [Env.put, Env.of, argEnv]
    rintro n vs S - ⟨i, rfl, h_i, htk, rfl, rfl⟩
    refine W.seq ?_
    refine W.seq_region fun K hK => ?_
    simp (disch := omega) only [↓RU, RV, RH, ↓reduceIte, Nat.reduceEqDiff, reduceCtorEq, if_pos, w64, tyLint, tyint]
    refine hK _ _ ?_
    clear hK K
    refine W.cond rfl (fun h1 => ?_) (fun h1 => ?_)
    · try simp only [RL] at h1
      obtain ⟨x, hx, -⟩ := get_of (show i < p.length by omega)
      obtain ⟨y, hy, -⟩ := get_of (show i < q.length by omega)
      refine W.skip ?_
      refine XThen.norm ?_
      refine W.seq ?_
      refine W.block ?_
      refine W.seq_draw (by kernel_rfl) fun K hK => ?_
      simp (disch := omega) only [↓RU, RV, RH, ↓reduceIte, Nat.reduceEqDiff, reduceCtorEq, if_pos, w64, tyLint, tyint, hx, hy]
      refine hK _ _ ?_
      clear hK K
      refine W.cond rfl (fun h2 => ?_) (fun h2 => ?_)
      · try simp only [RL] at h2
        refine W.seq_region fun K hK => ?_
        simp (disch := omega) only [↓RU, RV, RH, ↓reduceIte, Nat.reduceEqDiff, reduceCtorEq, if_pos]
        refine hK _ _ ?_
        clear hK K
        refine W.ret ?_
        refine XBlock.ret ?_
        refine XThen.ret ?_
        refine XThen.ret ?_
        refine XBlock.ret ?_
        refine XThen.ret ?_
        refine BodyQ.ret rfl ?_
        rw [show decide (p = q) = false by simp; rintro rfl; rw [hx] at hy; simp_all]
        rfl
      · try simp only [RL] at h2
        have h2 : x = y := by simpa using h2
        refine W.skip ?_
        refine XBlock.norm ?_
        refine XThen.norm ?_
        refine W.region_k fun K hK => ?_
        simp (disch := omega) only [↓RU, RV, RH, ↓reduceIte, Nat.reduceEqDiff, reduceCtorEq, if_pos, w64, tyint]
        refine hK _ _ ?_
        clear hK K
        refine XThen.norm ?_
        refine ⟨p.length - (i + 1), by omega, 0, i + 1, rfl, by omega, take_eq_succ htk hx hy h2, ?_, rfl⟩
        simp [Env.put, Env.of]
    · try simp only [RL] at h1
      refine W.exit ?_
      refine XThen.exit ?_
      refine XThen.exit ?_
      refine XBlock.hit ?_
      refine XThen.norm ?_
      refine W.seq_region fun K hK => ?_
      simp (disch := omega) only [↓RU, RV, RH, ↓reduceIte, Nat.reduceEqDiff, reduceCtorEq, if_pos]
      refine hK _ _ ?_
      clear hK K
      refine W.ret ?_
      refine BodyQ.ret rfl ?_
      have h1 : p.take i = p := List.take_of_length_le (by omega)
      have h2 : q.take i = q := List.take_of_length_le (by omega)
      rw [show decide (p = q) = true by simp; rw [← h1, ← h2]; exact htk]
      rfl

theorem PN.ints {P : Program} {f : FuncId} {args : List PV} {l : List Int} {n : Nat} {b im : Bool} (h : PN P f args (.tup [.loc 0 0 0 n, .bool b]) [.arr 0 3 1 (l.map (.int .i64))] im) (h1 : args.mapM (reify ⟨[], 0⟩ true 10) = some args) (hl : l.length = n) : PC P f args (.tup [eInts l, .bool b]) true := by
  refine PN.pc h h1 ?_
  subst hl
  simp only [up_tup, up_loc, up_bool, List.map_cons, List.map_nil, upOb_arr, up_ints, Nat.add_zero]
  show (([PV.loc 0 0 0 l.length, PV.bool b]).mapM (reify _ _ 9)).map PV.tup = _
  rw [mapM_one (reify_loc (k := 8) rfl (by simp) (mapM_int _)) (mapM_one rfl rfl)]
  rfl
end Fw
end Go.Proofs.YtcglmbijpjhbmaaGreat

/-! Permutations by the program and by the specification, gone through. -/
namespace Go.Proofs.YtcglmbijpjhbmaaGreat
namespace Fw
open Go

theorem PN.ints0 {P : Program} {f : FuncId} {args : List PV} {l : List Int} {n : Nat} {im : Bool} (h : PN P f args (.loc 0 0 0 n) [.arr 0 3 1 (l.map (.int .i64))] im) (h1 : args.mapM (reify ⟨[], 0⟩ true 10) = some args) (hl : l.length = n) : PC P f args (eInts l) true := by
  refine PN.pc h h1 ?_
  subst hl
  simp only [up_loc, List.map_cons, List.map_nil, upOb_arr, up_ints, Nat.add_zero]
  exact reify_loc (k := 9) rfl (by simp) (mapM_int _)
end Fw
end Go.Proofs.YtcglmbijpjhbmaaGreat

/-! Permutations of plans, gone through. -/
namespace Go.Proofs.YtcglmbijpjhbmaaGreat
namespace Fw
open Go

/-- A list, or none. -/
def ifL (b : Bool) (l : List Int) : List Int := if b then l else []
theorem plainI_is {p : List Txt} {b : Bool} (h : plainI p = b) : plainB p = b := by rw [← plainI_plain]; exact h
theorem l5Sorted_pc {p : List Txt} (hs : Sm p) (hp : plainB p = true) (below : Bool) : PC Tryz.prog 84 [eStrs p, .bool below] (eInts (srt p below)) true := PN.ints0 (l5Sorted_pn hs hp below) rfl srt_len

theorem orderFirst_pc {p : List Txt} (hs : Sm p) : PC Tryz.prog 52 [eStrs p] (.tup [eInts (ifL (plainI p) (srt p false)), .bool (plainI p)]) true := by
  cases hv : plainI p with
  | false => exact orderFirst_no hs hv
  | true => exact PN.ints (orderFirst_yes hs hv) rfl srt_len

end Fw
end Go.Proofs.YtcglmbijpjhbmaaGreat

/-! The orders and permutations: the exported functions, gone through. -/
namespace Go.Proofs.YtcglmbijpjhbmaaGreat
namespace Fw
open Go

theorem sOrderFirst_pc {p : List Txt} (hs : Sm p) : PC Tryz.prog 56 [eStrs p] (.tup [eInts (ifL (plainB p) (srt p false)), .bool (plainB p)]) false := by
  refine PC.of ⟨Tryz.func56, by kernel_rfl, rfl, by kernel_rfl⟩ tabOk mixed (by show 1 ≤ Tryz.f56.ntmps; decide) ?_
  refine W.seq_region fun K hK => ?_
  simp (disch := omega) only [↓RU, RV, RH, ↓reduceIte, Nat.reduceEqDiff, reduceCtorEq, if_pos, ↓RS, RG, Nat.reduceAdd, Nat.reduceMul, Nat.reduceLeDiff]
  refine hK _ _ ?_
  clear hK K
  refine W.seq ?_
  refine W.seq_region fun K hK => ?_
  simp (disch := omega) only [↓RU, RV, RH, ↓reduceIte, Nat.reduceEqDiff, reduceCtorEq, if_pos, List.append_nil, ↓RS, RG, Nat.reduceAdd, Nat.reduceMul, Nat.reduceLeDiff]
  refine CallR.pc (l5Plain_pc hs) rfl (.inl rfl) ?_
  simp (disch := omega) only [↓RU, RV, RH, ↓reduceIte, Nat.reduceEqDiff, reduceCtorEq, if_pos, List.append_nil, ↓RS, RG, Nat.reduceAdd, Nat.reduceMul, Nat.reduceLeDiff]
  refine hK _ _ ?_
  clear hK K
  refine W.cond rfl (fun h0 => ?_) (fun h0 => ?_)
  · try simp only [RL] at h0
    have h : plainB p = false := by simpa using h0
    refine W.seq_region fun K hK => ?_
    simp (disch := omega) only [↓RU, RV, RH, ↓reduceIte, Nat.reduceEqDiff, reduceCtorEq, if_pos, ↓RS, RG, Nat.reduceAdd, Nat.reduceMul, Nat.reduceLeDiff, tyLint, tyint]
    refine hK _ _ ?_
    clear hK K
    refine W.ret ?_
    refine XThen.ret ?_
    refine BodyQ.ret rfl ?_
    rw [h]
    rfl
  · try simp only [RL] at h0
    have h : plainB p = true := by simpa using h0
    refine W.skip ?_
    refine XThen.norm ?_
    refine W.seq_region fun K hK => ?_
    simp (disch := omega) only [↓RU, RV, RH, ↓reduceIte, Nat.reduceEqDiff, reduceCtorEq, if_pos, List.append_nil, ↓RS, RG, Nat.reduceAdd, Nat.reduceMul, Nat.reduceLeDiff]
    refine CallR.pc (l5Sorted_pc hs h false) rfl (.inl rfl) ?_
    simp (disch := omega) only [↓RU, RV, RH, ↓reduceIte, Nat.reduceEqDiff, reduceCtorEq, if_pos, List.append_nil, ↓RS, RG, Nat.reduceAdd, Nat.reduceMul, Nat.reduceLeDiff]
    refine hK _ _ ?_
    clear hK K
    refine W.ret ?_
    refine BodyQ.ret rfl ?_
    rw [h]
    rfl

theorem ifL_t {l : List Int} : ifL true l = l := rfl
theorem ifL_f {l : List Int} : ifL false l = [] := rfl

end Fw
end Go.Proofs.YtcglmbijpjhbmaaGreat

/-! Where the two orders begin and end: the rooms in the corners. -/
namespace Go.Proofs.YtcglmbijpjhbmaaGreat
namespace Fw
open Go

theorem TC.out {R : Nat → Nat → Prop} {a b : Nat} (h : TC R a b) : ∃ x, R a x := by
  induction h with
  | one h => exact ⟨_, h⟩
  | tail _ _ ih => exact ih
theorem TC.into {R : Nat → Nat → Prop} {a b : Nat} (h : TC R a b) : ∃ x, R x b := by
  cases h with
  | one h => exact ⟨_, h⟩
  | tail _ h => exact ⟨_, h⟩
section
variable {p : List Txt} {a b : Nat}
theorem rect_in (hp : planB p = true) {i j k l u v : Nat} (hi : i < p.length) (hj : j < (hdRow p).length) (hk : k < p.length) (hl : l < (hdRow p).length)
    (h1 : cn (gP p) i j = a) (h2 : cn (gP p) k l = a) (u1 : min i k ≤ u) (u2 : u ≤ max i k) (v1 : min j l ≤ v) (v2 : v ≤ max j l) : cn (gP p) u v = a := by
  obtain ⟨b, hb, hin, hf, hall⟩ := plan_rect hp hi hj
  obtain ⟨b', hb', hin', hf', -⟩ := plan_rect hp hk hl
  have c1 := cn_cell hp hi hj
  have c2 := cn_cell hp hk hl
  have c3 := cn_cell hp (show u < p.length by omega) (show v < (hdRow p).length by omega)
  rw [show cellZ p k l = cellZ p i j by omega, hb] at hb'
  cases hb'
  simp only [inB, Bool.and_eq_true, decide_eq_true_eq] at hin hin'
  have := hall u v (by omega) (by omega) (by simp only [inB, Bool.and_eq_true, decide_eq_true_eq]; omega)
  omega
theorem last_col (hp : planB p = true) (ha : a < (rP p).length) (hb : b < (rP p).length) {i : Nat} (hi : i < p.length) (hw : 1 ≤ (hdRow p).length) (h : cn (gP p) i ((hdRow p).length - 1) = a) : getB (lfM p) a b = false := by
  cases hc : getB (lfM p) a b with
  | false => rfl
  | true =>
    obtain ⟨x, j, i1, i2, h1, h2, h3, h4, h5, h6⟩ := ((Lf.iff ha hb).1 hc).out
    have := rect_in hp (u := i1) (v := j + 1) h2 (show j < _ by omega) hi (by omega) h5.symm h (by omega) (by omega) (by omega) (by omega)
    exact absurd (h5.symm.trans this.symm) (h4 i1 (by omega) (by omega))
theorem first_col (hp : planB p = true) (ha : a < (rP p).length) (hb : b < (rP p).length) {i : Nat} (hi : i < p.length) (hw : 1 ≤ (hdRow p).length) (h : cn (gP p) i 0 = b) : getB (lfM p) a b = false := by
  cases hc : getB (lfM p) a b with
  | false => rfl
  | true =>
    obtain ⟨x, j, i1, i2, h1, h2, h3, h4, h5, h6⟩ := ((Lf.iff ha hb).1 hc).into
    have := rect_in hp (u := i2) (v := j) h3 (show j + 1 < _ by omega) hi (by omega) h6.symm h (by omega) (by omega) (by omega) (by omega)
    exact absurd (this.trans h6) (h4 i2 (by omega) (by omega))
theorem last_row (hp : planB p = true) (ha : a < (rP p).length) (hb : b < (rP p).length) {j : Nat} (hj : j < (hdRow p).length) (hw : 1 ≤ p.length) (h : cn (gP p) (p.length - 1) j = a) : getB (abM p) a b = false := by
  cases hc : getB (abM p) a b with
  | false => rfl
  | true =>
    obtain ⟨x, i, j1, j2, h1, h2, h3, h4, h5, h6⟩ := ((Ab.iff ha hb).1 hc).out
    have := rect_in hp (u := i + 1) (v := j1) (show i < _ by omega) h2 (show p.length - 1 < p.length by omega) hj h5.symm h (by omega) (by omega) (by omega) (by omega)
    exact absurd (h5.symm.trans this.symm) (h4 j1 (by omega) (by omega))
theorem first_row (hp : planB p = true) (ha : a < (rP p).length) (hb : b < (rP p).length) {j : Nat} (hj : j < (hdRow p).length) (hw : 1 ≤ p.length) (h : cn (gP p) 0 j = b) : getB (abM p) a b = false := by
  cases hc : getB (abM p) a b with
  | false => rfl
  | true =>
    obtain ⟨x, i, j1, j2, h1, h2, h3, h4, h5, h6⟩ := ((Ab.iff ha hb).1 hc).into
    have := rect_in hp (u := i) (v := j2) (show i + 1 < _ by omega) h3 (show 0 < p.length by omega) hj h6.symm h (by omega) (by omega) (by omega) (by omega)
    exact absurd (this.trans h6) (h4 j2 (by omega) (by omega))
theorem bf_total (hp : plainB p = true) {below : Bool} (ha : a < (rP p).length) (hb : b < (rP p).length) (hne : a ≠ b) : bfK p below a b = true ∨ bfK p below b a = true := by
  rw [ahK_iff hp ha hb, ahK_iff hp hb ha]
  refine Classical.byContradiction fun h => hne (ahK_inj (below := below) hp ha hb ?_)
  omega
theorem srt_first (hp : plainB p = true) {below : Bool} (ha : a < (rP p).length) (h : ∀ b, b < (rP p).length → bfK p below b a = false) : (srt p below)[0]? = some (a : Int) := by
  obtain ⟨c, hc, hc2, hc3⟩ := srt_get (below := below) hp (show 0 < (rP p).length by omega)
  by_cases e : c = a
  · rw [← e]; exact hc3
  · rcases bf_total hp (below := below) hc ha e with k | k
    · rw [h c hc] at k; cases k
    · have := (ahK_iff hp ha hc).1 k; omega
theorem srt_last (hp : plainB p = true) {below : Bool} (ha : a < (rP p).length) (h : ∀ b, b < (rP p).length → bfK p below a b = false) : (srt p below)[(rP p).length - 1]? = some (a : Int) := by
  obtain ⟨c, hc, hc2, hc3⟩ := srt_get (below := below) hp (show (rP p).length - 1 < (rP p).length by omega)
  by_cases e : c = a
  · rw [← e]; exact hc3
  · rcases bf_total hp (below := below) hc ha e with k | k
    · have := (ahK_iff hp hc ha).1 k
      have := ahK_lt (below := below) hp ha
      omega
    · rw [h c hc] at k; cases k
theorem corners (hp : plainB p = true) : 1 ≤ p.length ∧ p.length ≤ 6 ∧ 1 ≤ (hdRow p).length ∧ (hdRow p).length ≤ 6 ∧
    (srt p false)[0]? = some 0 ∧ (srt p false)[(rP p).length - 1]? = some (cellZ p (p.length - 1) ((hdRow p).length - 1)) ∧
    (srt p true)[0]? = some (cellZ p (p.length - 1) 0) ∧ (srt p true)[(rP p).length - 1]? = some (cellZ p 0 ((hdRow p).length - 1)) := by
  have hpl := plain_plan hp
  have hN := plan_named hpl
  have hsm := grid_small hN.hg
  obtain ⟨row0, hr0, hm0⟩ := get_of hsm.1
  have hw6 := hsm.2.2 row0 hm0
  have hw1 := row_pos hN.hg hr0
  rw [← hdRow_of hr0] at hw6 hw1
  have hh := hsm.1
  have hh6 := hsm.2.1
  have lt : ∀ i j, i < p.length → j < (hdRow p).length → cn (gP p) i j < (rP p).length := fun i j hi hj => cn_lt gP_room hi hj
  have l1 := lt (p.length - 1) ((hdRow p).length - 1) (by omega) (by omega)
  have l2 := lt (p.length - 1) 0 (by omega) (by omega)
  have l3 := lt 0 ((hdRow p).length - 1) (by omega) (by omega)
  have l0 := lt 0 0 (by omega) (by omega)
  have c0 := cn_cell hpl (i := 0) (j := 0) (by omega) (by omega)
  rw [cell00 hpl] at c0
  have e0 : cn (gP p) 0 0 = 0 := by omega
  rw [e0] at l0
  refine ⟨by omega, by omega, by omega, by omega, ?_, ?_, ?_, ?_⟩
  · have := srt_first (below := false) hp l0 fun b hb => by
      show (getB (lfM p) b 0 || getB (abM p) b 0) = false
      rw [(first_first hp b hb).1, (first_first hp b hb).2]; rfl
    exact this
  · rw [← cn_cell hpl (by omega) (by omega)]
    exact srt_last (below := false) hp l1 fun b hb => by
      show (getB (lfM p) _ b || getB (abM p) _ b) = false
      rw [last_col hpl l1 hb (i := p.length - 1) (by omega) hw1 rfl, last_row hpl l1 hb (j := (hdRow p).length - 1) (by omega) (by omega) rfl]; rfl
  · rw [← cn_cell hpl (by omega) (by omega)]
    exact srt_first (below := true) hp l2 fun b hb => by
      show (getB (lfM p) b _ || getB (abM p) _ b) = false
      rw [first_col hpl hb l2 (i := p.length - 1) (by omega) hw1 rfl, last_row hpl l2 hb (j := 0) (by omega) (by omega) rfl]; rfl
  · rw [← cn_cell hpl (by omega) (by omega)]
    exact srt_last (below := true) hp l3 fun b hb => by
      show (getB (lfM p) _ b || getB (abM p) b _) = false
      rw [last_col hpl l3 hb (i := 0) (by omega) hw1 rfl, first_row hpl hb l3 (j := (hdRow p).length - 1) (by omega) (by omega) rfl]; rfl
end
end Fw
end Go.Proofs.YtcglmbijpjhbmaaGreat

/-! Kinds of two rooms, gone through. -/
namespace Go.Proofs.YtcglmbijpjhbmaaGreat
namespace Fw
open Go

end Fw
end Go.Proofs.YtcglmbijpjhbmaaGreat

/-! The laws of the first and the second order, gone through. -/
namespace Go.Proofs.YtcglmbijpjhbmaaGreat
namespace Fw
open Go

theorem set_same {l : List Int} {i : Nat} {x : Int} (h : l[i]? = some x) : l.set i x = l := by
  apply List.ext_getElem?
  intro j
  rw [List.getElem?_set]
  by_cases e : i = j
  · subst e; rw [if_pos rfl, if_pos (len_of h), h]
  · rw [if_neg e]

theorem sorted_pc {l Z : List Int} (hl : l.length ≤ 1000) (hZ : ∀ z : List Int, z.Perm l → z.Pairwise (· ≤ ·) → z = Z) : PC Tryz.prog 54 [eInts l] (eInts Z) true := by
  refine PC.of ⟨Tryz.func54, by kernel_rfl, rfl, by kernel_rfl⟩ tabOk mixed (by show 1 ≤ Tryz.f54.ntmps; decide) ?_
  refine W.seq_region fun K hK => ?_
  simp (disch := omega) only [↓RU, RV, RH, ↓reduceIte, Nat.reduceEqDiff, reduceCtorEq, if_pos, ↓RS, RG, Nat.reduceAdd, Nat.reduceMul, Nat.reduceLeDiff]
  refine hK _ _ ?_
  clear hK K
  refine W.seq_region fun K hK => ?_
  simp (disch := omega) only [↓RU, RV, RH, ↓reduceIte, Nat.reduceEqDiff, reduceCtorEq, if_pos, ↓RS, RG, Nat.reduceAdd, Nat.reduceMul, Nat.reduceLeDiff, tyLint, tyint]
  refine hK _ _ ?_
  clear hK K
  refine W.seq ?_
  refine W.seq_region fun K hK => ?_
  simp (disch := omega) only [↓RU, RV, RH, ↓reduceIte, Nat.reduceEqDiff, reduceCtorEq, if_pos, ↓RS, RG, Nat.reduceAdd, Nat.reduceMul, Nat.reduceLeDiff]
  refine hK _ _ ?_
  clear hK K
  refine W.block ?_
  refine W.loop [3, 4] (fun n vs S => ∃ (i ver tv : Nat) (c : List Int), n = l.length + 1 - i ∧ 1 ≤ i ∧ i ≤ l.length + 1 ∧ c.Perm l ∧ Ord c i ∧ vs = [.loc 0 ver 0 l.length, .int .i64 i] ∧ S = ⟨[.arr ver 3 1 (c.map (.int .i64))], tv⟩) l.length ?_ ?_
  · refine ⟨1, 1, 1, 2, l, by omega, Nat.le_refl _, by omega, List.Perm.refl _, Ord.one l, ?_, by simp [take_eq]⟩
    simp [Env.put, Env.of, argEnv]
  rintro n vs S - ⟨i, ver, tv, c, rfl, hi1, h_i, hp, ho, rfl, rfl⟩
  refine W.seq ?_
  refine W.seq_region fun K hK => ?_
  simp (disch := omega) only [↓RU, RV, RH, ↓reduceIte, Nat.reduceEqDiff, reduceCtorEq, if_pos, w64, ↓RS, RG, Nat.reduceAdd, Nat.reduceMul, Nat.reduceLeDiff, tyLint, tyint]
  refine hK _ _ ?_
  clear hK K
  refine W.cond rfl (fun h => ?_) (fun h => ?_)
  · try simp only [RL] at h
    have hcl := hp.length_eq
    obtain ⟨x, hx, -⟩ := get_of (show i < c.length by omega)
    refine W.skip ?_
    refine XThen.norm ?_
    refine W.seq ?_
    refine W.block ?_
    refine W.seq_region fun K hK => ?_
    simp (disch := omega) only [↓RU, RV, RH, ↓reduceIte, Nat.reduceEqDiff, reduceCtorEq, if_pos, ↓RS, RG, Nat.reduceAdd, Nat.reduceMul, Nat.reduceLeDiff, tyLint, tyint, hx]
    refine hK _ _ ?_
    clear hK K
    refine W.seq_region fun K hK => ?_
    simp (disch := omega) only [↓RU, RV, RH, ↓reduceIte, Nat.reduceEqDiff, reduceCtorEq, if_pos, ↓RS, RG, Nat.reduceAdd, Nat.reduceMul, Nat.reduceLeDiff]
    refine hK _ _ ?_
    clear hK K
    refine W.seq ?_
    refine W.block ?_
    refine W.loop [3, 4, 5, 6] (fun n vs S => ∃ (j tv2 : Nat) (d : List Int), n = j + 1 ∧ j ≤ i ∧ d.length = l.length ∧ (d.set j x).Perm l ∧ InsO (d.set j x) j i ∧ vs = [.loc 0 ver 0 l.length, .int .i64 i, .int .i64 x, .int .i64 j] ∧ S = ⟨[.arr ver 3 1 (d.map (.int .i64))], tv2⟩) (i + 1) ?_ ?_
    · refine ⟨1, i, tv, c, rfl, Nat.le_refl _, hcl, by rw [set_same hx]; exact hp, by rw [set_same hx]; exact ho.ins, ?_, by simp [take_eq]⟩
      simp [Env.put, Env.of]
    rintro n vs S - ⟨j, tv2, d, rfl, h_j, hdl, hq, hO, rfl, rfl⟩
    refine W.seq ?_
    refine W.seq_region fun K hK => ?_
    by_cases hj0 : j = 0
    · skip
      have hd : decide ((j : Int) > 0) = false := decide_eq_false (by omega)
      simp (disch := omega) only [↓RU, RV, RH, ↓reduceIte, Nat.reduceEqDiff, reduceCtorEq, if_pos, w64, ↓RS, RG, Nat.reduceAdd, Nat.reduceMul, Nat.reduceLeDiff, tyLint, tyint, hd]
      refine hK _ _ ?_
      clear hK K
      refine W.cond rfl (fun h2 => ?_) (fun h2 => ?_)
      · try simp only [RL] at h2
        exact absurd h2 (by simp)
      · try simp only [RL] at h2
        have hO2 : Ord (d.set j x) (i + 1) := by subst hj0; exact hO.zero
        refine W.exit ?_
        refine XThen.exit ?_
        refine XThen.exit ?_
        refine XBlock.hit ?_
        refine XThen.norm ?_
        refine W.region_k fun K hK => ?_
        simp (disch := omega) only [↓RU, RV, RH, ↓reduceIte, Nat.reduceEqDiff, reduceCtorEq, if_pos, ↓RS, RG, Nat.reduceAdd, Nat.reduceMul, Nat.reduceLeDiff, tyLint, tyint, set_spl, set_int, hdl]
        refine hK _ _ ?_
        clear hK K
        refine XBlock.norm ?_
        refine XThen.norm ?_
        refine W.region_k fun K hK => ?_
        simp (disch := omega) only [↓RU, RV, RH, ↓reduceIte, Nat.reduceEqDiff, reduceCtorEq, if_pos, w64, ↓RS, RG, Nat.reduceAdd, Nat.reduceMul, Nat.reduceLeDiff, tyint]
        refine hK _ _ ?_
        clear hK K
        refine XThen.norm ?_
        refine ⟨l.length + 1 - (i + 1), by omega, 1, i + 1, ver, tv2, d.set j x, rfl, by omega, by omega, hq, hO2, ?_, by simp [take_eq]⟩
        simp [Env.put, Env.of]
    · skip
      have hd : decide ((j : Int) > 0) = true := decide_eq_true (by omega)
      obtain ⟨y, hy, -⟩ := get_of (show j - 1 < d.length by omega)
      have hex : (d.set j x)[j]? = some x := by rw [List.getElem?_set, if_pos rfl, if_pos (by omega)]
      have hey : (d.set j x)[j - 1]? = some y := by rw [List.getElem?_set, if_neg (by omega)]; exact hy
      have hee : ((d.set j x).set j y).set (j - 1) x = (d.set j y).set (j - 1) x := by rw [List.set_set]
      simp (disch := omega) only [↓RU, RV, RH, ↓reduceIte, Nat.reduceEqDiff, reduceCtorEq, if_pos, w64, ↓RS, RG, Nat.reduceAdd, Nat.reduceMul, Nat.reduceLeDiff, tyLint, tyint, hd, hy, toNat_pred]
      refine hK _ _ ?_
      clear hK K
      refine W.cond rfl (fun h2 => ?_) (fun h2 => ?_)
      · try simp only [RL] at h2
        refine W.skip ?_
        refine XThen.norm ?_
        refine W.block ?_
        refine W.seq_region fun K hK => ?_
        simp (disch := omega) only [↓RU, RV, RH, ↓reduceIte, Nat.reduceEqDiff, reduceCtorEq, if_pos, w64, ↓RS, RG, Nat.reduceAdd, Nat.reduceMul, Nat.reduceLeDiff, tyLint, tyint, hy, toNat_pred, set_spl, set_int, hdl]
        refine hK _ _ ?_
        clear hK K
        refine W.region_k fun K hK => ?_
        simp (disch := omega) only [↓RU, RV, RH, ↓reduceIte, Nat.reduceEqDiff, reduceCtorEq, if_pos, w64, ↓RS, RG, Nat.reduceAdd, Nat.reduceMul, Nat.reduceLeDiff, tyint]
        refine hK _ _ ?_
        clear hK K
        refine XBlock.norm ?_
        refine XThen.norm ?_
        refine ⟨j - 1 + 1, by omega, 1, j - 1, tv2, d.set j y, rfl, by omega, by simp [hdl], by rw [← hee]; exact swap_perm hq hex hey, by rw [← hee]; exact hO.swap hj0 h_j hex hey h2, ?_, by simp [take_eq]⟩
        simp [Env.put, Env.of]; omega
      · try simp only [RL] at h2
        have hO2 : Ord (d.set j x) (i + 1) := hO.stop hex hey h2
        refine W.exit ?_
        refine XThen.exit ?_
        refine XThen.exit ?_
        refine XBlock.hit ?_
        refine XThen.norm ?_
        refine W.region_k fun K hK => ?_
        simp (disch := omega) only [↓RU, RV, RH, ↓reduceIte, Nat.reduceEqDiff, reduceCtorEq, if_pos, ↓RS, RG, Nat.reduceAdd, Nat.reduceMul, Nat.reduceLeDiff, tyLint, tyint, set_spl, set_int, hdl]
        refine hK _ _ ?_
        clear hK K
        refine XBlock.norm ?_
        refine XThen.norm ?_
        refine W.region_k fun K hK => ?_
        simp (disch := omega) only [↓RU, RV, RH, ↓reduceIte, Nat.reduceEqDiff, reduceCtorEq, if_pos, w64, ↓RS, RG, Nat.reduceAdd, Nat.reduceMul, Nat.reduceLeDiff, tyint]
        refine hK _ _ ?_
        clear hK K
        refine XThen.norm ?_
        refine ⟨l.length + 1 - (i + 1), by omega, 1, i + 1, ver, tv2, d.set j x, rfl, by omega, by omega, hq, hO2, ?_, by simp [take_eq]⟩
        simp [Env.put, Env.of]
  · try simp only [RL] at h
    have hcl := hp.length_eq
    refine W.exit ?_
    refine XThen.exit ?_
    refine XThen.exit ?_
    refine XBlock.hit ?_
    refine XThen.norm ?_
    refine W.seq_region fun K hK => ?_
    simp (disch := omega) only [↓RU, RV, RH, ↓reduceIte, Nat.reduceEqDiff, reduceCtorEq, if_pos, ↓RS, RG, Nat.reduceAdd, Nat.reduceMul, Nat.reduceLeDiff]
    refine hK _ _ ?_
    clear hK K
    refine W.ret ?_
    refine BodyQ.ret rfl ?_
    have e := hZ c hp (Ord.pair (fun a b u v h1 h2 => ho a b u v h1 (by omega)))
    subst e
    exact ((reify_loc (k := 9) rfl (by simp [hcl]) (mapM_int _)).trans (by rw [← hcl]))

theorem plain_rows {p : List Txt} (hp : plainB p = true) : ∃ r0 rl : Txt, ∃ c0 cl cr cu : UInt8, p[0]? = some r0 ∧ p[p.length - 1]? = some rl ∧ r0.length = (hdRow p).length ∧ rl.length = (hdRow p).length ∧ 1 ≤ r0.length ∧ r0.length ≤ 6 ∧ 1 ≤ p.length ∧ p.length ≤ 6 ∧
    r0[r0.length - 1]? = some cu ∧ rl[0]? = some cl ∧ rl[r0.length - 1]? = some cr ∧ (srt p false)[(rP p).length - 1]? = some ((cr.toNat : Int) - 97) ∧ (srt p true)[0]? = some ((cl.toNat : Int) - 97) ∧ (srt p true)[(rP p).length - 1]? = some ((cu.toNat : Int) - 97) := by
  obtain ⟨h1, h2, h3, h4, k1, k2, k3, k4⟩ := corners hp
  have hg := planB_grid (plain_plan hp)
  have hW := grid_rows hg
  obtain ⟨r0, hr0, m0⟩ := get_of (show 0 < p.length by omega)
  obtain ⟨rl, hrl, ml⟩ := get_of (show p.length - 1 < p.length by omega)
  have l0 := hW r0 m0
  have ll := hW rl ml
  obtain ⟨cu, hcu, -⟩ := get_of (show r0.length - 1 < r0.length by omega)
  obtain ⟨cl, hcl, -⟩ := get_of (show 0 < rl.length by omega)
  obtain ⟨cr, hcr, -⟩ := get_of (show r0.length - 1 < rl.length by omega)
  rw [← l0] at k2 k4
  rw [cellZ_is hrl hcr] at k2
  rw [cellZ_is hrl hcl] at k3
  rw [cellZ_is hr0 hcu] at k4
  exact ⟨r0, rl, 0, cl, cr, cu, hr0, hrl, l0, ll, by omega, by omega, h1, h2, hcu, hcl, hcr, k2, k3, k4⟩
theorem sorted_rooms {l : List Int} {n : Nat} (h : l.Perm (rooms n)) : ∀ z : List Int, z.Perm l → z.Pairwise (· ≤ ·) → z = rooms n := by
  intro z hz hs
  have hp := hz.trans h
  have e := sorted_put (n := n) (f := fun a => a) (fun _ _ _ _ h => h) hp (by
    have : (z.map fun x => ((x.toNat : Nat) : Int)) = z := by
      have hm : ∀ x ∈ z, ((x.toNat : Nat) : Int) = x := fun x hx => by
        have := mem_rooms.1 (hp.mem_iff.1 hx); omega
      calc z.map (fun x => ((x.toNat : Nat) : Int)) = z.map id := List.map_congr_left hm
        _ = z := List.map_id z
    rw [this]; exact hs)
  have e2 := sorted_put (n := n) (f := fun a => a) (fun _ _ _ _ h => h) (List.Perm.refl (rooms n)) (by
    rw [List.pairwise_map, List.pairwise_iff_getElem]
    intro i j hi hj hij
    rw [rooms_len] at hi hj
    simp only [rooms, List.getElem_map, List.getElem_range, Int.toNat_natCast]
    omega)
  rw [e, ← e2]

end Fw
end Go.Proofs.YtcglmbijpjhbmaaGreat

/-! The law of the first order, gone through. -/
namespace Go.Proofs.YtcglmbijpjhbmaaGreat
namespace Fw
open Go

theorem first_law {code : Txt} (hcode : code.length ≤ 9223372036854775807) : PC Tryz.prog 13 [eBy code] (.bool true) true := by
  refine PC.of ⟨Tryz.func13, by kernel_rfl, rfl, by kernel_rfl⟩ tabOk mixed (by show 1 ≤ Tryz.f13.ntmps; decide) ?_
  refine W.seq_region fun K hK => ?_
  simp (disch := omega) only [↓RU, RV, RH, ↓reduceIte, Nat.reduceEqDiff, reduceCtorEq, if_pos, ↓RS, RG, Nat.reduceAdd, Nat.reduceMul, Nat.reduceLeDiff]
  refine hK _ _ ?_
  clear hK K
  refine W.seq ?_
  refine W.seq_region fun K hK => ?_
  simp (disch := omega) only [↓RU, RV, RH, ↓reduceIte, Nat.reduceEqDiff, reduceCtorEq, if_pos, w64, ↓RS, RG, Nat.reduceAdd, Nat.reduceMul, Nat.reduceLeDiff, tyLuint8, tyint, tyuint8]
  refine hK _ _ ?_
  clear hK K
  refine W.cond rfl (fun h0 => ?_) (fun h0 => ?_)
  · try simp only [RL] at h0
    refine W.seq_region fun K hK => ?_
    simp (disch := omega) only [↓RU, RV, RH, ↓reduceIte, Nat.reduceEqDiff, reduceCtorEq, if_pos, ↓RS, RG, Nat.reduceAdd, Nat.reduceMul, Nat.reduceLeDiff]
    refine hK _ _ ?_
    clear hK K
    refine W.ret ?_
    refine XThen.ret ?_
    refine BodyQ.ret rfl ?_
    rfl
  · try simp only [RL] at h0
    have hcl : code.length ≤ 1048576 := by omega
    refine W.skip ?_
    refine XThen.norm ?_
    refine W.seq_region fun K hK => ?_
    simp (disch := omega) only [↓RU, RV, RH, ↓reduceIte, Nat.reduceEqDiff, reduceCtorEq, if_pos, List.append_nil, ↓RS, RG, Nat.reduceAdd, Nat.reduceMul, Nat.reduceLeDiff]
    refine CallR.ev (drawOrderFirst_ev hcl) ?_
    rintro _ _ ⟨p, t, hs, rfl, rfl⟩
    simp (disch := omega) only [↓RU, RV, RH, ↓reduceIte, Nat.reduceEqDiff, reduceCtorEq, if_pos, List.append_nil, ↓RS, RG, Nat.reduceAdd, Nat.reduceMul, Nat.reduceLeDiff]
    refine hK _ _ ?_
    clear hK K
    have hI : plainB p = plainI p := plainI_plain.symm
    refine W.seq_region fun K hK => ?_
    simp (disch := omega) only [↓RU, RV, RH, ↓reduceIte, Nat.reduceEqDiff, reduceCtorEq, if_pos, List.append_nil, ↓RS, RG, Nat.reduceAdd, Nat.reduceMul, Nat.reduceLeDiff]
    refine CallR.pc (orderFirst_pc hs) rfl (.inl rfl) ?_
    simp (disch := omega) only [↓RU, RV, RH, ↓reduceIte, Nat.reduceEqDiff, reduceCtorEq, if_pos, List.append_nil, ↓RS, RG, Nat.reduceAdd, Nat.reduceMul, Nat.reduceLeDiff]
    refine hK _ _ ?_
    clear hK K
    refine W.seq_region fun K hK => ?_
    simp (disch := omega) only [↓RU, RV, RH, ↓reduceIte, Nat.reduceEqDiff, reduceCtorEq, if_pos, List.append_nil, ↓RS, RG, Nat.reduceAdd, Nat.reduceMul, Nat.reduceLeDiff]
    refine CallR.pc (sOrderFirst_pc hs) rfl (.inr rfl) ?_
    simp (disch := omega) only [↓RU, RV, RH, ↓reduceIte, Nat.reduceEqDiff, reduceCtorEq, if_pos, List.append_nil, ↓RS, RG, Nat.reduceAdd, Nat.reduceMul, Nat.reduceLeDiff]
    refine hK _ _ ?_
    clear hK K
    rw [hI]
    refine W.seq ?_
    refine W.seq_region fun K hK => ?_
    cases hv : plainI p
    · skip
      simp (disch := omega) only [↓RU, RV, RH, ↓reduceIte, Nat.reduceEqDiff, reduceCtorEq, if_pos, w64, List.append_nil, ↓RS, RG, Nat.reduceAdd, Nat.reduceMul, Nat.reduceLeDiff, tybool, pEq_bb, Option.map_some, bne_self_eq_false, beq_self_eq_true, Bool.not_true, Bool.not_false, decide_true, hv, ifL_f]
      refine CallR.pc (sameInts_pc (p := ([] : List Int)) (q := ([] : List Int)) (by simp) (by simp)) rfl (.inl rfl) ?_
      simp (disch := omega) only [↓RU, RV, RH, ↓reduceIte, Nat.reduceEqDiff, reduceCtorEq, if_pos, w64, List.append_nil, ↓RS, RG, Nat.reduceAdd, Nat.reduceMul, Nat.reduceLeDiff, tybool, pEq_bb, Option.map_some, bne_self_eq_false, beq_self_eq_true, Bool.not_true, Bool.not_false, decide_true, hv, ifL_f]
      refine hK _ _ ?_
      clear hK K
      refine W.cond rfl (fun h1 => ?_) (fun h1 => ?_)
      · try simp only [RL] at h1
        refine W.seq_region fun K hK => ?_
        simp (disch := omega) only [↓RU, RV, RH, ↓reduceIte, Nat.reduceEqDiff, reduceCtorEq, if_pos, w64, List.append_nil, ↓RS, RG, Nat.reduceAdd, Nat.reduceMul, Nat.reduceLeDiff, tybool, pEq_bb, Option.map_some, bne_self_eq_false, beq_self_eq_true, Bool.not_true, Bool.not_false, decide_true]
        refine CallR.pc (sameInts_pc (p := ([] : List Int)) (q := ([] : List Int)) (by simp) (by simp)) rfl (.inl rfl) ?_
        simp (disch := omega) only [↓RU, RV, RH, ↓reduceIte, Nat.reduceEqDiff, reduceCtorEq, if_pos, w64, List.append_nil, ↓RS, RG, Nat.reduceAdd, Nat.reduceMul, Nat.reduceLeDiff, tybool, pEq_bb, Option.map_some, bne_self_eq_false, beq_self_eq_true, Bool.not_true, Bool.not_false, decide_true]
        refine hK _ _ ?_
        clear hK K
        refine W.ret ?_
        refine XThen.ret ?_
        refine BodyQ.ret rfl ?_
        rfl
      · try simp only [RL] at h1
        exact absurd h1 (by simp)
    · skip
      have hsl : (srt p false).length ≤ 9 := by rw [srt_len]; exact okB_rooms (plain_okB hv).1
      simp (disch := omega) only [↓RU, RV, RH, ↓reduceIte, Nat.reduceEqDiff, reduceCtorEq, if_pos, w64, List.append_nil, ↓RS, RG, Nat.reduceAdd, Nat.reduceMul, Nat.reduceLeDiff, tybool, pEq_bb, Option.map_some, bne_self_eq_false, beq_self_eq_true, Bool.not_true, Bool.not_false, decide_true, hv, ifL_t]
      refine CallR.pc (sameInts_pc (p := (srt p false)) (q := (srt p false)) (by omega) (by omega)) rfl (.inl rfl) ?_
      simp (disch := omega) only [↓RU, RV, RH, ↓reduceIte, Nat.reduceEqDiff, reduceCtorEq, if_pos, w64, List.append_nil, ↓RS, RG, Nat.reduceAdd, Nat.reduceMul, Nat.reduceLeDiff, tybool, pEq_bb, Option.map_some, bne_self_eq_false, beq_self_eq_true, Bool.not_true, Bool.not_false, decide_true, hv, ifL_t]
      refine hK _ _ ?_
      clear hK K
      refine W.cond rfl (fun h1 => ?_) (fun h1 => ?_)
      · try simp only [RL] at h1
        exact absurd h1 (by simp)
      · try simp only [RL] at h1
        have hp := plainI_is hv
        obtain ⟨r0, rl, cz, cl, cr, cu, hr0, hrl, l0, ll, b1, b2, b3, b4, hcu, hcl2, hcr, k2, k3, k4⟩ := plain_rows hp
        have hn9 := okB_rooms (plain_okB hv).1
        have hn1 := okB_rooms1 (plain_okB hv).1
        have hl1 := srt_len (p := p) (below := false)
        have hl2 := srt_len (p := p) (below := true)
        have u1 := cl.toNat_lt
        have u2 := cr.toNat_lt
        have u3 := cu.toNat_lt
        have q1 := (corners hp).2.2.2.2.1
        have hf : floorI p = true := by unfold plainI at hv; simp only [Bool.and_eq_true] at hv; exact hv.1
        refine W.skip ?_
        refine XThen.norm ?_
        refine W.seq_region fun K hK => ?_
        simp (disch := omega) only [↓RU, RV, RH, ↓reduceIte, Nat.reduceEqDiff, reduceCtorEq, if_pos, ↓RS, RG, Nat.reduceAdd, Nat.reduceMul, Nat.reduceLeDiff, tyLstring, tystring]
        refine hK _ _ ?_
        clear hK K
        refine W.seq_region fun K hK => ?_
        simp (disch := omega) only [↓RU, RV, RH, ↓reduceIte, Nat.reduceEqDiff, reduceCtorEq, if_pos, ↓RS, RG, Nat.reduceAdd, Nat.reduceMul, Nat.reduceLeDiff, tyLstring, tystring, hr0, Int.toNat_zero, Int.reduceToNat]
        refine hK _ _ ?_
        clear hK K
        refine W.seq ?_
        refine W.seq_region fun K hK => ?_
        simp (disch := omega) only [↓RU, RV, RH, ↓reduceIte, Nat.reduceEqDiff, reduceCtorEq, if_pos, ↓RS, RG, Nat.reduceAdd, Nat.reduceMul, Nat.reduceLeDiff]
        refine hK _ _ ?_
        clear hK K
        refine W.block ?_
        refine W.loop [3, 4, 8, 9, 10] (fun n vs S => ∃ i tk : Nat, n = (rP p).length - i ∧ 1 ≤ i ∧ i ≤ (rP p).length ∧ vs = [eStrs p, eInts (srt p false), .int .i64 p.length, .int .i64 r0.length, .int .i64 i] ∧ S = ⟨[], tk⟩) ((rP p).length - 1) ?_ ?_
        · refine ⟨0, 1, t, ?_, Nat.le_refl _, hn1, ?_, rfl⟩
          · rfl
          · simp [Env.put, Env.of, argEnv]
        rintro n vs S - ⟨i, tk, rfl, hi1, h_i, rfl, rfl⟩
        refine W.seq ?_
        refine W.seq_region fun K hK => ?_
        simp (disch := omega) only [↓RU, RV, RH, ↓reduceIte, Nat.reduceEqDiff, reduceCtorEq, if_pos, w64, ↓RS, RG, Nat.reduceAdd, Nat.reduceMul, Nat.reduceLeDiff, tyLint, tyint]
        refine hK _ _ ?_
        clear hK K
        refine W.cond rfl (fun h2 => ?_) (fun h2 => ?_)
        · try simp only [RL] at h2
          obtain ⟨a, ha, ha2, hsa⟩ := srt_get (below := false) hp (show i - 1 < (rP p).length by omega)
          obtain ⟨b, hb, hb2, hsb⟩ := srt_get (below := false) hp (show i < (rP p).length by omega)
          have hab : bfK p false a b = true := (ahK_iff hp ha hb).2 (by omega)
          refine W.skip ?_
          refine XThen.norm ?_
          refine W.seq ?_
          refine W.block ?_
          refine W.seq_draw (by kernel_rfl) fun K hK => ?_
          cases hl : askV p (lfM p) a b
          · skip
            have hu : askV p (abM p) a b = true := by
              rw [askV_of hv ha hb] at hl ⊢
              simp only [bfK, bf1, Bool.false_eq_true, if_false, hl, Bool.false_or] at hab
              exact hab
            simp (disch := omega) only [↓RU, RV, RH, ↓reduceIte, Nat.reduceEqDiff, reduceCtorEq, if_pos, w64, List.append_nil, ↓RS, RG, Nat.reduceAdd, Nat.reduceMul, Nat.reduceLeDiff, tyLint, tyint, hsa, hsb, hl, hu, toNat_pred]
            refine CallR.pc (orderLeft_pc hs a b) rfl (.inl rfl) ?_
            simp (disch := omega) only [↓RU, RV, RH, ↓reduceIte, Nat.reduceEqDiff, reduceCtorEq, if_pos, w64, List.append_nil, ↓RS, RG, Nat.reduceAdd, Nat.reduceMul, Nat.reduceLeDiff, tyLint, tyint, hsa, hsb, hl, hu, toNat_pred]
            refine CallR.pc (orderAbove_pc hs a b) rfl (.inl rfl) ?_
            simp (disch := omega) only [↓RU, RV, RH, ↓reduceIte, Nat.reduceEqDiff, reduceCtorEq, if_pos, w64, List.append_nil, ↓RS, RG, Nat.reduceAdd, Nat.reduceMul, Nat.reduceLeDiff, tyLint, tyint, hsa, hsb, hl, hu, toNat_pred]
            refine hK _ _ ?_
            clear hK K
            refine W.cond rfl (fun h3 => ?_) (fun h3 => ?_)
            · try simp only [RL] at h3
              exact absurd h3 (by simp)
            · try simp only [RL] at h3
              refine W.skip ?_
              refine XBlock.norm ?_
              refine XThen.norm ?_
              refine W.region_k fun K hK => ?_
              simp (disch := omega) only [↓RU, RV, RH, ↓reduceIte, Nat.reduceEqDiff, reduceCtorEq, if_pos, w64, ↓RS, RG, Nat.reduceAdd, Nat.reduceMul, Nat.reduceLeDiff, tyint]
              refine hK _ _ ?_
              clear hK K
              refine XThen.norm ?_
              refine ⟨(rP p).length - (i + 1), by omega, 0, i + 1, tk, rfl, by omega, by omega, ?_, rfl⟩
              simp [Env.put, Env.of]
          · skip
            simp (disch := omega) only [↓RU, RV, RH, ↓reduceIte, Nat.reduceEqDiff, reduceCtorEq, if_pos, w64, List.append_nil, ↓RS, RG, Nat.reduceAdd, Nat.reduceMul, Nat.reduceLeDiff, tyLint, tyint, hsa, hsb, hl, toNat_pred]
            refine CallR.pc (orderLeft_pc hs a b) rfl (.inl rfl) ?_
            simp (disch := omega) only [↓RU, RV, RH, ↓reduceIte, Nat.reduceEqDiff, reduceCtorEq, if_pos, w64, List.append_nil, ↓RS, RG, Nat.reduceAdd, Nat.reduceMul, Nat.reduceLeDiff, tyLint, tyint, hsa, hsb, hl, toNat_pred]
            refine hK _ _ ?_
            clear hK K
            refine W.cond rfl (fun h3 => ?_) (fun h3 => ?_)
            · try simp only [RL] at h3
              exact absurd h3 (by simp)
            · try simp only [RL] at h3
              refine W.skip ?_
              refine XBlock.norm ?_
              refine XThen.norm ?_
              refine W.region_k fun K hK => ?_
              simp (disch := omega) only [↓RU, RV, RH, ↓reduceIte, Nat.reduceEqDiff, reduceCtorEq, if_pos, w64, ↓RS, RG, Nat.reduceAdd, Nat.reduceMul, Nat.reduceLeDiff, tyint]
              refine hK _ _ ?_
              clear hK K
              refine XThen.norm ?_
              refine ⟨(rP p).length - (i + 1), by omega, 0, i + 1, tk, rfl, by omega, by omega, ?_, rfl⟩
              simp [Env.put, Env.of]
        · try simp only [RL] at h2
          refine W.exit ?_
          refine XThen.exit ?_
          refine XThen.exit ?_
          refine XBlock.hit ?_
          refine XThen.norm ?_
          refine W.seq_region fun K hK => ?_
          simp (disch := omega) only [↓RU, RV, RH, ↓reduceIte, Nat.reduceEqDiff, reduceCtorEq, if_pos, List.append_nil, ↓RS, RG, Nat.reduceAdd, Nat.reduceMul, Nat.reduceLeDiff]
          refine CallR.pc (planRooms_pc hs hf) rfl (.inl rfl) ?_
          simp (disch := omega) only [↓RU, RV, RH, ↓reduceIte, Nat.reduceEqDiff, reduceCtorEq, if_pos, List.append_nil, ↓RS, RG, Nat.reduceAdd, Nat.reduceMul, Nat.reduceLeDiff]
          refine hK _ _ ?_
          clear hK K
          refine W.seq_region fun K hK => ?_
          simp (disch := omega) only [↓RU, RV, RH, ↓reduceIte, Nat.reduceEqDiff, reduceCtorEq, if_pos, List.append_nil, ↓RS, RG, Nat.reduceAdd, Nat.reduceMul, Nat.reduceLeDiff]
          refine CallR.pc (sorted_pc (l := (srt p false)) (Z := rooms (rP p).length) (by omega) (sorted_rooms (srt_perm hp false))) rfl (.inl rfl) ?_
          simp (disch := omega) only [↓RU, RV, RH, ↓reduceIte, Nat.reduceEqDiff, reduceCtorEq, if_pos, List.append_nil, ↓RS, RG, Nat.reduceAdd, Nat.reduceMul, Nat.reduceLeDiff]
          refine hK _ _ ?_
          clear hK K
          refine W.seq ?_
          refine W.seq_region fun K hK => ?_
          simp (disch := omega) only [↓RU, RV, RH, ↓reduceIte, Nat.reduceEqDiff, reduceCtorEq, if_pos, ↓RS, RG, Nat.reduceAdd, Nat.reduceMul, Nat.reduceLeDiff]
          refine hK _ _ ?_
          clear hK K
          refine W.block ?_
          refine W.loop [3, 4, 8, 9, 11, 12, 13, 14] (fun n vs S => ∃ k tk2 : Nat, n = (rP p).length - k ∧ k ≤ (rP p).length ∧ vs = [eStrs p, eInts (srt p false), .int .i64 p.length, .int .i64 r0.length, .int .i64 (rP p).length, .bool true, eInts (rooms (rP p).length), .int .i64 k] ∧ S = ⟨[], tk2⟩) (rP p).length ?_ ?_
          · refine ⟨0, 0, tk, rfl, Nat.zero_le _, ?_, rfl⟩
            simp [Env.put, Env.of]
          rintro n vs S - ⟨k, tk2, rfl, h_k, rfl, rfl⟩
          have hrl9 := rooms_len (n := (rP p).length)
          refine W.seq ?_
          refine W.seq_region fun K hK => ?_
          simp (disch := omega) only [↓RU, RV, RH, ↓reduceIte, Nat.reduceEqDiff, reduceCtorEq, if_pos, w64, ↓RS, RG, Nat.reduceAdd, Nat.reduceMul, Nat.reduceLeDiff, tyLint, tyint]
          refine hK _ _ ?_
          clear hK K
          refine W.cond rfl (fun h4 => ?_) (fun h4 => ?_)
          · try simp only [RL] at h4
            have hrk := rooms_at (n := (rP p).length) (show k < (rP p).length by omega)
            refine W.skip ?_
            refine XThen.norm ?_
            refine W.seq ?_
            refine W.block ?_
            refine W.seq_region fun K hK => ?_
            simp (disch := omega) only [↓RU, RV, RH, ↓reduceIte, Nat.reduceEqDiff, reduceCtorEq, if_pos, w64, ↓RS, RG, Nat.reduceAdd, Nat.reduceMul, Nat.reduceLeDiff, tyLint, tyint, hrk, bne_self_eq_false]
            refine hK _ _ ?_
            clear hK K
            refine W.cond rfl (fun h5 => ?_) (fun h5 => ?_)
            · try simp only [RL] at h5
              exact absurd h5 (by simp)
            · try simp only [RL] at h5
              refine W.skip ?_
              refine XBlock.norm ?_
              refine XThen.norm ?_
              refine W.region_k fun K hK => ?_
              simp (disch := omega) only [↓RU, RV, RH, ↓reduceIte, Nat.reduceEqDiff, reduceCtorEq, if_pos, w64, ↓RS, RG, Nat.reduceAdd, Nat.reduceMul, Nat.reduceLeDiff, tyint]
              refine hK _ _ ?_
              clear hK K
              refine XThen.norm ?_
              refine ⟨(rP p).length - (k + 1), by omega, 0, k + 1, tk2, rfl, by omega, ?_, rfl⟩
              simp [Env.put, Env.of]
          · try simp only [RL] at h4
            refine W.exit ?_
            refine XThen.exit ?_
            refine XThen.exit ?_
            refine XBlock.hit ?_
            refine XThen.norm ?_
            refine W.seq_draw (by kernel_rfl) fun K hK => ?_
            simp (disch := omega) only [↓RU, RV, RH, ↓reduceIte, Nat.reduceEqDiff, reduceCtorEq, if_pos, w64, w64, ↓RS, RG, Nat.reduceAdd, Nat.reduceMul, Nat.reduceLeDiff, tyLint, tyLstring, tyint, tystring, tyuint8, hrl9, hl1, q1, k2, hrl, hcr, toNat_pred, Int.toNat_zero, Int.reduceToNat, beq_self_eq_true]
            refine hK _ _ ?_
            clear hK K
            refine W.ret ?_
            refine BodyQ.ret rfl ?_
            rfl

end Fw
end Go.Proofs.YtcglmbijpjhbmaaGreat

/-! First orders go from the upper left room to the lower right one: the law FnFirst answers true for all codes. No condition. -/
namespace Go.Proofs.YtcglmbijpjhbmaaGreat
open Go Go.ChangeShapes Go.WideShapes Go.ChangeAt Go.RowKit Fw

theorem Tryz.ownRu : ownKnob Tryz.prog.godebug = none := by kernel_rfl
theorem Tryz.laidOutRu : laidOutB Tryz.prog = true := by kernel_rfl

set_option maxRecDepth 100000 in
theorem ru_lifted (os : Os) (started : os.Started) (H : Type) (enc : TypeId × Value → H) :
    ReturnsInHanded {} Tryz.checked os 13 .any (Rows.fnFirstSpec.pre6 enc Tryz.prog Tryz.f13 Rows.fnFirstRow.domain false) (Rows.fnFirstSpec.post enc Tryz.prog Tryz.f13 false true false false) := by
  refine returnsInHanded_of_change (C := Tryz.checked) Tryz.ownRu started (by kernel_rfl) Tryz.func13
    (ChangeSpec.witness6 (enc := enc) (C := Tryz.checked) false ⟨#[], #[.slice none 0 0], []⟩ 8 (by kernel_rfl) (by kernel_rfl) (by kernel_rfl) (by kernel_rfl)) ?_
  intro W base args ds gs before hval0 hW hcnd _
  have hval : ∀ (j : Nat) t v, Tryz.f13.params[j]? = some t → args[j]? = some v → Value.okWide Tryz.prog W .any base t v := hval0
  have hW' := hW
  obtain ⟨p, q, hA0, hV, rfl, hfz, hnd⟩ := hW
  have hA : DataW.TrodAll enc Tryz.prog W 0 (fun _ => true) true Tryz.f13.params.toList args.toList ds p := hA0
  rw [Tryz.params13] at hA hval
  obtain ⟨v0, d0, rfl, rfl, h0⟩ := trodAll_one hA
  obtain ⟨rfl, rfl⟩ := trodVars_none hV
  obtain ⟨l0, i0, b0⟩ := vi_bytes (hval 0 _ v0 rfl rfl) h0
  have hlt : ∀ x ∈ p, x.block < W.heap.size := fun x hx => hW'.lt x (by simp [hx])
  refine ((first_law b0).run (fun b => b < W.heap.size) W #[v0] (fun _ h => h) rfl ?_).mono ?_
  · rintro (_ | i) p c hp hc
    · cases hp; cases hc; exact i0
    · simp at hp
  · rintro e W' ⟨cv, rfl, hB, hr⟩
    have hcv : cv = .bool true := by cases hr; rfl
    subst hcv
    have t0 := Below.trod Tryz.laidOutRu (by kernel_rfl) (of_decide_eq_true (by kernel_rfl)) h0 hB fun x hx => hlt x (by simp [hx])
    refine ⟨_, rfl, _, _, _, [], p, [], hW', ?_, ?_, ?_, hB.frame _, fun h => by cases h⟩
    · exact trodAll_mk1 (shut_bool Tryz.underlying4 true)
    · rw [Tryz.params13]; exact trodAll_mk1 t0
    · trivial
theorem ru_holds : Rows.FnFirstSaid :=
  OpenClaim.holds_of_wide 13 Tryz.f13 rfl rfl rfl rfl rfl rfl rfl ⟨rfl, rfl, rfl, rfl, rfl⟩ rfl rfl rfl rfl rfl (by kernel_rfl) Tryz.func13 (by kernel_rfl)
    (of_decide_eq_true (by kernel_rfl)) (by unfold Func.isWrapper; first | (rw [if_pos (by decide +kernel)]; kernel_rfl) | (rw [if_neg (by decide +kernel)]; exact ⟨rfl, rfl⟩))
    (fun os started H enc _ => ru_lifted os started H enc)
end Go.Proofs.YtcglmbijpjhbmaaGreat
