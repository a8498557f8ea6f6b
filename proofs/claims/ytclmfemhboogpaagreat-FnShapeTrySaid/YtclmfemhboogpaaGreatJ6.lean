/- Least areas with rooms turned are among all best shapes: the law FnShapeTry answers true for all codes. No condition. -/
import Derived.Test.YtclmfemhboogpaaGreatJ5
import Derived.Test.YtclmfemhboogpaaGreatJ4
import Derived.Test.YtclmfemhboogpaaGreatJ3
set_option linter.all false
namespace Go.Proofs.YtclmfemhboogpaaGreat
namespace Fw
open Go
open Nat (reduceEqDiff reduceLeDiff reduceAdd reduceMul)
theorem tdiv39 {k : Nat} : ((k : Nat) : Int).tdiv 39 = ((k / 39 : Nat) : Int) := (Int.ofNat_tdiv k 39).symm
theorem tdiv59 {k : Nat} : ((k : Nat) : Int).tdiv 59 = ((k / 59 : Nat) : Int) := (Int.ofNat_tdiv k 59).symm
theorem tw39 : ((39 : Int) = 0) = False := by simp
theorem tw59 : ((59 : Int) = 0) = False := by simp
theorem tk_ints {l : List Int} {q : IntKind} : (l.map (PV.int q)).take l.length = l.map (.int q) := List.take_of_length_le (by simp)
theorem tk_i {l : List Int} {q : IntKind} {i : Nat} (h : l.length = i) : (l.map (PV.int q)).take i = l.map (.int q) := List.take_of_length_le (by simp [h])
theorem l92Needs_ev {code : Txt} {q vr t : Nat} (hc : code.length ≤ 1048576) (hq : q ≤ 700000) {p : List Txt} (hs : Sm p) : Ev Tryz.prog 107 [.ref 0 vr 0, eStrs p] ⟨[.arr vr 147 2 [eBy code, .int .i64 (q : Int)]], t⟩ fun v S => ∃ (l : List Int) (q2 t2 v1 : Nat), v = .loc 1 v1 0 l.length ∧ l.length ≤ 400 ∧ q2 ≤ q + 1000 ∧ S = ⟨[.arr vr 147 2 [eBy code, .int .i64 (q2 : Int)], .arr v1 3 1 (l.map (.int .i64))], t2⟩ := by
 have hrb := l1Rooms_bound p
 refine Ev.of ⟨Tryz.func107, by kernel_rfl, rfl, by kernel_rfl⟩ tabOk mixed (by show 2 ≤ Tryz.f107.ntmps; decide) ?_
 refine W.seq_region fun K hK => ?_
 simp (disch := omega) only [↓RU, RV, RH, ↓reduceIte, reduceEqDiff, reduceCtorEq, if_pos, ↓RS, RG, reduceAdd, reduceMul, reduceLeDiff]
 refine hK _ _ ?_;clear hK K
 refine W.seq_region fun K hK => ?_
 simp (disch := omega) only [↓RU, RV, RH, ↓reduceIte, reduceEqDiff, reduceCtorEq, if_pos, ↓RS, RG, reduceAdd, reduceMul, reduceLeDiff, tyLint, tyint]
 refine hK _ _ ?_;clear hK K
 refine W.seq_region fun K hK => ?_
 simp (disch := omega) only [↓RU, RV, RH, ↓reduceIte, reduceEqDiff, reduceCtorEq, if_pos, List.append_nil, w64, ↓RS, RG, reduceAdd, reduceMul, reduceLeDiff, tyint]
 refine CallR.pc (l1Rooms_pc hs) rfl (.inl rfl) ?_
 simp (disch := omega) only [↓RU, RV, RH, ↓reduceIte, reduceEqDiff, reduceCtorEq, if_pos, List.append_nil, w64, ↓RS, RG, reduceAdd, reduceMul, reduceLeDiff, tyint]
 refine CallR.ev (pick_ev (q := q) hc (by omega) 40 (by omega) (by omega)) ?_
 rintro _ _ ⟨k0, rfl, hk0z, hk0, rfl⟩
 have hk0b := hk0 (by omega)
 simp (disch := omega) only [↓RU, RV, RH, ↓reduceIte, reduceEqDiff, reduceCtorEq, if_pos, List.append_nil, w64, ↓RS, RG, reduceAdd, reduceMul, reduceLeDiff, tyint, tdiv39, tw39, tdiv59, tw59]
 refine hK _ _ ?_;clear hK K
 obtain ⟨N, hN⟩ : ∃ N : Nat, l1Rooms p + ((k0 / 39 : Nat) : Int) = N := ⟨(l1Rooms p + ((k0 / 39 : Nat) : Int)).toNat, by omega⟩
 have hN2 : N ≤ 300 := by omega
 simp only [hN]
 refine W.seq ?_
 refine W.seq_region fun K hK => ?_
 simp (disch := omega) only [↓RU, RV, RH, ↓reduceIte, reduceEqDiff, reduceCtorEq, if_pos, ↓RS, RG, reduceAdd, reduceMul, reduceLeDiff]
 refine hK _ _ ?_;clear hK K
 refine W.block ?_
 refine W.loop [0, 1, 5, 6, 7] (fun n vs S => ∃ (i q2 v1 t2 : Nat) (l : List Int), n = N - i ∧ i ≤ N ∧ l.length = i ∧ q2 ≤ q + 1 + 2 * i ∧ vs = [.ref 0 vr 0, eStrs p, .loc 1 v1 0 i, .int .i64 N, .int .i64 i] ∧ S = ⟨[.arr vr 147 2 [eBy code, .int .i64 (q2 : Int)], .arr v1 3 1 (l.map (.int .i64))], t2⟩) N ?_ ?_
 ·refine ⟨2, 0, q + 1, t, t + 1, [], rfl, by omega, rfl, by omega, ?_, rfl⟩
  simp [Env.put, Env.of, argEnv]
 rintro n vs S - ⟨i, q2, v1, t2, l, rfl, h_i, hll, hq2, rfl, rfl⟩
 refine W.seq ?_
 refine W.seq_region fun K hK => ?_
 simp (disch := omega) only [↓RU, RV, RH, ↓reduceIte, reduceEqDiff, reduceCtorEq, if_pos, w64, ↓RS, RG, reduceAdd, reduceMul, reduceLeDiff, tyint]
 refine hK _ _ ?_;clear hK K
 refine W.cond rfl (fun h => ?_) (fun h => ?_)
 ·try simp only [RL] at h
  refine W.skip ?_
  refine XThen.norm ?_
  refine W.seq ?_
  refine W.block ?_
  refine W.region_k fun K hK => ?_
  simp (disch := omega) only [↓RU, RV, RH, ↓reduceIte, reduceEqDiff, reduceCtorEq, if_pos, List.append_nil, w64, ↓RS, RG, reduceAdd, reduceMul, reduceLeDiff, tyLint, tyint, tk_i hll]
  refine CallR.ev (pick_ev (q := q2) hc (by omega) 6 (by omega) (by omega)) ?_
  rintro _ _ ⟨k1, rfl, hk1z, hk1, rfl⟩
  have hk1b := hk1 (by omega)
  simp (disch := omega) only [↓RU, RV, RH, ↓reduceIte, reduceEqDiff, reduceCtorEq, if_pos, List.append_nil, w64, ↓RS, RG, reduceAdd, reduceMul, reduceLeDiff, tyLint, tyint, tk_i hll, tdiv39, tw39, tdiv59, tw59]
  refine CallR.ev (pick_ev (q := q2 + 1) hc (by omega) 60 (by omega) (by omega)) ?_
  rintro _ _ ⟨k2, rfl, hk2z, hk2, rfl⟩
  have hk2b := hk2 (by omega)
  simp (disch := omega) only [↓RU, RV, RH, ↓reduceIte, reduceEqDiff, reduceCtorEq, if_pos, List.append_nil, w64, ↓RS, RG, reduceAdd, reduceMul, reduceLeDiff, tyLint, tyint, tk_i hll, tdiv39, tw39, tdiv59, tw59]
  refine hK _ _ ?_;clear hK K
  refine XBlock.norm ?_
  refine XThen.norm ?_
  refine W.region_k fun K hK => ?_
  simp (disch := omega) only [↓RU, RV, RH, ↓reduceIte, reduceEqDiff, reduceCtorEq, if_pos, w64, ↓RS, RG, reduceAdd, reduceMul, reduceLeDiff, tyint]
  refine hK _ _ ?_;clear hK K
  refine XThen.norm ?_
  refine ⟨N - (i + 1), by omega, 2, i + 1, q2 + 1 + 1, t2 + 1, t2 + 2, l ++ [1 + (k1 : Int) + ((k2 / 59 : Nat) : Int) * 9], rfl, by omega, by simp [hll], by omega, ?_, ?_⟩
  all_goals simp [Env.put, Env.of, take_eq, tk_le, hll, tk_i hll]
 ·try simp only [RL] at h
  obtain rfl : i = N := by omega
  refine W.exit ?_
  refine XThen.exit ?_
  refine XThen.exit ?_
  refine XBlock.hit ?_
  refine XThen.norm ?_
  refine W.seq_region fun K hK => ?_
  simp (disch := omega) only [↓RU, RV, RH, ↓reduceIte, reduceEqDiff, reduceCtorEq, if_pos, ↓RS, RG, reduceAdd, reduceMul, reduceLeDiff]
  refine hK _ _ ?_;clear hK K
  refine W.ret ?_
  refine BodyQ.ret rfl ?_
  exact ⟨_, l, q2, t2, v1, by rw [hll]; rfl, by omega, by omega, take_all⟩
theorem l92Sized_ev {code : Txt} (hc : code.length ≤ 1048576) : Ev Tryz.prog 54 [eBy code] ⟨[], 0⟩ fun v S => ∃ (p : List Txt) (ws : List Int) (t : Nat), Sm p ∧ ws.length ≤ 400 ∧ v = .tup [eStrs p, eInts ws] ∧ S = ⟨[], t⟩ := by
 refine Ev.of ⟨Tryz.func54, by kernel_rfl, rfl, by kernel_rfl⟩ tabOk mixed (by show 1 ≤ Tryz.f54.ntmps; decide) ?_
 refine W.seq_region fun K hK => ?_
 simp (disch := omega) only [↓RU, RV, RH, ↓reduceIte, reduceEqDiff, reduceCtorEq, if_pos, ↓RS, RG, reduceAdd, reduceMul, reduceLeDiff]
 refine hK _ _ ?_;clear hK K
 refine W.seq_region fun K hK => ?_
 simp (disch := omega) only [↓RU, RV, RH, ↓reduceIte, reduceEqDiff, reduceCtorEq, if_pos, List.append_nil, ↓RS, RG, reduceAdd, reduceMul, reduceLeDiff, rdO]
 refine CallR.pn (l6Open_pn hc) rfl (.inr rfl) ?_
 simp (disch := omega) only [↓RU, RV, RH, ↓reduceIte, reduceEqDiff, reduceCtorEq, if_pos, List.append_nil, ↓RS, RG, reduceAdd, reduceMul, reduceLeDiff, rdO, rdO, RN]
 refine hK _ _ ?_;clear hK K
 refine W.seq_region fun K hK => ?_
 have hc2 : (code.take 2000).length ≤ 1048576 := by rw [List.length_take]; omega
 generalize code.take 2000 = code2 at hc2 ⊢
 simp (disch := omega) only [↓RU, RV, RH, ↓reduceIte, reduceEqDiff, reduceCtorEq, if_pos, List.append_nil, ↓RS, RG, reduceAdd, reduceMul, reduceLeDiff]
 refine CallR.ev (l91Plain_ev (q := 0) (code := code2) hc2 (by omega) (rows := 5) (cols := 5) (by omega) (by omega) (by omega) (by omega)) ?_
 rintro _ _ ⟨p, q, t, rfl, hs, hl, hq, rfl⟩
 simp (disch := omega) only [↓RU, RV, RH, ↓reduceIte, reduceEqDiff, reduceCtorEq, if_pos, List.append_nil, ↓RS, RG, reduceAdd, reduceMul, reduceLeDiff]
 refine hK _ _ ?_;clear hK K
 refine W.joinZ [2, 3] (fun vs S => ∃ (ws : List Int) (tk : Nat), ws.length ≤ 400 ∧ vs = [eStrs p, eInts ws] ∧ S = ⟨[], tk⟩) ?_ ?_
 ·
  refine W.region_k fun K hK => ?_
  simp (disch := omega) only [↓RU, RV, RH, ↓reduceIte, reduceEqDiff, reduceCtorEq, if_pos, List.append_nil, ↓RS, RG, reduceAdd, reduceMul, reduceLeDiff]
  refine CallR.ev (l92Needs_ev (q := q) hc2 (by omega) hs) ?_
  rintro _ _ ⟨ws, q2, t2, v1, rfl, hwsl, hq2, rfl⟩
  simp (disch := omega) only [↓RU, RV, RH, ↓reduceIte, reduceEqDiff, reduceCtorEq, if_pos, List.append_nil, ↓RS, RG, reduceAdd, reduceMul, reduceLeDiff]
  refine hK _ _ ?_;clear hK K
  refine XThen.norm ?_
  refine ⟨0, [eStrs p, eInts ws], ⟨[], t2⟩, ?_, ?_, ws, t2, hwsl, rfl, rfl⟩
  ·simp [-List.mapM_map, Store.frz, frzObs, frzOb, frz_eInts, frz_loc, rfz_loc, frz_int, frz_sl, frz_ints, rfz_ints, frz_strs, frz_bytes, rfz_bytes, rfz_str, rfz_bool, frz_str, frz_bool, Env.put, Env.of, argEnv, rfz_int, List.mapM_append, List.mapM_cons, frz_ref0, tk_strs, rfz_tstr, tk_ints, ← frz_eInts]
  ·simp [-List.mapM_map, Store.frz, frzObs, frzOb, frz_eInts, frz_loc, rfz_loc, frz_int, frz_sl, frz_ints, rfz_ints, frz_strs, frz_bytes, rfz_bytes, rfz_str, rfz_bool, frz_str, frz_bool, Env.put, Env.of, argEnv, rfz_int, List.mapM_append, List.mapM_cons, frz_ref0, tk_strs, rfz_tstr, tk_ints]
 rintro vs S - ⟨ws, tk, hwsl, rfl, rfl⟩
 refine W.ret ?_
 refine BodyQ.ret rfl ?_
 exact ⟨0, p, ws, tk, hs, hwsl, rfl, rfl⟩
theorem l92Shaped_ev {code : Txt} (hc : code.length ≤ 1048576) : Ev Tryz.prog 102 [eBy code] ⟨[], 0⟩ fun v S => ∃ (p : List Txt) (ws ht : List Int) (t : Nat), Sm p ∧ ws.length ≤ 400 ∧ ht.length ≤ 400 ∧ v = .tup [eStrs p, eInts ws, eInts ht] ∧ S = ⟨[], t⟩ := by
 refine Ev.of ⟨Tryz.func102, by kernel_rfl, rfl, by kernel_rfl⟩ tabOk mixed (by show 1 ≤ Tryz.f102.ntmps; decide) ?_
 refine W.seq_region fun K hK => ?_
 simp (disch := omega) only [↓RU, RV, RH, ↓reduceIte, reduceEqDiff, reduceCtorEq, if_pos, ↓RS, RG, reduceAdd, reduceMul, reduceLeDiff]
 refine hK _ _ ?_;clear hK K
 refine W.seq_region fun K hK => ?_
 simp (disch := omega) only [↓RU, RV, RH, ↓reduceIte, reduceEqDiff, reduceCtorEq, if_pos, List.append_nil, ↓RS, RG, reduceAdd, reduceMul, reduceLeDiff, rdO]
 refine CallR.pn (l6Open_pn hc) rfl (.inr rfl) ?_
 simp (disch := omega) only [↓RU, RV, RH, ↓reduceIte, reduceEqDiff, reduceCtorEq, if_pos, List.append_nil, ↓RS, RG, reduceAdd, reduceMul, reduceLeDiff, rdO, rdO, RN]
 refine hK _ _ ?_;clear hK K
 refine W.seq_region fun K hK => ?_
 have hc2 : (code.take 2000).length ≤ 1048576 := by rw [List.length_take]; omega
 generalize code.take 2000 = code2 at hc2 ⊢
 simp (disch := omega) only [↓RU, RV, RH, ↓reduceIte, reduceEqDiff, reduceCtorEq, if_pos, List.append_nil, ↓RS, RG, reduceAdd, reduceMul, reduceLeDiff]
 refine CallR.ev (l91Plain_ev (q := 0) (code := code2) hc2 (by omega) (rows := 3) (cols := 4) (by omega) (by omega) (by omega) (by omega)) ?_
 rintro _ _ ⟨p, q, t, rfl, hs, hl, hq, rfl⟩
 simp (disch := omega) only [↓RU, RV, RH, ↓reduceIte, reduceEqDiff, reduceCtorEq, if_pos, List.append_nil, ↓RS, RG, reduceAdd, reduceMul, reduceLeDiff]
 refine hK _ _ ?_;clear hK K
 refine W.seq ?_
 refine W.seq_region fun K hK => ?_
 simp (disch := omega) only [↓RU, RV, RH, ↓reduceIte, reduceEqDiff, reduceCtorEq, if_pos, ↓RS, RG, reduceAdd, reduceMul, reduceLeDiff]
 refine hK _ _ ?_;clear hK K
 refine W.block ?_
 refine W.loop [5, 6, 7] (fun n vs S => ∃ (i : Nat) (p2 : List Txt) (q2 tk : Nat), n = 3 - i ∧ i ≤ 3 ∧ Sm p2 ∧ q2 ≤ 1000 + 1000 * i ∧ vs = [.ref 0 0 0, eStrs p2, .int .i64 i] ∧ S = ⟨[.arr 0 147 2 [eBy code2, .int .i64 (q2 : Int)]], tk⟩) 3 ?_ ?_
 ·refine ⟨1, 0, p, q, t, rfl, by omega, hs, by omega, ?_, rfl⟩
  simp [Env.put, Env.of, argEnv]
 rintro n vs S - ⟨i, p2, q2, tk, rfl, h_i, hs2, hq2, rfl, rfl⟩
 refine W.seq ?_
 refine W.seq_region fun K hK => ?_
 by_cases hi3 : i < 3
 ·skip
  have hd : decide ((i : Int) < 3) = true := decide_eq_true (by omega)
  simp (disch := omega) only [↓RU, RV, RH, ↓reduceIte, reduceEqDiff, reduceCtorEq, if_pos, w64, List.append_nil, ↓RS, RG, reduceAdd, reduceMul, reduceLeDiff, tyint, hd]
  refine CallR.pc (l1Rooms_pc hs2) rfl (.inl rfl) ?_
  simp (disch := omega) only [↓RU, RV, RH, ↓reduceIte, reduceEqDiff, reduceCtorEq, if_pos, w64, List.append_nil, ↓RS, RG, reduceAdd, reduceMul, reduceLeDiff, tyint, hd]
  refine hK _ _ ?_;clear hK K
  refine W.cond rfl (fun h => ?_) (fun h => ?_)
  ·try simp only [RL] at h
   refine W.skip ?_
   refine XThen.norm ?_
   refine W.seq ?_
   refine W.block ?_
   refine W.region_k fun K hK => ?_
   simp (disch := omega) only [↓RU, RV, RH, ↓reduceIte, reduceEqDiff, reduceCtorEq, if_pos, List.append_nil, ↓RS, RG, reduceAdd, reduceMul, reduceLeDiff]
   refine CallR.ev (l91Plain_ev (q := q2) (code := code2) hc2 (by omega) (rows := 3) (cols := 3) (by omega) (by omega) (by omega) (by omega)) ?_
   rintro _ _ ⟨p3, q3, t3, rfl, hs3, hl3, hq3, rfl⟩
   simp (disch := omega) only [↓RU, RV, RH, ↓reduceIte, reduceEqDiff, reduceCtorEq, if_pos, List.append_nil, ↓RS, RG, reduceAdd, reduceMul, reduceLeDiff]
   refine hK _ _ ?_;clear hK K
   refine XBlock.norm ?_
   refine XThen.norm ?_
   refine W.region_k fun K hK => ?_
   simp (disch := omega) only [↓RU, RV, RH, ↓reduceIte, reduceEqDiff, reduceCtorEq, if_pos, w64, ↓RS, RG, reduceAdd, reduceMul, reduceLeDiff, tyint]
   refine hK _ _ ?_;clear hK K
   refine XThen.norm ?_
   have hq9 : q3 ≤ 1000 + 1000 * (i + 1) := Nat.le_trans hq3 (Nat.le_trans (Nat.add_le_add_right hq2 1000) (Nat.le_of_eq (by rw [Nat.mul_succ, Nat.add_assoc])))
   refine ⟨3 - (i + 1), by omega, 1, i + 1, p3, q3, t3, rfl, by omega, hs3, hq9, ?_, rfl⟩
   simp [Env.put, Env.of]
  ·try simp only [RL] at h
   refine W.exit ?_
   refine XThen.exit ?_
   refine XThen.exit ?_
   refine XBlock.hit ?_
   refine XThen.norm ?_
   refine W.joinZ [5, 6, 8] (fun vs S => ∃ (ws : List Int) (q3 tk : Nat), ws.length ≤ 400 ∧ q3 ≤ 6000 ∧ vs = [.ref 0 0 0, eStrs p2, eInts ws] ∧ S = ⟨[.arr 0 147 2 [eBy code2, .int .i64 (q3 : Int)]], tk⟩) ?_ ?_
   ·
    refine W.region_k fun K hK => ?_
    simp (disch := omega) only [↓RU, RV, RH, ↓reduceIte, reduceEqDiff, reduceCtorEq, if_pos, List.append_nil, ↓RS, RG, reduceAdd, reduceMul, reduceLeDiff]
    refine CallR.ev (l92Needs_ev (q := q2) hc2 (by omega) hs2) ?_
    rintro _ _ ⟨ws, qa, ta, v1, rfl, hwsl, hqa, rfl⟩
    simp (disch := omega) only [↓RU, RV, RH, ↓reduceIte, reduceEqDiff, reduceCtorEq, if_pos, List.append_nil, ↓RS, RG, reduceAdd, reduceMul, reduceLeDiff]
    refine hK _ _ ?_;clear hK K
    refine XThen.norm ?_
    refine ⟨1, [.ref 0 0 0, eStrs p2, eInts ws], ⟨[.arr 0 147 2 [eBy code2, .int .i64 (qa : Int)]], ta⟩, ?_, ?_, ws, qa, ta, hwsl, by omega, rfl, rfl⟩
    ·simp [-List.mapM_map, Store.frz, frzObs, frzOb, frz_eInts, frz_loc, rfz_loc, frz_int, frz_sl, frz_ints, rfz_ints, frz_strs, frz_bytes, rfz_bytes, rfz_str, rfz_bool, frz_str, frz_bool, Env.put, Env.of, argEnv, rfz_int, List.mapM_append, List.mapM_cons, frz_ref0, tk_strs, rfz_tstr, tk_ints, ← frz_eInts]
    ·simp [-List.mapM_map, Store.frz, frzObs, frzOb, frz_eInts, frz_loc, rfz_loc, frz_int, frz_sl, frz_ints, rfz_ints, frz_strs, frz_bytes, rfz_bytes, rfz_str, rfz_bool, frz_str, frz_bool, Env.put, Env.of, argEnv, rfz_int, List.mapM_append, List.mapM_cons, frz_ref0, tk_strs, rfz_tstr, tk_ints]
   rintro vs S - ⟨ws, qb, tk, hwsl, hqb, rfl, rfl⟩
   refine W.joinZ [2, 3, 4] (fun vs S => ∃ (ht : List Int) (tk : Nat), ht.length ≤ 400 ∧ vs = [eStrs p2, eInts ws, eInts ht] ∧ S = ⟨[], tk⟩) ?_ ?_
   ·
    refine W.region_k fun K hK => ?_
    simp (disch := omega) only [↓RU, RV, RH, ↓reduceIte, reduceEqDiff, reduceCtorEq, if_pos, List.append_nil, ↓RS, RG, reduceAdd, reduceMul, reduceLeDiff]
    refine CallR.ev (l92Needs_ev (q := qb) hc2 (by omega) hs2) ?_
    rintro _ _ ⟨ht, qc, tc, v2, rfl, hhtl, hqc, rfl⟩
    simp (disch := omega) only [↓RU, RV, RH, ↓reduceIte, reduceEqDiff, reduceCtorEq, if_pos, List.append_nil, ↓RS, RG, reduceAdd, reduceMul, reduceLeDiff]
    refine hK _ _ ?_;clear hK K
    refine XThen.norm ?_
    refine ⟨0, [eStrs p2, eInts ws, eInts ht], ⟨[], tc⟩, ?_, ?_, ht, tc, hhtl, rfl, rfl⟩
    ·simp [-List.mapM_map, Store.frz, frzObs, frzOb, frz_eInts, frz_loc, rfz_loc, frz_int, frz_sl, frz_ints, rfz_ints, frz_strs, frz_bytes, rfz_bytes, rfz_str, rfz_bool, frz_str, frz_bool, Env.put, Env.of, argEnv, rfz_int, List.mapM_append, List.mapM_cons, frz_ref0, tk_strs, rfz_tstr, tk_ints, ← frz_eInts]
    ·simp [-List.mapM_map, Store.frz, frzObs, frzOb, frz_eInts, frz_loc, rfz_loc, frz_int, frz_sl, frz_ints, rfz_ints, frz_strs, frz_bytes, rfz_bytes, rfz_str, rfz_bool, frz_str, frz_bool, Env.put, Env.of, argEnv, rfz_int, List.mapM_append, List.mapM_cons, frz_ref0, tk_strs, rfz_tstr, tk_ints]
   rintro vs S - ⟨ht, tk, hhtl, rfl, rfl⟩
   refine W.ret ?_
   refine BodyQ.ret rfl ?_
   exact ⟨0, p2, ws, ht, tk, hs2, hwsl, hhtl, rfl, rfl⟩
 ·skip
  have hd : decide ((i : Int) < 3) = false := decide_eq_false (by omega)
  simp (disch := omega) only [↓RU, RV, RH, ↓reduceIte, reduceEqDiff, reduceCtorEq, if_pos, w64, List.append_nil, ↓RS, RG, reduceAdd, reduceMul, reduceLeDiff, tyint, hd]
  refine hK _ _ ?_;clear hK K
  refine W.cond rfl (fun h => ?_) (fun h => ?_)
  ·try simp only [RL] at h
   exact absurd h (by simp)
  ·try simp only [RL] at h
   refine W.exit ?_
   refine XThen.exit ?_
   refine XThen.exit ?_
   refine XBlock.hit ?_
   refine XThen.norm ?_
   refine W.joinZ [5, 6, 8] (fun vs S => ∃ (ws : List Int) (q3 tk : Nat), ws.length ≤ 400 ∧ q3 ≤ 6000 ∧ vs = [.ref 0 0 0, eStrs p2, eInts ws] ∧ S = ⟨[.arr 0 147 2 [eBy code2, .int .i64 (q3 : Int)]], tk⟩) ?_ ?_
   ·
    refine W.region_k fun K hK => ?_
    simp (disch := omega) only [↓RU, RV, RH, ↓reduceIte, reduceEqDiff, reduceCtorEq, if_pos, List.append_nil, ↓RS, RG, reduceAdd, reduceMul, reduceLeDiff]
    refine CallR.ev (l92Needs_ev (q := q2) hc2 (by omega) hs2) ?_
    rintro _ _ ⟨ws, qa, ta, v1, rfl, hwsl, hqa, rfl⟩
    simp (disch := omega) only [↓RU, RV, RH, ↓reduceIte, reduceEqDiff, reduceCtorEq, if_pos, List.append_nil, ↓RS, RG, reduceAdd, reduceMul, reduceLeDiff]
    refine hK _ _ ?_;clear hK K
    refine XThen.norm ?_
    refine ⟨1, [.ref 0 0 0, eStrs p2, eInts ws], ⟨[.arr 0 147 2 [eBy code2, .int .i64 (qa : Int)]], ta⟩, ?_, ?_, ws, qa, ta, hwsl, by omega, rfl, rfl⟩
    ·simp [-List.mapM_map, Store.frz, frzObs, frzOb, frz_eInts, frz_loc, rfz_loc, frz_int, frz_sl, frz_ints, rfz_ints, frz_strs, frz_bytes, rfz_bytes, rfz_str, rfz_bool, frz_str, frz_bool, Env.put, Env.of, argEnv, rfz_int, List.mapM_append, List.mapM_cons, frz_ref0, tk_strs, rfz_tstr, tk_ints, ← frz_eInts]
    ·simp [-List.mapM_map, Store.frz, frzObs, frzOb, frz_eInts, frz_loc, rfz_loc, frz_int, frz_sl, frz_ints, rfz_ints, frz_strs, frz_bytes, rfz_bytes, rfz_str, rfz_bool, frz_str, frz_bool, Env.put, Env.of, argEnv, rfz_int, List.mapM_append, List.mapM_cons, frz_ref0, tk_strs, rfz_tstr, tk_ints]
   rintro vs S - ⟨ws, qb, tk, hwsl, hqb, rfl, rfl⟩
   refine W.joinZ [2, 3, 4] (fun vs S => ∃ (ht : List Int) (tk : Nat), ht.length ≤ 400 ∧ vs = [eStrs p2, eInts ws, eInts ht] ∧ S = ⟨[], tk⟩) ?_ ?_
   ·
    refine W.region_k fun K hK => ?_
    simp (disch := omega) only [↓RU, RV, RH, ↓reduceIte, reduceEqDiff, reduceCtorEq, if_pos, List.append_nil, ↓RS, RG, reduceAdd, reduceMul, reduceLeDiff]
    refine CallR.ev (l92Needs_ev (q := qb) hc2 (by omega) hs2) ?_
    rintro _ _ ⟨ht, qc, tc, v2, rfl, hhtl, hqc, rfl⟩
    simp (disch := omega) only [↓RU, RV, RH, ↓reduceIte, reduceEqDiff, reduceCtorEq, if_pos, List.append_nil, ↓RS, RG, reduceAdd, reduceMul, reduceLeDiff]
    refine hK _ _ ?_;clear hK K
    refine XThen.norm ?_
    refine ⟨0, [eStrs p2, eInts ws, eInts ht], ⟨[], tc⟩, ?_, ?_, ht, tc, hhtl, rfl, rfl⟩
    ·simp [-List.mapM_map, Store.frz, frzObs, frzOb, frz_eInts, frz_loc, rfz_loc, frz_int, frz_sl, frz_ints, rfz_ints, frz_strs, frz_bytes, rfz_bytes, rfz_str, rfz_bool, frz_str, frz_bool, Env.put, Env.of, argEnv, rfz_int, List.mapM_append, List.mapM_cons, frz_ref0, tk_strs, rfz_tstr, tk_ints, ← frz_eInts]
    ·simp [-List.mapM_map, Store.frz, frzObs, frzOb, frz_eInts, frz_loc, rfz_loc, frz_int, frz_sl, frz_ints, rfz_ints, frz_strs, frz_bytes, rfz_bytes, rfz_str, rfz_bool, frz_str, frz_bool, Env.put, Env.of, argEnv, rfz_int, List.mapM_append, List.mapM_cons, frz_ref0, tk_strs, rfz_tstr, tk_ints]
   rintro vs S - ⟨ht, tk, hhtl, rfl, rfl⟩
   refine W.ret ?_
   refine BodyQ.ret rfl ?_
   exact ⟨0, p2, ws, ht, tk, hs2, hwsl, hhtl, rfl, rfl⟩
theorem drawShapeTry_ev {code : Txt} (hc : code.length ≤ 1048576) : Ev Tryz.prog 47 [eBy code] ⟨[], 0⟩ fun v S => ∃ (p : List Txt) (ws ht : List Int) (t : Nat), Sm p ∧ ws.length ≤ 400 ∧ ht.length ≤ 400 ∧ v = .tup [eStrs p, eInts ws, eInts ht] ∧ S = ⟨[], t⟩ := by
 refine Ev.of ⟨Tryz.func47, by kernel_rfl, rfl, by kernel_rfl⟩ tabOk mixed (by show 1 ≤ Tryz.f47.ntmps; decide) ?_
 refine W.seq_region fun K hK => ?_
 simp (disch := omega) only [↓RU, RV, RH, ↓reduceIte, reduceEqDiff, reduceCtorEq, if_pos, ↓RS, RG, reduceAdd, reduceMul, reduceLeDiff]
 refine hK _ _ ?_;clear hK K
 refine W.seq_region fun K hK => ?_
 simp (disch := omega) only [↓RU, RV, RH, ↓reduceIte, reduceEqDiff, reduceCtorEq, if_pos, List.append_nil, ↓RS, RG, reduceAdd, reduceMul, reduceLeDiff]
 refine CallR.ev (l92Shaped_ev hc) ?_
 rintro _ _ ⟨p, ws, ht, t, hs, hwsl, hhtl, rfl, rfl⟩
 simp (disch := omega) only [↓RU, RV, RH, ↓reduceIte, reduceEqDiff, reduceCtorEq, if_pos, List.append_nil, ↓RS, RG, reduceAdd, reduceMul, reduceLeDiff]
 refine hK _ _ ?_;clear hK K
 refine W.ret ?_
 refine BodyQ.ret rfl ?_
 exact ⟨0, p, ws, ht, _, hs, hwsl, hhtl, rfl, rfl⟩
def areaOf (p : List Txt) (ws hs : List Int) : Int := if needsB p ws && needsB p hs then least (allS p 0) ws * least (allS p 1) hs else 0
theorem sizeWide_pc {p : List Txt} (hs : Sm p) {ws : List Int} (hw : ws.length ≤ 1048576) (hrm : plainI p = true → RmOk (gP p) p.length (w0 (readG p)) (rP p).length) (hup : plainI p = true → ∃ rk, Up (leftG (gP p) p.length (w0 (readG p)) (rP p).length) (rP p).length rk) : PC Tryz.prog 17 [eStrs p, eInts ws] (sizeV (needV p [ws]) (leftG (gP p) p.length (w0 (readG p)) (rP p).length) ws (rP p).length) true := by
 refine PC.of ⟨Tryz.func17, by kernel_rfl, rfl, by kernel_rfl⟩ tabOk mixed (by show 2 ≤ Tryz.f17.ntmps; decide) ?_
 refine W.seq_region fun K hK => ?_
 simp (disch := omega) only [↓RU, RV, RH, ↓reduceIte, reduceEqDiff, reduceCtorEq, if_pos, ↓RS, RG, reduceAdd, reduceMul, reduceLeDiff]
 refine hK _ _ ?_;clear hK K
 refine W.seq_region fun K hK => ?_
 simp (disch := omega) only [↓RU, RV, RH, ↓reduceIte, reduceEqDiff, reduceCtorEq, if_pos, List.append_nil, ↓RS, RG, reduceAdd, reduceMul, reduceLeDiff, ty1, tyLint, tyint]
 refine CallR.ev (needing_ev hs (wss := [ws]) (by simp) (by intro a ha; rw [List.mem_singleton] at ha; subst ha; exact hw)) ?_
 rintro _ _ ⟨x, rfl, hx, rfl⟩
 simp (disch := omega) only [↓RU, RV, RH, ↓reduceIte, reduceEqDiff, reduceCtorEq, if_pos, List.append_nil, ↓RS, RG, reduceAdd, reduceMul, reduceLeDiff, ty1, tyLint, tyint]
 refine hK _ _ ?_;clear hK K
 refine W.seq ?_
 refine W.seq_region fun K hK => ?_
 simp (disch := omega) only [↓RU, RV, RH, ↓reduceIte, reduceEqDiff, reduceCtorEq, if_pos, ↓RS, RG, reduceAdd, reduceMul, reduceLeDiff]
 refine hK _ _ ?_;clear hK K
 refine W.cond rfl (fun h => ?_) (fun h => ?_)
 ·try simp only [RL] at h
  refine W.seq_region fun K hK => ?_
  simp (disch := omega) only [↓RU, RV, RH, ↓reduceIte, reduceEqDiff, reduceCtorEq, if_pos, ↓RS, RG, reduceAdd, reduceMul, reduceLeDiff]
  refine hK _ _ ?_;clear hK K
  refine W.ret ?_
  refine XThen.ret ?_
  refine BodyQ.ret rfl ?_
  rw [h]
  rfl
 ·try simp only [RL] at h
  obtain rfl := hx h
  obtain ⟨hpl, hwl, hwok⟩ := needV_one h
  have hok := (plain_okB hpl).1
  have hg := okB_gw hok
  have hn9 := okB_rooms hok
  have hn1 := okB_rooms1 hok
  obtain ⟨rk, hu⟩ := hup hpl
  have hhl := heaviest_len (M := (leftG (gP p) p.length (w0 (readG p)) (rP p).length)) (ws := ws) (n := (rP p).length)
  obtain ⟨y0, hy0, -⟩ := get_of (show 0 < (heaviest (leftG (gP p) p.length (w0 (readG p)) (rP p).length) ws (rP p).length).length by omega)
  refine W.skip ?_
  refine XThen.norm ?_
  refine W.seq_region fun K hK => ?_
  simp (disch := omega) only [↓RU, RV, RH, ↓reduceIte, reduceEqDiff, reduceCtorEq, if_pos, List.append_nil, ↓RS, RG, reduceAdd, reduceMul, reduceLeDiff, ty0, ty2, tybool, ty13, ty15, ty24]
  refine CallR.pc (orders_pc hg rfl hn9 (hrm hpl)) rfl (.inl rfl) ?_
  simp (disch := omega) only [↓RU, RV, RH, ↓reduceIte, reduceEqDiff, reduceCtorEq, if_pos, List.append_nil, ↓RS, RG, reduceAdd, reduceMul, reduceLeDiff, ty0, ty2, tybool, ty13, ty15, ty24]
  refine CallR.pn (heaviest_pn hu hn9 hwl hwok) rfl (.inl rfl) ?_
  simp (disch := omega) only [↓RU, RV, RH, ↓reduceIte, reduceEqDiff, reduceCtorEq, if_pos, List.append_nil, ↓RS, RG, reduceAdd, reduceMul, reduceLeDiff, ty0, ty2, tybool, ty13, ty15, ty24, RN]
  refine CallR.pc (max_pc hy0 (by omega)) (mapM_one (reify_hv (k := 8) rfl) rfl) (.inl rfl) ?_
  simp (disch := omega) only [↓RU, RV, RH, ↓reduceIte, reduceEqDiff, reduceCtorEq, if_pos, List.append_nil, ↓RS, RG, reduceAdd, reduceMul, reduceLeDiff, ty0, ty2, tybool, ty13, ty15, ty24]
  refine hK _ _ ?_;clear hK K
  refine W.ret ?_
  refine BodyQ.ret rfl ?_
  rw [h]
  rfl
theorem sizeHigh_pc {p : List Txt} (hs : Sm p) {ws : List Int} (hw : ws.length ≤ 1048576) (hrm : plainI p = true → RmOk (gP p) p.length (w0 (readG p)) (rP p).length) (hup : plainI p = true → ∃ rk, Up (aboveG (gP p) p.length (w0 (readG p)) (rP p).length) (rP p).length rk) : PC Tryz.prog 14 [eStrs p, eInts ws] (sizeV (needV p [ws]) (aboveG (gP p) p.length (w0 (readG p)) (rP p).length) ws (rP p).length) true := by
 refine PC.of ⟨Tryz.func14, by kernel_rfl, rfl, by kernel_rfl⟩ tabOk mixed (by show 2 ≤ Tryz.f14.ntmps; decide) ?_
 refine W.seq_region fun K hK => ?_
 simp (disch := omega) only [↓RU, RV, RH, ↓reduceIte, reduceEqDiff, reduceCtorEq, if_pos, ↓RS, RG, reduceAdd, reduceMul, reduceLeDiff]
 refine hK _ _ ?_;clear hK K
 refine W.seq_region fun K hK => ?_
 simp (disch := omega) only [↓RU, RV, RH, ↓reduceIte, reduceEqDiff, reduceCtorEq, if_pos, List.append_nil, ↓RS, RG, reduceAdd, reduceMul, reduceLeDiff, ty1, tyLint, tyint]
 refine CallR.ev (needing_ev hs (wss := [ws]) (by simp) (by intro a ha; rw [List.mem_singleton] at ha; subst ha; exact hw)) ?_
 rintro _ _ ⟨x, rfl, hx, rfl⟩
 simp (disch := omega) only [↓RU, RV, RH, ↓reduceIte, reduceEqDiff, reduceCtorEq, if_pos, List.append_nil, ↓RS, RG, reduceAdd, reduceMul, reduceLeDiff, ty1, tyLint, tyint]
 refine hK _ _ ?_;clear hK K
 refine W.seq ?_
 refine W.seq_region fun K hK => ?_
 simp (disch := omega) only [↓RU, RV, RH, ↓reduceIte, reduceEqDiff, reduceCtorEq, if_pos, ↓RS, RG, reduceAdd, reduceMul, reduceLeDiff]
 refine hK _ _ ?_;clear hK K
 refine W.cond rfl (fun h => ?_) (fun h => ?_)
 ·try simp only [RL] at h
  refine W.seq_region fun K hK => ?_
  simp (disch := omega) only [↓RU, RV, RH, ↓reduceIte, reduceEqDiff, reduceCtorEq, if_pos, ↓RS, RG, reduceAdd, reduceMul, reduceLeDiff]
  refine hK _ _ ?_;clear hK K
  refine W.ret ?_
  refine XThen.ret ?_
  refine BodyQ.ret rfl ?_
  rw [h]
  rfl
 ·try simp only [RL] at h
  obtain rfl := hx h
  obtain ⟨hpl, hwl, hwok⟩ := needV_one h
  have hok := (plain_okB hpl).1
  have hg := okB_gw hok
  have hn9 := okB_rooms hok
  have hn1 := okB_rooms1 hok
  obtain ⟨rk, hu⟩ := hup hpl
  have hhl := heaviest_len (M := (aboveG (gP p) p.length (w0 (readG p)) (rP p).length)) (ws := ws) (n := (rP p).length)
  obtain ⟨y0, hy0, -⟩ := get_of (show 0 < (heaviest (aboveG (gP p) p.length (w0 (readG p)) (rP p).length) ws (rP p).length).length by omega)
  refine W.skip ?_
  refine XThen.norm ?_
  refine W.seq_region fun K hK => ?_
  simp (disch := omega) only [↓RU, RV, RH, ↓reduceIte, reduceEqDiff, reduceCtorEq, if_pos, List.append_nil, ↓RS, RG, reduceAdd, reduceMul, reduceLeDiff, ty0, ty2, tybool, ty13, ty15, ty24]
  refine CallR.pc (orders_pc hg rfl hn9 (hrm hpl)) rfl (.inl rfl) ?_
  simp (disch := omega) only [↓RU, RV, RH, ↓reduceIte, reduceEqDiff, reduceCtorEq, if_pos, List.append_nil, ↓RS, RG, reduceAdd, reduceMul, reduceLeDiff, ty0, ty2, tybool, ty13, ty15, ty24]
  refine CallR.pn (heaviest_pn hu hn9 hwl hwok) rfl (.inl rfl) ?_
  simp (disch := omega) only [↓RU, RV, RH, ↓reduceIte, reduceEqDiff, reduceCtorEq, if_pos, List.append_nil, ↓RS, RG, reduceAdd, reduceMul, reduceLeDiff, ty0, ty2, tybool, ty13, ty15, ty24, RN]
  refine CallR.pc (max_pc hy0 (by omega)) (mapM_one (reify_hv (k := 8) rfl) rfl) (.inl rfl) ?_
  simp (disch := omega) only [↓RU, RV, RH, ↓reduceIte, reduceEqDiff, reduceCtorEq, if_pos, List.append_nil, ↓RS, RG, reduceAdd, reduceMul, reduceLeDiff, ty0, ty2, tybool, ty13, ty15, ty24]
  refine hK _ _ ?_;clear hK K
  refine W.ret ?_
  refine BodyQ.ret rfl ?_
  rw [h]
  rfl
theorem sizeArea_pc {p : List Txt} (hs : Sm p) {ws ht : List Int} (hw : ws.length ≤ 1048576) (hh : ht.length ≤ 1048576) (hrm : plainI p = true → RmOk (gP p) p.length (w0 (readG p)) (rP p).length) (hl : plainI p = true → ∃ rk, Up (leftG (gP p) p.length (w0 (readG p)) (rP p).length) (rP p).length rk) (ha : plainI p = true → ∃ rk, Up (aboveG (gP p) p.length (w0 (readG p)) (rP p).length) (rP p).length rk) : PC Tryz.prog 50 [eStrs p, eInts ws, eInts ht] (.tup [.int .i64 (areaI p ws ht), .bool (needV p [ws] && needV p [ht])]) true := by
 have hpw := sizeWide_pc hs hw hrm hl
 have hph := sizeHigh_pc hs hh hrm ha
 refine PC.of ⟨Tryz.func50, by kernel_rfl, rfl, by kernel_rfl⟩ tabOk mixed (by show 3 ≤ Tryz.f50.ntmps; decide) ?_
 refine W.seq_region fun K hK => ?_
 simp (disch := omega) only [↓RU, RV, RH, ↓reduceIte, reduceEqDiff, reduceCtorEq, if_pos]
 refine hK _ _ ?_;clear hK K
 refine W.seq_region fun K hK => ?_
 rcases hx : (needV p [ws], needV p [ht]) with ⟨_ | _, _ | _⟩
 ·skip
  simp only [Prod.mk.injEq] at hx
  obtain ⟨hx1, hx2⟩ := hx
  rw [hx1] at hpw
  rw [hx2] at hph
  simp (disch := omega) only [↓RU, RV, RH, ↓reduceIte, reduceEqDiff, reduceCtorEq, if_pos, List.append_nil, sizeV_f]
  refine CallR.pc (hpw) rfl (.inl rfl) ?_
  simp (disch := omega) only [↓RU, RV, RH, ↓reduceIte, reduceEqDiff, reduceCtorEq, if_pos, List.append_nil, sizeV_f]
  refine hK _ _ ?_;clear hK K
  refine W.seq_region fun K hK => ?_
  simp (disch := omega) only [↓RU, RV, RH, ↓reduceIte, reduceEqDiff, reduceCtorEq, if_pos, List.append_nil, sizeV_t, sizeV_f]
  refine CallR.pc (hph) rfl (.inl rfl) ?_
  simp (disch := omega) only [↓RU, RV, RH, ↓reduceIte, reduceEqDiff, reduceCtorEq, if_pos, List.append_nil, sizeV_t, sizeV_f]
  refine hK _ _ ?_;clear hK K
  refine W.seq ?_
  refine W.seq_region fun K hK => ?_
  simp (disch := omega) only [↓RU, RV, RH, ↓reduceIte, reduceEqDiff, reduceCtorEq, if_pos]
  refine hK _ _ ?_;clear hK K
  refine W.cond rfl (fun h0 => ?_) (fun h0 => ?_)
  ·try simp only [RL] at h0
   refine W.seq_region fun K hK => ?_
   simp (disch := omega) only [↓RU, RV, RH, ↓reduceIte, reduceEqDiff, reduceCtorEq, if_pos]
   refine hK _ _ ?_;clear hK K
   refine W.ret ?_
   refine XThen.ret ?_
   refine BodyQ.ret rfl ?_
   rw [areaI, hx1, hx2]
   rfl
  ·try simp only [RL] at h0
   exact absurd h0 (by simp)
 ·skip
  simp only [Prod.mk.injEq] at hx
  obtain ⟨hx1, hx2⟩ := hx
  rw [hx1] at hpw
  rw [hx2] at hph
  simp (disch := omega) only [↓RU, RV, RH, ↓reduceIte, reduceEqDiff, reduceCtorEq, if_pos, List.append_nil, sizeV_f]
  refine CallR.pc (hpw) rfl (.inl rfl) ?_
  simp (disch := omega) only [↓RU, RV, RH, ↓reduceIte, reduceEqDiff, reduceCtorEq, if_pos, List.append_nil, sizeV_f]
  refine hK _ _ ?_;clear hK K
  refine W.seq_region fun K hK => ?_
  simp (disch := omega) only [↓RU, RV, RH, ↓reduceIte, reduceEqDiff, reduceCtorEq, if_pos, List.append_nil, sizeV_t, sizeV_f]
  refine CallR.pc (hph) rfl (.inl rfl) ?_
  simp (disch := omega) only [↓RU, RV, RH, ↓reduceIte, reduceEqDiff, reduceCtorEq, if_pos, List.append_nil, sizeV_t, sizeV_f]
  refine hK _ _ ?_;clear hK K
  refine W.seq ?_
  refine W.seq_region fun K hK => ?_
  simp (disch := omega) only [↓RU, RV, RH, ↓reduceIte, reduceEqDiff, reduceCtorEq, if_pos]
  refine hK _ _ ?_;clear hK K
  refine W.cond rfl (fun h0 => ?_) (fun h0 => ?_)
  ·try simp only [RL] at h0
   refine W.seq_region fun K hK => ?_
   simp (disch := omega) only [↓RU, RV, RH, ↓reduceIte, reduceEqDiff, reduceCtorEq, if_pos]
   refine hK _ _ ?_;clear hK K
   refine W.ret ?_
   refine XThen.ret ?_
   refine BodyQ.ret rfl ?_
   rw [areaI, hx1, hx2]
   rfl
  ·try simp only [RL] at h0
   exact absurd h0 (by simp)
 ·skip
  simp only [Prod.mk.injEq] at hx
  obtain ⟨hx1, hx2⟩ := hx
  rw [hx1] at hpw
  rw [hx2] at hph
  simp (disch := omega) only [↓RU, RV, RH, ↓reduceIte, reduceEqDiff, reduceCtorEq, if_pos, List.append_nil, sizeV_t]
  refine CallR.pc (hpw) rfl (.inl rfl) ?_
  simp (disch := omega) only [↓RU, RV, RH, ↓reduceIte, reduceEqDiff, reduceCtorEq, if_pos, List.append_nil, sizeV_t]
  refine hK _ _ ?_;clear hK K
  refine W.seq_region fun K hK => ?_
  simp (disch := omega) only [↓RU, RV, RH, ↓reduceIte, reduceEqDiff, reduceCtorEq, if_pos, List.append_nil, sizeV_t, sizeV_f]
  refine CallR.pc (hph) rfl (.inl rfl) ?_
  simp (disch := omega) only [↓RU, RV, RH, ↓reduceIte, reduceEqDiff, reduceCtorEq, if_pos, List.append_nil, sizeV_t, sizeV_f]
  refine hK _ _ ?_;clear hK K
  refine W.seq ?_
  refine W.seq_region fun K hK => ?_
  simp (disch := omega) only [↓RU, RV, RH, ↓reduceIte, reduceEqDiff, reduceCtorEq, if_pos]
  refine hK _ _ ?_;clear hK K
  refine W.cond rfl (fun h0 => ?_) (fun h0 => ?_)
  ·try simp only [RL] at h0
   refine W.seq_region fun K hK => ?_
   simp (disch := omega) only [↓RU, RV, RH, ↓reduceIte, reduceEqDiff, reduceCtorEq, if_pos]
   refine hK _ _ ?_;clear hK K
   refine W.ret ?_
   refine XThen.ret ?_
   refine BodyQ.ret rfl ?_
   rw [areaI, hx1, hx2]
   rfl
  ·try simp only [RL] at h0
   exact absurd h0 (by simp)
 ·skip
  simp only [Prod.mk.injEq] at hx
  obtain ⟨hx1, hx2⟩ := hx
  rw [hx1] at hpw
  rw [hx2] at hph
  simp (disch := omega) only [↓RU, RV, RH, ↓reduceIte, reduceEqDiff, reduceCtorEq, if_pos, List.append_nil, sizeV_t]
  refine CallR.pc (hpw) rfl (.inl rfl) ?_
  simp (disch := omega) only [↓RU, RV, RH, ↓reduceIte, reduceEqDiff, reduceCtorEq, if_pos, List.append_nil, sizeV_t]
  refine hK _ _ ?_;clear hK K
  refine W.seq_region fun K hK => ?_
  simp (disch := omega) only [↓RU, RV, RH, ↓reduceIte, reduceEqDiff, reduceCtorEq, if_pos, List.append_nil, sizeV_t, sizeV_f]
  refine CallR.pc (hph) rfl (.inl rfl) ?_
  simp (disch := omega) only [↓RU, RV, RH, ↓reduceIte, reduceEqDiff, reduceCtorEq, if_pos, List.append_nil, sizeV_t, sizeV_f]
  refine hK _ _ ?_;clear hK K
  refine W.seq ?_
  refine W.seq_region fun K hK => ?_
  simp (disch := omega) only [↓RU, RV, RH, ↓reduceIte, reduceEqDiff, reduceCtorEq, if_pos]
  refine hK _ _ ?_;clear hK K
  refine W.cond rfl (fun h0 => ?_) (fun h0 => ?_)
  ·try simp only [RL] at h0
   exact absurd h0 (by simp)
  ·try simp only [RL] at h0
   have b2 := maxH_bound (M := (leftG (gP p) p.length (w0 (readG p)) (rP p).length)) (ws := ws) (n := (rP p).length) (needV_one hx1).2.2
   have b3 := maxH_bound (M := (aboveG (gP p) p.length (w0 (readG p)) (rP p).length)) (ws := ht) (n := (rP p).length) (needV_one hx2).2.2
   have b4 := Int.mul_nonneg b2.1 b3.1
   have b5 := Int.mul_le_mul b2.2 b3.2 b3.1 (by omega)
   refine W.skip ?_
   refine XThen.norm ?_
   refine W.seq_region fun K hK => ?_
   simp (disch := omega) only [↓RU, RV, RH, ↓reduceIte, reduceEqDiff, reduceCtorEq, if_pos, w64, tyint]
   refine hK _ _ ?_;clear hK K
   refine W.ret ?_
   refine BodyQ.ret rfl ?_
   rw [areaI, hx1, hx2]
   rfl
theorem pEq_bb {S : Store} {a b : Bool} : pEq tab S 4 (.bool a) (.bool b) = some (a == b) := rfl
theorem area_same {p : List Txt} {ws ht : List Int} : areaI p ws ht = areaOf p ws ht ∧ (needV p [ws] && needV p [ht]) = (needsB p ws && needsB p ht) := by
 have e : ∀ {ws : List Int}, needsB p ws = needV p [ws] := fun {ws} => (needV_needs).symm
 refine ⟨?_, by rw [e, e]⟩
 unfold areaI areaOf
 rw [e, e]
 by_cases h : (needV p [ws] && needV p [ht]) = true
 ·rw [if_pos h, if_pos h]
  simp only [Bool.and_eq_true] at h
  rw [(plan_least h.1).1, (plan_least h.2).2]
 ·rw [if_neg h, if_neg h]
theorem all_rm {p : List Txt} (h : plainI p = true) : RmOk (gP p) p.length (w0 (readG p)) (rP p).length := (plan_all h).1
theorem all_up0 {p : List Txt} (h : plainI p = true) : ∃ rk, Up (leftG (gP p) p.length (w0 (readG p)) (rP p).length) (rP p).length rk := (plan_all h).2.1
theorem all_up1 {p : List Txt} (h : plainI p = true) : ∃ rk, Up (aboveG (gP p) p.length (w0 (readG p)) (rP p).length) (rP p).length rk := (plan_all h).2.2




section
section
variable {S : Store} {fr : Nat → Bool} {f : Nat}
end
end





def slR (rows : List (List Int)) (v : Nat) : PV := match rows with | [] => .nils | _ => .loc 0 v 0 rows.length
def stR (rows : List (List Int)) (v t : Nat) : Store := match rows with | [] => ⟨[], t⟩ | _ => ⟨[.arr v 24 1 (rows.map eInts)], t⟩
theorem slR_nil {v : Nat} : slR [] v = .nils := rfl
theorem stR_nil {v t : Nat} : stR [] v t = ⟨[], t⟩ := rfl
theorem slR_ne {rows : List (List Int)} {v : Nat} (h : rows ≠ []) : slR rows v = .loc 0 v 0 rows.length := by cases rows with | nil => exact absurd rfl h | cons a l => rfl
theorem stR_ne {rows : List (List Int)} {v t : Nat} (h : rows ≠ []) : stR rows v t = ⟨[.arr v 24 1 (rows.map eInts)], t⟩ := by cases rows with | nil => exact absurd rfl h | cons a l => rfl
theorem rn_eIntss {S : Store} {k f : Nat} {sel : List Nat} (l : List (List Int)) : (l.map eInts).mapM (rn S k sel (f + 1)) = some (l.map eInts) :=
 mapM_same fun x hx => by obtain ⟨a, _, rfl⟩ := List.mem_map.1 hx; rfl
theorem reify_slR {rows : List (List Int)} {v t : Nat} : reify (stR rows v t) true 9 (slR rows v) = some (eGrid rows) := by
 by_cases h : rows = []
 ·subst h; rfl
 ·rw [slR_ne h, stR_ne h]
  exact reify_loc rfl (by simp) (mapM_ints2 _)
theorem scs_at1 {l : List (Int × Int)} {n : Nat} {x : Int × Int} (h : l[n]? = some x) : (scs l)[n * 2 + 1]? = some (.int .i64 x.2) := by
 induction l generalizing n with
 | nil => simp at h
 | cons a l ih =>
  cases n with
  | zero => simp at h; subst h; rw [scs_cons]; simp [eShp]
  | succ n =>
   simp at h
   rw [scs_cons, show (n + 1) * 2 + 1 = (eShp a).length + (n * 2 + 1) by simp [eShp]; omega, List.getElem?_append_right (by omega), Nat.add_sub_cancel_left]
   exact ih h
theorem last_at {l : List Shp} (h : l ≠ []) : ∃ q, l[l.length - 1]? = some q ∧ l.getLast? = some q := by
 refine ⟨l.getLast h, ?_, List.getLast?_eq_some_getLast h⟩
 rw [← List.getLast?_eq_getElem?]; exact List.getLast?_eq_some_getLast h
theorem bsS_some {o : List Shp} {x q : Shp} (h : o.getLast? = some q) : bsS o x = if x.2 < q.2 then o ++ [x] else o := by unfold bsS; rw [h]
theorem bsF_ne {z : List Shp} {i : Nat} (h : i ≠ 0) (hz : i ≤ z.length) : bsF (z.take i) ≠ [] := by
 have key : ∀ (z : List Shp) (o : List Shp), o ≠ [] → z.foldl bsS o ≠ [] := by
  intro z
  induction z with
  | nil => intro o ho; exact ho
  | cons a z ih =>
   intro o ho
   refine ih _ ?_
   obtain ⟨q, -, hq⟩ := last_at ho
   rw [bsS_some hq]; split
   ·simp
   ·exact ho
 match z, i, h, hz with
 | a :: z, i + 1, _, _ => exact key (z.take i) [a] (by simp)
 | [], i + 1, _, h => simp at h
theorem insSh0_pc  : PC Tryz.prog 190 [.sl [] 0, .int .i64 0, .int .i64 0, .fn 143 []] (.tup []) true := by
 refine PC.of ⟨Tryz.func190, by kernel_rfl, rfl, by kernel_rfl⟩ tabOk mixed (by show 4 ≤ Tryz.f190.ntmps; decide) ?_
 refine W.seq_region fun K hK => ?_
 simp (disch := omega) only [↓RU, RV, RH, ↓reduceIte, reduceEqDiff, reduceCtorEq, if_pos, w64, tyint]
 refine hK _ _ ?_;clear hK K
 refine W.block ?_
 refine W.loop [2, 8] (fun n vs S => n = 0 ∧ vs = [.int .i64 0, .int .i64 1] ∧ S = ⟨[], 0⟩) 0 ?_ ?_
 ·refine ⟨0, rfl, ?_, rfl⟩
  simp [Env.put, Env.of, argEnv]
 rintro n vs S - ⟨rfl, rfl, rfl⟩
 refine W.seq ?_
 refine W.seq_region fun K hK => ?_
 simp (disch := omega) only [↓RU, RV, RH, ↓reduceIte, reduceEqDiff, reduceCtorEq, if_pos, w64, tyint]
 refine hK _ _ ?_;clear hK K
 refine W.cond rfl (fun h => ?_) (fun h => ?_)
 ·try simp only [RL] at h
  exact absurd h (by decide)
 ·try simp only [RL] at h
  refine W.exit ?_
  refine XThen.exit ?_
  refine XThen.exit ?_
  refine XBlock.hit ?_
  refine BodyQ.norm rfl ?_
  rfl
theorem len640_pc  : PC Tryz.prog 199 [.int .u64 0] (.int .i64 0) true := by
 refine PC.of ⟨Tryz.func199, by kernel_rfl, rfl, by kernel_rfl⟩ tabOk mixed (by show 1 ≤ Tryz.f199.ntmps; decide) ?_
 refine W.seq_region fun K hK => ?_
 simp (disch := omega) only [↓RU, RV, RH, ↓reduceIte, reduceEqDiff, reduceCtorEq, if_pos]
 refine hK _ _ ?_;clear hK K
 refine W.seq ?_
 refine W.seq_region fun K hK => ?_
 simp (disch := omega) only [↓RU, RV, RH, ↓reduceIte, reduceEqDiff, reduceCtorEq, if_pos, w64, ty28]
 refine hK _ _ ?_;clear hK K
 refine W.cond rfl (fun h => ?_) (fun h => ?_)
 ·try simp only [RL] at h
  exact absurd h (by decide)
 ·try simp only [RL] at h
  refine W.skip ?_
  refine XThen.norm ?_
  refine W.seq ?_
  refine W.seq_region fun K hK => ?_
  simp (disch := omega) only [↓RU, RV, RH, ↓reduceIte, reduceEqDiff, reduceCtorEq, if_pos, w64, ty28]
  refine hK _ _ ?_;clear hK K
  refine W.cond rfl (fun h1 => ?_) (fun h1 => ?_)
  ·try simp only [RL] at h1
   exact absurd h1 (by decide)
  ·try simp only [RL] at h1
   refine W.skip ?_
   refine XThen.norm ?_
   refine W.seq ?_
   refine W.seq_region fun K hK => ?_
   simp (disch := omega) only [↓RU, RV, RH, ↓reduceIte, reduceEqDiff, reduceCtorEq, if_pos, w64, ty28]
   refine hK _ _ ?_;clear hK K
   refine W.cond rfl (fun h2 => ?_) (fun h2 => ?_)
   ·try simp only [RL] at h2
    exact absurd h2 (by decide)
   ·try simp only [RL] at h2
    refine W.skip ?_
    refine XThen.norm ?_
    refine W.seq_region fun K hK => ?_
    simp (disch := omega) only [↓RU, RV, RH, ↓reduceIte, reduceEqDiff, reduceCtorEq, if_pos, w64, w64, tyint, tystring, ty28, ty29]
    refine hK _ _ ?_;clear hK K
    refine W.ret ?_
    refine BodyQ.ret rfl ?_
    rfl
theorem len0_pc  : PC Tryz.prog 173 [.int .u64 0] (.int .i64 0) true := by
 refine PC.of ⟨Tryz.func173, by kernel_rfl, rfl, by kernel_rfl⟩ tabOk mixed (by show 1 ≤ Tryz.f173.ntmps; decide) ?_
 refine W.seq_region fun K hK => ?_
 simp (disch := omega) only [↓RU, RV, RH, ↓reduceIte, reduceEqDiff, reduceCtorEq, if_pos]
 refine hK _ _ ?_;clear hK K
 refine W.seq ?_
 refine W.cond rfl (fun h => ?_) (fun h => ?_)
 ·try simp only [RL] at h
  exact absurd h (by decide)
 ·try simp only [RL] at h
  refine W.skip ?_
  refine XThen.norm ?_
  refine W.seq_region fun K hK => ?_
  simp (disch := omega) only [↓RU, RV, RH, ↓reduceIte, reduceEqDiff, reduceCtorEq, if_pos, List.append_nil]
  refine CallR.pc (len640_pc) rfl (.inl rfl) ?_
  simp (disch := omega) only [↓RU, RV, RH, ↓reduceIte, reduceEqDiff, reduceCtorEq, if_pos, List.append_nil]
  refine hK _ _ ?_;clear hK K
  refine W.ret ?_
  refine BodyQ.ret rfl ?_
  rfl
theorem pdqSh0_pc  : PC Tryz.prog 172 [.sl [] 0, .int .i64 0, .int .i64 0, .int .i64 0, .fn 143 []] (.tup []) true := by
 refine PC.of ⟨Tryz.func172, by kernel_rfl, rfl, by kernel_rfl⟩ tabOk mixed (by show 5 ≤ Tryz.f172.ntmps; decide) ?_
 refine W.seq_region fun K hK => ?_
 simp (disch := omega) only [↓RU, RV, RH, ↓reduceIte, reduceEqDiff, reduceCtorEq, if_pos]
 refine hK _ _ ?_;clear hK K
 refine W.seq_region fun K hK => ?_
 simp (disch := omega) only [↓RU, RV, RH, ↓reduceIte, reduceEqDiff, reduceCtorEq, if_pos]
 refine hK _ _ ?_;clear hK K
 refine W.block ?_
 refine W.loop [0, 1, 2, 4] (fun n vs S => n = 1 ∧ vs = [.sl [] 0, .int .i64 0, .int .i64 0, .fn 143 []] ∧ S = ⟨[], 0⟩) 1 ?_ ?_
 ·refine ⟨0, rfl, ?_, rfl⟩
  simp [Env.put, Env.of, argEnv]
 rintro n vs S - ⟨rfl, rfl, rfl⟩
 refine W.block ?_
 refine W.seq_region fun K hK => ?_
 simp (disch := omega) only [↓RU, RV, RH, ↓reduceIte, reduceEqDiff, reduceCtorEq, if_pos, w64, tyint]
 refine hK _ _ ?_;clear hK K
 refine W.seq ?_
 refine W.seq_region fun K hK => ?_
 simp (disch := omega) only [↓RU, RV, RH, ↓reduceIte, reduceEqDiff, reduceCtorEq, if_pos, w64, tyint]
 refine hK _ _ ?_;clear hK K
 refine W.cond rfl (fun h => ?_) (fun h => ?_)
 ·try simp only [RL] at h
  refine W.seq_region fun K hK => ?_
  simp (disch := omega) only [↓RU, RV, RH, ↓reduceIte, reduceEqDiff, reduceCtorEq, if_pos, List.append_nil]
  refine CallR.pc (insSh0_pc) rfl (.inl rfl) ?_
  simp (disch := omega) only [↓RU, RV, RH, ↓reduceIte, reduceEqDiff, reduceCtorEq, if_pos, List.append_nil]
  refine hK _ _ ?_;clear hK K
  refine W.ret ?_
  refine XThen.ret ?_
  refine XBlock.ret ?_
  refine XThen.ret ?_
  refine XBlock.ret ?_
  refine BodyQ.ret rfl ?_
  rfl
 ·try simp only [RL] at h
  exact absurd h (by decide)
theorem sortSh0_pc  : PC Tryz.prog 142 [.sl [] 0, .fn 143 []] (.tup []) true := by
 refine PC.of ⟨Tryz.func142, by kernel_rfl, rfl, by kernel_rfl⟩ tabOk mixed (by show 2 ≤ Tryz.f142.ntmps; decide) ?_
 refine W.seq_region fun K hK => ?_
 simp (disch := omega) only [↓RU, RV, RH, ↓reduceIte, reduceEqDiff, reduceCtorEq, if_pos, ty4, ty16, tyint, ty27]
 refine hK _ _ ?_;clear hK K
 refine W.region_k fun K hK => ?_
 simp (disch := omega) only [↓RU, RV, RH, ↓reduceIte, reduceEqDiff, reduceCtorEq, if_pos, w64, List.append_nil, tyint, tyuint]
 refine CallR.pc (len0_pc) rfl (.inl rfl) ?_
 simp (disch := omega) only [↓RU, RV, RH, ↓reduceIte, reduceEqDiff, reduceCtorEq, if_pos, w64, List.append_nil, tyint, tyuint]
 refine CallR.pc (pdqSh0_pc) rfl (.inl rfl) ?_
 simp (disch := omega) only [↓RU, RV, RH, ↓reduceIte, reduceEqDiff, reduceCtorEq, if_pos, w64, List.append_nil, tyint, tyuint]
 refine hK _ _ ?_;clear hK K
 refine BodyQ.norm rfl ?_
 rfl
theorem best0_pc  : PC Tryz.prog 92 [.sl [] 0] (.sl [] 0) true := by
 refine PC.of ⟨Tryz.func92, by kernel_rfl, rfl, by kernel_rfl⟩ tabOk mixed (by show 1 ≤ Tryz.f92.ntmps; decide) ?_
 refine W.seq_region fun K hK => ?_
 simp (disch := omega) only [↓RU, RV, RH, ↓reduceIte, reduceEqDiff, reduceCtorEq, if_pos, ↓RS, RG, reduceAdd, reduceMul, reduceLeDiff]
 refine hK _ _ ?_;clear hK K
 refine W.seq_region fun K hK => ?_
 simp (disch := omega) only [↓RU, RV, RH, ↓reduceIte, reduceEqDiff, reduceCtorEq, if_pos, List.append_nil, ↓RS, RG, reduceAdd, reduceMul, reduceLeDiff]
 refine CallR.pc (sortSh0_pc) rfl (.inl rfl) ?_
 simp (disch := omega) only [↓RU, RV, RH, ↓reduceIte, reduceEqDiff, reduceCtorEq, if_pos, List.append_nil, ↓RS, RG, reduceAdd, reduceMul, reduceLeDiff]
 refine hK _ _ ?_;clear hK K
 refine W.seq_region fun K hK => ?_
 simp (disch := omega) only [↓RU, RV, RH, ↓reduceIte, reduceEqDiff, reduceCtorEq, if_pos, ↓RS, RG, reduceAdd, reduceMul, reduceLeDiff]
 refine hK _ _ ?_;clear hK K
 refine W.seq ?_
 refine W.seq_region fun K hK => ?_
 simp (disch := omega) only [↓RU, RV, RH, ↓reduceIte, reduceEqDiff, reduceCtorEq, if_pos, ↓RS, RG, reduceAdd, reduceMul, reduceLeDiff, ty4, ty16, tyint, ty27]
 refine hK _ _ ?_;clear hK K
 refine W.block ?_
 refine W.loop [3, 8, 9, 10] (fun n vs S => n = 0 ∧ vs = [.nils, .sl [] 0, .int .i64 0, .int .i64 0] ∧ S = ⟨[], 0⟩) 0 ?_ ?_
 ·refine ⟨_, rfl, ?_, take_all⟩
  simp [Env.put, Env.of, argEnv]
 rintro n vs S - ⟨rfl, rfl, rfl⟩
 refine W.seq_region fun K hK => ?_
 simp (disch := omega) only [↓RU, RV, RH, ↓reduceIte, reduceEqDiff, reduceCtorEq, if_pos, w64, ↓RS, RG, reduceAdd, reduceMul, reduceLeDiff, tyint]
 refine hK _ _ ?_;clear hK K
 refine W.seq ?_
 refine W.cond rfl (fun h => ?_) (fun h => ?_)
 ·try simp only [RL] at h
  exact absurd h (by decide)
 ·try simp only [RL] at h
  refine W.exit ?_
  refine XThen.exit ?_
  refine XThen.exit ?_
  refine XBlock.hit ?_
  refine XThen.norm ?_
  refine W.seq_region fun K hK => ?_
  simp (disch := omega) only [↓RU, RV, RH, ↓reduceIte, reduceEqDiff, reduceCtorEq, if_pos, ↓RS, RG, reduceAdd, reduceMul, reduceLeDiff]
  refine hK _ _ ?_;clear hK K
  refine W.ret ?_
  refine BodyQ.ret rfl ?_
  rfl
theorem best_ev {l : List Shp} (hl : l.length ≤ 1048576) (h1 : 1 ≤ l.length) {o0 : Ob} {ver t : Nat} : Ev Tryz.prog 92 [.loc 1 ver 0 l.length] ⟨[o0, .arr ver 142 2 (scs l)], t⟩ fun v S => ∃ (z : List Shp) (ver2 v2 t2 : Nat), z.Perm l ∧ z.Pairwise LexLe ∧ v = .loc 1 v2 0 (bsF z).length ∧ S = ⟨[.arr ver2 142 2 (scs z), .arr v2 142 2 (scs (bsF z))], t2⟩ := by
 refine Ev.of ⟨Tryz.func92, by kernel_rfl, rfl, by kernel_rfl⟩ tabOk mixed (by show 1 ≤ Tryz.f92.ntmps; decide) ?_
 refine W.seq_region fun K hK => ?_
 simp (disch := omega) only [↓RU, RV, RH, ↓reduceIte, reduceEqDiff, reduceCtorEq, if_pos, ↓RS, RG, reduceAdd, reduceMul, reduceLeDiff]
 refine hK _ _ ?_;clear hK K
 refine W.seq_region fun K hK => ?_
 simp (disch := omega) only [↓RU, RV, RH, ↓reduceIte, reduceEqDiff, reduceCtorEq, if_pos, List.append_nil, ↓RS, RG, reduceAdd, reduceMul, reduceLeDiff]
 refine CallR.ev (sortSh_ev (F := [o0]) (R := []) (by omega)) ?_
 rintro _ _ ⟨rfl, z, hzp, hzs, rfl⟩
 have hzl : z.length = l.length := hzp.length_eq
 simp (disch := omega) only [↓RU, RV, RH, ↓reduceIte, reduceEqDiff, reduceCtorEq, if_pos, List.append_nil, ↓RS, RG, reduceAdd, reduceMul, reduceLeDiff]
 refine hK _ _ ?_;clear hK K
 refine W.seq_region fun K hK => ?_
 simp (disch := omega) only [↓RU, RV, RH, ↓reduceIte, reduceEqDiff, reduceCtorEq, if_pos, ↓RS, RG, reduceAdd, reduceMul, reduceLeDiff]
 refine hK _ _ ?_;clear hK K
 refine W.seq ?_
 refine W.seq_region fun K hK => ?_
 simp (disch := omega) only [↓RU, RV, RH, ↓reduceIte, reduceEqDiff, reduceCtorEq, if_pos, ↓RS, RG, reduceAdd, reduceMul, reduceLeDiff, ty4, ty16, tyint, ty27]
 refine hK _ _ ?_;clear hK K
 refine W.block ?_
 refine W.loopS [3, 8, 9, 10] (fun n vs S => ∃ i ver v t : Nat, n = l.length - i ∧ i ≤ l.length ∧ vs = [slC 1 (bsF (z.take i)) v, .loc 0 ver 0 l.length, .int .i64 l.length, .int .i64 i] ∧ S = ⟨.arr ver 142 2 (scs z) :: tlC (bsF (z.take i)) v, t⟩) l.length ?_ ?_
 ·refine ⟨0, [1], [.nils, .loc 0 t 0 l.length, .int .i64 l.length, .int .i64 (0 : Nat)], ⟨[.arr t 142 2 (scs z)], t + 1⟩, ?_, ?_, 0, t, 0, t + 1, rfl, Nat.zero_le _, rfl, rfl⟩
  ·simp [-List.mapM_map, Env.put, Env.of, argEnv, Srn_eq, rnObs_cons, rnObs_nil, rnOb_arr, rnOb_map, rn_loc, rn_ref, rn_mp, rn_int, rn_bool, rn_str, rn_ip, rn_sl, rn_nils, rn_nilp, rn_undef, rn_agg, rn_tup, rn_fn, rfq_loc, rfq_int, rfq_bool, rfq_str, rfq_sl, frOf, List.range_succ, List.mapM_append, List.mapM_cons]
  ·simp [-List.mapM_map, Env.put, Env.of, argEnv, Srn_eq, rnObs_cons, rnObs_nil, rnOb_arr, rnOb_map, rn_loc, rn_ref, rn_mp, rn_int, rn_bool, rn_str, rn_ip, rn_sl, rn_nils, rn_nilp, rn_undef, rn_agg, rn_tup, rn_fn, rfq_loc, rfq_int, rfq_bool, rfq_str, rfq_sl, frOf, List.range_succ, List.mapM_append, List.mapM_cons, rn_scs]
 rintro n vs S - ⟨i, ver2, v, t2, rfl, h_i, rfl, rfl⟩
 refine W.seq_region fun K hK => ?_
 simp (disch := omega) only [↓RU, RV, RH, ↓reduceIte, reduceEqDiff, reduceCtorEq, if_pos, w64, ↓RS, RG, reduceAdd, reduceMul, reduceLeDiff, tyint]
 refine hK _ _ ?_;clear hK K
 refine W.seq ?_
 refine W.cond rfl (fun h => ?_) (fun h => ?_)
 ·try simp only [RL] at h
  obtain ⟨x, hx, -⟩ := get_of (show i < z.length by omega)
  have hsu := bsF_succ hx
  have hol := bsF_len (z := z) (i := i) (by omega)
  have hpx : ((scs z).drop (i * 2)).take 2 = [.int .i64 x.1, .int .i64 x.2] := scs_at hx
  refine W.skip ?_
  refine XThen.norm ?_
  refine W.seq ?_
  refine W.block ?_
  refine W.seq_region fun K hK => ?_
  by_cases hi0 : i = 0
  ·skip
   subst hi0
   have ho : bsF (z.take 0) = [] := rfl
   rw [ho] at hsu
   simp only [ho, slC_nil, tlC_nil]
   have hpx : (scs z).take 2 = [.int .i64 x.1, .int .i64 x.2] := by simpa using hpx
   have hpq := True.intro
   have ho0 := True.intro
   have ho1 := True.intro
   simp (disch := omega) only [↓RU, RV, RH, ↓reduceIte, reduceEqDiff, reduceCtorEq, if_pos, ↓RS, RG, reduceAdd, reduceMul, reduceLeDiff, ty4, ty16, tyint, ty27, hpx, scs_len, hzl]
   refine hK _ _ ?_;clear hK K
   refine W.seq_draw (by kernel_rfl) fun K hK => ?_
   simp (disch := omega) only [↓RU, RV, RH, ↓reduceIte, reduceEqDiff, reduceCtorEq, if_pos, w64, ↓RS, RG, reduceAdd, reduceMul, reduceLeDiff, ty4, ty16, tyint, ty27, hpq, ho0, toNat_pred, scs_len]
   refine hK _ _ ?_;clear hK K
   refine W.cond rfl (fun h1 => ?_) (fun h1 => ?_)
   ·try simp only [RL] at h1
    refine W.region_k fun K hK => ?_
    simp (disch := omega) only [↓RU, RV, RH, ↓reduceIte, reduceEqDiff, reduceCtorEq, if_pos, ↓RS, RG, reduceAdd, reduceMul, reduceLeDiff, ty4, ty16, tyint, ty27, scs_len, scs_tk]
    refine hK _ _ ?_;clear hK K
    refine XBlock.norm ?_
    refine XThen.norm ?_
    refine W.region_k fun K hK => ?_
    simp (disch := omega) only [↓RU, RV, RH, ↓reduceIte, reduceEqDiff, reduceCtorEq, if_pos, w64, ↓RS, RG, reduceAdd, reduceMul, reduceLeDiff, tyint]
    refine hK _ _ ?_;clear hK K
    refine XThen.norm ?_
    refine ⟨l.length - (0 + 1), by omega, 1, [3], [.loc 1 (t2 + 3) 0 1, .loc 0 ver2 0 l.length, .int .i64 l.length, .int .i64 ((0 + 1 : Nat) : Int)], ⟨[.arr ver2 142 2 (scs z), .arr (t2 + 3) 142 2 ([.int .i64 x.1, .int .i64 x.2])], t2 + 4⟩, ?_, ?_, 1, ver2, t2 + 3, t2 + 4, rfl, by omega, by rw [hsu]; rfl, by rw [hsu]; rfl⟩
    ·simp [-List.mapM_map, Env.put, Env.of, argEnv, Srn_eq, rnObs_cons, rnObs_nil, rnOb_arr, rnOb_map, rn_loc, rn_ref, rn_mp, rn_int, rn_bool, rn_str, rn_ip, rn_sl, rn_nils, rn_nilp, rn_undef, rn_agg, rn_tup, rn_fn, rfq_loc, rfq_int, rfq_bool, rfq_str, rfq_sl, frOf, List.range_succ, List.mapM_append, List.mapM_cons]
    ·simp [-List.mapM_map, Env.put, Env.of, argEnv, Srn_eq, rnObs_cons, rnObs_nil, rnOb_arr, rnOb_map, rn_loc, rn_ref, rn_mp, rn_int, rn_bool, rn_str, rn_ip, rn_sl, rn_nils, rn_nilp, rn_undef, rn_agg, rn_tup, rn_fn, rfq_loc, rfq_int, rfq_bool, rfq_str, rfq_sl, frOf, List.range_succ, List.mapM_append, List.mapM_cons, rn_scs]
   ·try simp only [RL] at h1
    exact absurd h1 (by simp)
  ·skip
   have hne := bsF_ne hi0 (show i ≤ z.length by omega)
   generalize bsF (z.take i) = o at hsu hol hne ⊢
   simp only [slC_ne hne, tlC_ne hne]
   obtain ⟨q, hq, hq2⟩ := last_at hne
   have hpq := scs_at1 hq
   have ho1 : 1 ≤ o.length := List.length_pos_iff.2 hne
   have ho0 : ((o.length : Int) == 0) = false := by simp; omega
   rw [bsS_some hq2] at hsu
   simp (disch := omega) only [↓RU, RV, RH, ↓reduceIte, reduceEqDiff, reduceCtorEq, if_pos, ↓RS, RG, reduceAdd, reduceMul, reduceLeDiff, ty4, ty16, tyint, ty27, hpx, scs_len, hzl]
   refine hK _ _ ?_;clear hK K
   refine W.seq_draw (by kernel_rfl) fun K hK => ?_
   simp (disch := omega) only [↓RU, RV, RH, ↓reduceIte, reduceEqDiff, reduceCtorEq, if_pos, w64, ↓RS, RG, reduceAdd, reduceMul, reduceLeDiff, ty4, ty16, tyint, ty27, hpq, ho0, toNat_pred, scs_len]
   refine hK _ _ ?_;clear hK K
   refine W.cond rfl (fun h1 => ?_) (fun h1 => ?_)
   ·try simp only [RL] at h1
    have h1 : x.2 < q.2 := by simpa using h1
    rw [if_pos h1] at hsu
    refine W.region_k fun K hK => ?_
    simp (disch := omega) only [↓RU, RV, RH, ↓reduceIte, reduceEqDiff, reduceCtorEq, if_pos, ↓RS, RG, reduceAdd, reduceMul, reduceLeDiff, ty4, ty16, tyint, ty27, scs_len, scs_tk]
    refine hK _ _ ?_;clear hK K
    refine XBlock.norm ?_
    refine XThen.norm ?_
    refine W.region_k fun K hK => ?_
    simp (disch := omega) only [↓RU, RV, RH, ↓reduceIte, reduceEqDiff, reduceCtorEq, if_pos, w64, ↓RS, RG, reduceAdd, reduceMul, reduceLeDiff, tyint]
    refine hK _ _ ?_;clear hK K
    refine XThen.norm ?_
    refine ⟨l.length - (i + 1), by omega, 2, [], [.loc 1 (t2 + 2) 0 (o.length + 1), .loc 0 ver2 0 l.length, .int .i64 l.length, .int .i64 ((i + 1 : Nat) : Int)], ⟨[.arr ver2 142 2 (scs z), .arr (t2 + 2) 142 2 (scs o ++ [.int .i64 x.1, .int .i64 x.2])], t2 + 4⟩, ?_, ?_, i + 1, ver2, t2 + 2, t2 + 4, rfl, by omega, by rw [hsu, slC_ne (by simp)]; simp, by rw [hsu, tlC_ne (by simp), scs_snoc]⟩
    ·simp [-List.mapM_map, Env.put, Env.of, argEnv, Srn_eq, rnObs_cons, rnObs_nil, rnOb_arr, rnOb_map, rn_loc, rn_ref, rn_mp, rn_int, rn_bool, rn_str, rn_ip, rn_sl, rn_nils, rn_nilp, rn_undef, rn_agg, rn_tup, rn_fn, rfq_loc, rfq_int, rfq_bool, rfq_str, rfq_sl, frOf, List.range_succ, List.mapM_append, List.mapM_cons]
    ·simp [-List.mapM_map, Env.put, Env.of, argEnv, Srn_eq, rnObs_cons, rnObs_nil, rnOb_arr, rnOb_map, rn_loc, rn_ref, rn_mp, rn_int, rn_bool, rn_str, rn_ip, rn_sl, rn_nils, rn_nilp, rn_undef, rn_agg, rn_tup, rn_fn, rfq_loc, rfq_int, rfq_bool, rfq_str, rfq_sl, frOf, List.range_succ, List.mapM_append, List.mapM_cons, rn_scs]
   ·try simp only [RL] at h1
    have h1 : ¬ x.2 < q.2 := by simpa using h1
    rw [if_neg h1] at hsu
    refine W.skip ?_
    refine XBlock.norm ?_
    refine XThen.norm ?_
    refine W.region_k fun K hK => ?_
    simp (disch := omega) only [↓RU, RV, RH, ↓reduceIte, reduceEqDiff, reduceCtorEq, if_pos, w64, ↓RS, RG, reduceAdd, reduceMul, reduceLeDiff, tyint]
    refine hK _ _ ?_;clear hK K
    refine XThen.norm ?_
    refine ⟨l.length - (i + 1), by omega, 2, [], [.loc 1 v 0 o.length, .loc 0 ver2 0 l.length, .int .i64 l.length, .int .i64 ((i + 1 : Nat) : Int)], ⟨[.arr ver2 142 2 (scs z), .arr v 142 2 (scs o)], t2 + 2⟩, ?_, ?_, i + 1, ver2, v, t2 + 2, rfl, by omega, by rw [hsu, slC_ne hne], by rw [hsu, tlC_ne hne]⟩
    ·simp [-List.mapM_map, Env.put, Env.of, argEnv, Srn_eq, rnObs_cons, rnObs_nil, rnOb_arr, rnOb_map, rn_loc, rn_ref, rn_mp, rn_int, rn_bool, rn_str, rn_ip, rn_sl, rn_nils, rn_nilp, rn_undef, rn_agg, rn_tup, rn_fn, rfq_loc, rfq_int, rfq_bool, rfq_str, rfq_sl, frOf, List.range_succ, List.mapM_append, List.mapM_cons]
    ·simp [-List.mapM_map, Env.put, Env.of, argEnv, Srn_eq, rnObs_cons, rnObs_nil, rnOb_arr, rnOb_map, rn_loc, rn_ref, rn_mp, rn_int, rn_bool, rn_str, rn_ip, rn_sl, rn_nils, rn_nilp, rn_undef, rn_agg, rn_tup, rn_fn, rfq_loc, rfq_int, rfq_bool, rfq_str, rfq_sl, frOf, List.range_succ, List.mapM_append, List.mapM_cons, rn_scs]
 ·try simp only [RL] at h
  obtain rfl : i = l.length := by omega
  refine W.exit ?_
  refine XThen.exit ?_
  refine XThen.exit ?_
  refine XBlock.hit ?_
  refine XThen.norm ?_
  refine W.seq_region fun K hK => ?_
  simp (disch := omega) only [↓RU, RV, RH, ↓reduceIte, reduceEqDiff, reduceCtorEq, if_pos, ↓RS, RG, reduceAdd, reduceMul, reduceLeDiff]
  refine hK _ _ ?_;clear hK K
  refine W.ret ?_
  refine BodyQ.ret rfl ?_
  have hne := bsF_ne (z := z) (show l.length ≠ 0 by omega) (by omega)
  rw [List.take_of_length_le (by omega)] at hne ⊢
  rw [slC_ne hne, tlC_ne hne]
  exact ⟨2, z, _, _, _, hzp, hzs, rfl, rfl⟩
theorem rowsOf_succ {l : List Shp} {i : Nat} {x : Shp} (h : l[i]? = some x) : rowsOf (l.take (i + 1)) = rowsOf (l.take i) ++ [[x.1, x.2]] := by rw [tk h, rowsOf_app, rowsOf_one]
theorem rfq_scs {S : Store} {fr : Nat → Bool} {f : Nat} (l : List Shp) : (scs l).mapM (rfq S fr (f + 1)) = some (scs l) := by
 have h := scal_scs l
 rw [List.all_eq_true] at h
 exact mapM_same fun x hx => by have := h x hx; cases x <;> simp [scal] at this <;> rfl
theorem listed0_pc  : PC Tryz.prog 91 [.sl [] 0] (.sl [] 0) true := by
 refine PC.of ⟨Tryz.func91, by kernel_rfl, rfl, by kernel_rfl⟩ tabOk mixed (by show 1 ≤ Tryz.f91.ntmps; decide) ?_
 refine W.seq_region fun K hK => ?_
 simp (disch := omega) only [↓RU, RV, RH, ↓reduceIte, reduceEqDiff, reduceCtorEq, if_pos, ↓RS, RG, reduceAdd, reduceMul, reduceLeDiff]
 refine hK _ _ ?_;clear hK K
 refine W.seq_region fun K hK => ?_
 simp (disch := omega) only [↓RU, RV, RH, ↓reduceIte, reduceEqDiff, reduceCtorEq, if_pos, ↓RS, RG, reduceAdd, reduceMul, reduceLeDiff]
 refine hK _ _ ?_;clear hK K
 refine W.seq ?_
 refine W.seq_region fun K hK => ?_
 simp (disch := omega) only [↓RU, RV, RH, ↓reduceIte, reduceEqDiff, reduceCtorEq, if_pos, ↓RS, RG, reduceAdd, reduceMul, reduceLeDiff, ty4, ty16, tyint, ty27]
 refine hK _ _ ?_;clear hK K
 refine W.block ?_
 refine W.loop [3, 6, 7, 8] (fun n vs S => n = 0 ∧ vs = [.nils, .sl [] 0, .int .i64 0, .int .i64 0] ∧ S = ⟨[], 0⟩) 0 ?_ ?_
 ·refine ⟨_, rfl, ?_, take_all⟩
  simp [Env.put, Env.of, argEnv]
 rintro n vs S - ⟨rfl, rfl, rfl⟩
 refine W.seq_region fun K hK => ?_
 simp (disch := omega) only [↓RU, RV, RH, ↓reduceIte, reduceEqDiff, reduceCtorEq, if_pos, w64, ↓RS, RG, reduceAdd, reduceMul, reduceLeDiff, tyint]
 refine hK _ _ ?_;clear hK K
 refine W.seq ?_
 refine W.cond rfl (fun h => ?_) (fun h => ?_)
 ·try simp only [RL] at h
  exact absurd h (by decide)
 ·try simp only [RL] at h
  refine W.exit ?_
  refine XThen.exit ?_
  refine XThen.exit ?_
  refine XBlock.hit ?_
  refine XThen.norm ?_
  refine W.seq_region fun K hK => ?_
  simp (disch := omega) only [↓RU, RV, RH, ↓reduceIte, reduceEqDiff, reduceCtorEq, if_pos, ↓RS, RG, reduceAdd, reduceMul, reduceLeDiff]
  refine hK _ _ ?_;clear hK K
  refine W.ret ?_
  refine BodyQ.ret rfl ?_
  rfl
theorem listed_ev {l : List Shp} (hl : l.length ≤ 1048576) {o0 : Ob} {ver t : Nat} : Ev Tryz.prog 91 [.loc 1 ver 0 l.length] ⟨[o0, .arr ver 142 2 (scs l)], t⟩ fun v S => ∃ v2 t2 : Nat, v = slR (rowsOf l) v2 ∧ S = stR (rowsOf l) v2 t2 := by
 refine Ev.of ⟨Tryz.func91, by kernel_rfl, rfl, by kernel_rfl⟩ tabOk mixed (by show 1 ≤ Tryz.f91.ntmps; decide) ?_
 refine W.seq_region fun K hK => ?_
 simp (disch := omega) only [↓RU, RV, RH, ↓reduceIte, reduceEqDiff, reduceCtorEq, if_pos, ↓RS, RG, reduceAdd, reduceMul, reduceLeDiff]
 refine hK _ _ ?_;clear hK K
 refine W.seq_region fun K hK => ?_
 simp (disch := omega) only [↓RU, RV, RH, ↓reduceIte, reduceEqDiff, reduceCtorEq, if_pos, ↓RS, RG, reduceAdd, reduceMul, reduceLeDiff]
 refine hK _ _ ?_;clear hK K
 refine W.seq ?_
 refine W.seq_region fun K hK => ?_
 simp (disch := omega) only [↓RU, RV, RH, ↓reduceIte, reduceEqDiff, reduceCtorEq, if_pos, ↓RS, RG, reduceAdd, reduceMul, reduceLeDiff, ty4, ty16, tyint, ty27]
 refine hK _ _ ?_;clear hK K
 refine W.block ?_
 refine W.loopS [3, 6, 7, 8] (fun n vs S => ∃ (i v t : Nat), n = l.length - i ∧ i ≤ l.length ∧ vs = [slR (rowsOf (l.take i)) v, eShl l, .int .i64 l.length, .int .i64 i] ∧ S = stR (rowsOf (l.take i)) v t) l.length ?_ ?_
 ·refine ⟨0, [], [.nils, eShl l, .int .i64 l.length, .int .i64 (0 : Nat)], ⟨[], t + 1⟩, ?_, ?_, 0, 0, t + 1, rfl, Nat.zero_le _, rfl, rfl⟩
  ·simp [-List.mapM_map, Env.put, Env.of, argEnv, Srn_eq, rnObs_cons, rnObs_nil, rnOb_arr, rnOb_map, rn_loc, rn_ref, rn_mp, rn_int, rn_bool, rn_str, rn_ip, rn_sl, rn_nils, rn_nilp, rn_undef, rn_agg, rn_tup, rn_fn, rfq_loc, rfq_int, rfq_bool, rfq_str, rfq_sl, frOf, List.range_succ, List.mapM_append, List.mapM_cons, rfq_scs, scs_len, scs_tk]
  ·simp [-List.mapM_map, Env.put, Env.of, argEnv, Srn_eq, rnObs_cons, rnObs_nil, rnOb_arr, rnOb_map, rn_loc, rn_ref, rn_mp, rn_int, rn_bool, rn_str, rn_ip, rn_sl, rn_nils, rn_nilp, rn_undef, rn_agg, rn_tup, rn_fn, rfq_loc, rfq_int, rfq_bool, rfq_str, rfq_sl, frOf, List.range_succ, List.mapM_append, List.mapM_cons]
 rintro n vs S - ⟨i, v, t, rfl, h_i, rfl, rfl⟩
 refine W.seq_region fun K hK => ?_
 simp (disch := omega) only [↓RU, RV, RH, ↓reduceIte, reduceEqDiff, reduceCtorEq, if_pos, w64, ↓RS, RG, reduceAdd, reduceMul, reduceLeDiff, tyint]
 refine hK _ _ ?_;clear hK K
 refine W.seq ?_
 refine W.cond rfl (fun h1 => ?_) (fun h1 => ?_)
 ·try simp only [RL] at h1
  obtain ⟨x, hx, -⟩ := get_of (show i < l.length by omega)
  have hrl : (rowsOf (l.take i)).length = i := by rw [rowsOf_len, List.length_take]; omega
  have hrs := rowsOf_succ hx
  have hpx : ((scs l).drop (i * 2)).take 2 = [.int .i64 x.1, .int .i64 x.2] := scs_at hx
  refine W.skip ?_
  refine XThen.norm ?_
  refine W.seq ?_
  refine W.block ?_
  refine W.seq_region fun K hK => ?_
  by_cases hi0 : i = 0
  ·skip
   subst hi0
   have hr0 : rowsOf (l.take 0) = [] := rfl
   rw [hr0, slR_nil, stR_nil]
   have hpx : (scs l).take 2 = [.int .i64 x.1, .int .i64 x.2] := by simpa using hpx
   simp (disch := omega) only [↓RU, RV, RH, ↓reduceIte, reduceEqDiff, reduceCtorEq, if_pos, ↓RS, RG, reduceAdd, reduceMul, reduceLeDiff, ty4, ty16, tyint, ty27, hpx, scs_len]
   refine hK _ _ ?_;clear hK K
   refine W.region_k fun K hK => ?_
   simp (disch := omega) only [↓RU, RV, RH, ↓reduceIte, reduceEqDiff, reduceCtorEq, if_pos, ↓RS, RG, reduceAdd, reduceMul, reduceLeDiff, ty1, tyLint, ty16, tyint, ty27, hrl, List.length_append, List.map_append, List.map_cons, List.map_nil]
   refine hK _ _ ?_;clear hK K
   refine XBlock.norm ?_
   refine XThen.norm ?_
   refine W.region_k fun K hK => ?_
   simp (disch := omega) only [↓RU, RV, RH, ↓reduceIte, reduceEqDiff, reduceCtorEq, if_pos, w64, ↓RS, RG, reduceAdd, reduceMul, reduceLeDiff, tyint]
   refine hK _ _ ?_;clear hK K
   refine XThen.norm ?_
   rw [hr0, List.nil_append] at hrs
   refine ⟨l.length - (0 + 1), by omega, 0, [3], [.loc 0 (t + 4) 0 1, eShl l, .int .i64 l.length, .int .i64 ((0 + 1 : Nat) : Int)], ⟨[.arr (t + 4) 24 1 [eInts [x.1, x.2]]], t + 5⟩, ?_, ?_, 1, t + 4, t + 5, rfl, by omega, by rw [hrs]; rfl, by rw [hrs]; rfl⟩
   ·simp [-List.mapM_map, Env.put, Env.of, argEnv, Srn_eq, rnObs_cons, rnObs_nil, rnOb_arr, rnOb_map, rn_loc, rn_ref, rn_mp, rn_int, rn_bool, rn_str, rn_ip, rn_sl, rn_nils, rn_nilp, rn_undef, rn_agg, rn_tup, rn_fn, rfq_loc, rfq_int, rfq_bool, rfq_str, rfq_sl, frOf, List.range_succ, List.mapM_append, List.mapM_cons]
   ·simp [-List.mapM_map, Env.put, Env.of, argEnv, Srn_eq, rnObs_cons, rnObs_nil, rnOb_arr, rnOb_map, rn_loc, rn_ref, rn_mp, rn_int, rn_bool, rn_str, rn_ip, rn_sl, rn_nils, rn_nilp, rn_undef, rn_agg, rn_tup, rn_fn, rfq_loc, rfq_int, rfq_bool, rfq_str, rfq_sl, frOf, List.range_succ, List.mapM_append, List.mapM_cons, rn_eIntss]
  ·skip
   have hne : rowsOf (l.take i) ≠ [] := fun e => hi0 (by rw [e] at hrl; simpa using hrl.symm)
   rw [slR_ne hne, stR_ne hne, hrl]
   simp (disch := omega) only [↓RU, RV, RH, ↓reduceIte, reduceEqDiff, reduceCtorEq, if_pos, ↓RS, RG, reduceAdd, reduceMul, reduceLeDiff, ty4, ty16, tyint, ty27, hpx, scs_len]
   refine hK _ _ ?_;clear hK K
   refine W.region_k fun K hK => ?_
   simp (disch := omega) only [↓RU, RV, RH, ↓reduceIte, reduceEqDiff, reduceCtorEq, if_pos, ↓RS, RG, reduceAdd, reduceMul, reduceLeDiff, ty1, tyLint, ty16, tyint, ty27, hrl, List.length_append, List.map_append, List.map_cons, List.map_nil]
   refine hK _ _ ?_;clear hK K
   refine XBlock.norm ?_
   refine XThen.norm ?_
   refine W.region_k fun K hK => ?_
   simp (disch := omega) only [↓RU, RV, RH, ↓reduceIte, reduceEqDiff, reduceCtorEq, if_pos, w64, ↓RS, RG, reduceAdd, reduceMul, reduceLeDiff, tyint]
   refine hK _ _ ?_;clear hK K
   refine XThen.norm ?_
   have hne2 : rowsOf (l.take (i + 1)) ≠ [] := by rw [hrs]; simp
   refine ⟨l.length - (i + 1), by omega, 1, [], [.loc 0 (t + 3) 0 (i + 1), eShl l, .int .i64 l.length, .int .i64 ((i + 1 : Nat) : Int)], ⟨[.arr (t + 3) 24 1 ((rowsOf (l.take i)).map eInts ++ [eInts [x.1, x.2]])], t + 5⟩, ?_, ?_, i + 1, t + 3, t + 5, rfl, by omega, by rw [slR_ne hne2, hrs]; simp [hrl], by rw [stR_ne hne2, hrs]; simp⟩
   ·simp [-List.mapM_map, Env.put, Env.of, argEnv, Srn_eq, rnObs_cons, rnObs_nil, rnOb_arr, rnOb_map, rn_loc, rn_ref, rn_mp, rn_int, rn_bool, rn_str, rn_ip, rn_sl, rn_nils, rn_nilp, rn_undef, rn_agg, rn_tup, rn_fn, rfq_loc, rfq_int, rfq_bool, rfq_str, rfq_sl, frOf, List.range_succ, List.mapM_append, List.mapM_cons]
   ·simp [-List.mapM_map, Env.put, Env.of, argEnv, Srn_eq, rnObs_cons, rnObs_nil, rnOb_arr, rnOb_map, rn_loc, rn_ref, rn_mp, rn_int, rn_bool, rn_str, rn_ip, rn_sl, rn_nils, rn_nilp, rn_undef, rn_agg, rn_tup, rn_fn, rfq_loc, rfq_int, rfq_bool, rfq_str, rfq_sl, frOf, List.range_succ, List.mapM_append, List.mapM_cons, rn_eIntss]
 ·try simp only [RL] at h1
  obtain rfl : i = l.length := by omega
  refine W.exit ?_
  refine XThen.exit ?_
  refine XThen.exit ?_
  refine XBlock.hit ?_
  refine XThen.norm ?_
  refine W.seq_region fun K hK => ?_
  simp (disch := omega) only [↓RU, RV, RH, ↓reduceIte, reduceEqDiff, reduceCtorEq, if_pos, ↓RS, RG, reduceAdd, reduceMul, reduceLeDiff]
  refine hK _ _ ?_;clear hK K
  refine W.ret ?_
  refine BodyQ.ret rfl ?_
  rw [List.take_length]
  exact ⟨_, _, _, rfl, take_all⟩
theorem tried_ev {p : List Txt} (hs : Sm p) {ws ht : List Int} (hw : ws.length ≤ 1048576) (hh : ht.length ≤ 1048576) (hv : givenI p ws ht = true) : Ev Tryz.prog 90 [eStrs p, eInts ws, eInts ht] ⟨[], 0⟩ fun v S => ∃ (o0 : Ob) (v1 t1 : Nat), v = .tup [.loc 1 v1 0 (shL (leftG (gP p) p.length (w0 (readG p)) (rP p).length) (aboveG (gP p) p.length (w0 (readG p)) (rP p).length) (rP p).length ws ht (2 ^ (rP p).length)).length, .bool true] ∧ S = ⟨[o0, .arr v1 142 2 (scs (shL (leftG (gP p) p.length (w0 (readG p)) (rP p).length) (aboveG (gP p) p.length (w0 (readG p)) (rP p).length) (rP p).length ws ht (2 ^ (rP p).length)))], t1⟩ := by
 obtain ⟨hv1, hv2, hn8⟩ := givenI_ok hv
 obtain ⟨hpl, hwl, hwok⟩ := needV_one hv1
 obtain ⟨-, hhl, hhok⟩ := needV_one hv2
 have hok := (plain_okB hpl).1
 have hg := okB_gw hok
 have hn9 := okB_rooms hok
 have hn1 := okB_rooms1 hok
 obtain ⟨hrm, ⟨rk, hu⟩, ⟨rk2, hu2⟩⟩ := plan_all hpl
 generalize hMe : (leftG (gP p) p.length (w0 (readG p)) (rP p).length) = M at hu ⊢
 generalize hAe : (aboveG (gP p) p.length (w0 (readG p)) (rP p).length) = A at hu2 ⊢
 obtain ⟨nr, hnr⟩ : ∃ nr : Nat, (rP p).length = nr := ⟨_, rfl⟩
 rw [hnr] at hwl hhl hn8 hn9 hn1 hu hu2
 have hp8 := pow8 hn8
 obtain ⟨N, hN⟩ : ∃ N : Nat, 2 ^ nr = N := ⟨_, rfl⟩
 have hsh := w_shl (b := nr) (by omega)
 rw [hN] at hp8 hsh
 refine Ev.of ⟨Tryz.func90, by kernel_rfl, rfl, by kernel_rfl⟩ tabOk mixed (by show 3 ≤ Tryz.f90.ntmps; decide) ?_
 refine W.seq_region fun K hK => ?_
 simp (disch := omega) only [↓RU, RV, RH, ↓reduceIte, reduceEqDiff, reduceCtorEq, if_pos, ↓RS, RG, reduceAdd, reduceMul, reduceLeDiff]
 refine hK _ _ ?_;clear hK K
 refine W.seq_region fun K hK => ?_
 simp (disch := omega) only [↓RU, RV, RH, ↓reduceIte, reduceEqDiff, reduceCtorEq, if_pos, List.append_nil, ↓RS, RG, reduceAdd, reduceMul, reduceLeDiff, hv]
 refine CallR.ev (shaping_ev hs hw hh) ?_
 rintro _ _ ⟨x, rfl, hx, rfl⟩
 simp (disch := omega) only [↓RU, RV, RH, ↓reduceIte, reduceEqDiff, reduceCtorEq, if_pos, List.append_nil, ↓RS, RG, reduceAdd, reduceMul, reduceLeDiff, hv]
 refine hK _ _ ?_;clear hK K
 refine W.seq ?_
 refine W.seq_region fun K hK => ?_
 simp (disch := omega) only [↓RU, RV, RH, ↓reduceIte, reduceEqDiff, reduceCtorEq, if_pos, ↓RS, RG, reduceAdd, reduceMul, reduceLeDiff]
 refine hK _ _ ?_;clear hK K
 refine W.cond rfl (fun h => ?_) (fun h => ?_)
 ·try simp only [RL] at h
  exact absurd h (by simp)
 ·try simp only [RL] at h
  obtain rfl := hx hv
  refine W.skip ?_
  refine XThen.norm ?_
  refine W.seq_region fun K hK => ?_
  simp (disch := omega) only [↓RU, RV, RH, ↓reduceIte, reduceEqDiff, reduceCtorEq, if_pos, List.append_nil, ↓RS, RG, reduceAdd, reduceMul, reduceLeDiff, ty0, ty2, tybool, ty13, ty15, ty24, hMe, hAe]
  refine CallR.pc (orders_pc hg rfl (by omega) hrm) rfl (.inl rfl) ?_
  simp (disch := omega) only [↓RU, RV, RH, ↓reduceIte, reduceEqDiff, reduceCtorEq, if_pos, List.append_nil, ↓RS, RG, reduceAdd, reduceMul, reduceLeDiff, ty0, ty2, tybool, ty13, ty15, ty24, hMe, hAe]
  refine hK _ _ ?_;clear hK K
  refine W.seq_region fun K hK => ?_
  simp (disch := omega) only [↓RU, RV, RH, ↓reduceIte, reduceEqDiff, reduceCtorEq, if_pos, ↓RS, RG, reduceAdd, reduceMul, reduceLeDiff]
  refine hK _ _ ?_;clear hK K
  refine W.seq ?_
  refine W.seq_region fun K hK => ?_
  simp (disch := omega) only [↓RU, RV, RH, ↓reduceIte, reduceEqDiff, reduceCtorEq, if_pos, w64, ↓RS, RG, reduceAdd, reduceMul, reduceLeDiff, ty1, ty3, tyLint, ty11, ty12, ty14, tyint, ty23, ty26, rcs_len, hnr, pShl, hsh]
  refine hK _ _ ?_;clear hK K
  refine W.block ?_
  refine W.loopS [1, 2, 10, 11, 32, 33] (fun n vs S => ∃ k vo v t : Nat, n = N - k ∧ k ≤ N ∧ vs = [eInts ws, eInts ht, .ref 0 vo 0, slC 1 (shL M A nr ws ht k) v, .int .i64 N, .int .i64 k] ∧ S = ⟨.arr vo 62 2 [eRel M, eRel A] :: tlC (shL M A nr ws ht k) v, t⟩) N ?_ ?_
  ·refine ⟨0, [1], [eInts ws, eInts ht, .ref 0 2 0, .nils, .int .i64 N, .int .i64 (0 : Nat)], ⟨[.arr 2 62 2 [eRel M, eRel A]], 3⟩, ?_, ?_, 0, 2, 0, 3, rfl, by omega, rfl, rfl⟩
   ·simp [-List.mapM_map, Env.put, Env.of, argEnv, Srn_eq, rnObs_cons, rnObs_nil, rnOb_arr, rnOb_map, rn_loc, rn_ref, rn_mp, rn_int, rn_bool, rn_str, rn_ip, rn_sl, rn_nils, rn_nilp, rn_undef, rn_agg, rn_tup, rn_fn, rfq_loc, rfq_int, rfq_bool, rfq_str, rfq_sl, frOf, List.range_succ, List.mapM_append, List.mapM_cons]
   ·simp [-List.mapM_map, Env.put, Env.of, argEnv, Srn_eq, rnObs_cons, rnObs_nil, rnOb_arr, rnOb_map, rn_loc, rn_ref, rn_mp, rn_int, rn_bool, rn_str, rn_ip, rn_sl, rn_nils, rn_nilp, rn_undef, rn_agg, rn_tup, rn_fn, rfq_loc, rfq_int, rfq_bool, rfq_str, rfq_sl, frOf, List.range_succ, List.mapM_append, List.mapM_cons]
  rintro n vs S - ⟨k, vo, v, t, rfl, h_k, rfl, rfl⟩
  refine W.seq_region fun K hK => ?_
  simp (disch := omega) only [↓RU, RV, RH, ↓reduceIte, reduceEqDiff, reduceCtorEq, if_pos, w64, ↓RS, RG, reduceAdd, reduceMul, reduceLeDiff, tyint]
  refine hK _ _ ?_;clear hK K
  refine W.seq ?_
  refine W.cond rfl (fun h1 => ?_) (fun h1 => ?_)
  ·try simp only [RL] at h1
   refine W.skip ?_
   refine XThen.norm ?_
   refine W.seq ?_
   refine W.block ?_
   refine W.seq_region fun K hK => ?_
   simp (disch := omega) only [↓RU, RV, RH, ↓reduceIte, reduceEqDiff, reduceCtorEq, if_pos, ↓RS, RG, reduceAdd, reduceMul, reduceLeDiff]
   refine hK _ _ ?_;clear hK K
   refine W.joinS [1, 2, 10, 11, 32, 33, 12, 13, 14] (fun vs S => ∃ v t : Nat, vs = [eInts ws, eInts ht, .ref 2 v 0, slC 3 (shL M A nr ws ht k) v, .int .i64 N, .int .i64 k, .int .i64 k, .loc 0 v 0 nr, .loc 1 v 0 nr] ∧ S = ⟨.arr v 3 1 (ws.map (.int .i64)) :: .arr v 3 1 (ht.map (.int .i64)) :: .arr v 62 2 [eRel M, eRel A] :: tlC (shL M A nr ws ht k) v, t⟩) ?_ ?_
   ·
    refine W.region_k fun K hK => ?_
    by_cases hk : k = 0
    ·skip
     have hk0 : shL M A nr ws ht k = [] := by subst hk; rfl
     simp only [hk0, slC_nil, tlC_nil]
     simp (disch := omega) only [↓RU, RV, RH, ↓reduceIte, reduceEqDiff, reduceCtorEq, if_pos, List.append_nil, ↓RS, RG, reduceAdd, reduceMul, reduceLeDiff]
     refine CallR.pn (clone_pn (l := ws) (by omega) (by omega)) rfl (.inl rfl) ?_
     simp (disch := omega) only [↓RU, RV, RH, ↓reduceIte, reduceEqDiff, reduceCtorEq, if_pos, List.append_nil, ↓RS, RG, reduceAdd, reduceMul, reduceLeDiff, RN]
     refine CallR.pn (clone_pn (l := ht) (by omega) (by omega)) rfl (.inl rfl) ?_
     simp (disch := omega) only [↓RU, RV, RH, ↓reduceIte, reduceEqDiff, reduceCtorEq, if_pos, List.append_nil, ↓RS, RG, reduceAdd, reduceMul, reduceLeDiff, RN]
     refine hK _ _ ?_;clear hK K
     refine XThen.norm ?_
     refine ⟨0, [1, 2, 0], [eInts ws, eInts ht, .ref 2 (t + 2) 0, slC 3 (shL M A nr ws ht k) (t + 2), .int .i64 N, .int .i64 k, .int .i64 k, .loc 0 (t + 2) 0 nr, .loc 1 (t + 2) 0 nr], ⟨.arr (t + 2) 3 1 (ws.map (.int .i64)) :: .arr (t + 2) 3 1 (ht.map (.int .i64)) :: .arr (t + 2) 62 2 [eRel M, eRel A] :: tlC (shL M A nr ws ht k) (t + 2), t + 3⟩, ?_, ?_, t + 2, t + 3, rfl, rfl⟩
     ·rw [hk0, slC_nil]; simp [-List.mapM_map, Env.put, Env.of, argEnv, Srn_eq, rnObs_cons, rnObs_nil, rnOb_arr, rnOb_map, rn_loc, rn_ref, rn_mp, rn_int, rn_bool, rn_str, rn_ip, rn_sl, rn_nils, rn_nilp, rn_undef, rn_agg, rn_tup, rn_fn, rfq_loc, rfq_int, rfq_bool, rfq_str, rfq_sl, frOf, List.range_succ, List.mapM_append, List.mapM_cons, hwl, hhl] <;> decide
     ·rw [hk0, tlC_nil]; simp [-List.mapM_map, Env.put, Env.of, argEnv, Srn_eq, rnObs_cons, rnObs_nil, rnOb_arr, rnOb_map, rn_loc, rn_ref, rn_mp, rn_int, rn_bool, rn_str, rn_ip, rn_sl, rn_nils, rn_nilp, rn_undef, rn_agg, rn_tup, rn_fn, rfq_loc, rfq_int, rfq_bool, rfq_str, rfq_sl, frOf, List.range_succ, List.mapM_append, List.mapM_cons, rn_ints]
    ·skip
     simp only [slC_ne (shL_ne hk), tlC_ne (shL_ne hk)]
     simp (disch := omega) only [↓RU, RV, RH, ↓reduceIte, reduceEqDiff, reduceCtorEq, if_pos, List.append_nil, ↓RS, RG, reduceAdd, reduceMul, reduceLeDiff]
     refine CallR.pn (clone_pn (l := ws) (by omega) (by omega)) rfl (.inl rfl) ?_
     simp (disch := omega) only [↓RU, RV, RH, ↓reduceIte, reduceEqDiff, reduceCtorEq, if_pos, List.append_nil, ↓RS, RG, reduceAdd, reduceMul, reduceLeDiff, RN]
     refine CallR.pn (clone_pn (l := ht) (by omega) (by omega)) rfl (.inl rfl) ?_
     simp (disch := omega) only [↓RU, RV, RH, ↓reduceIte, reduceEqDiff, reduceCtorEq, if_pos, List.append_nil, ↓RS, RG, reduceAdd, reduceMul, reduceLeDiff, RN]
     refine hK _ _ ?_;clear hK K
     refine XThen.norm ?_
     refine ⟨0, [2, 3, 0, 1], [eInts ws, eInts ht, .ref 2 (t + 2) 0, slC 3 (shL M A nr ws ht k) (t + 2), .int .i64 N, .int .i64 k, .int .i64 k, .loc 0 (t + 2) 0 nr, .loc 1 (t + 2) 0 nr], ⟨.arr (t + 2) 3 1 (ws.map (.int .i64)) :: .arr (t + 2) 3 1 (ht.map (.int .i64)) :: .arr (t + 2) 62 2 [eRel M, eRel A] :: tlC (shL M A nr ws ht k) (t + 2), t + 3⟩, ?_, ?_, t + 2, t + 3, rfl, rfl⟩
     ·rw [slC_ne (shL_ne hk)]; simp [-List.mapM_map, Env.put, Env.of, argEnv, Srn_eq, rnObs_cons, rnObs_nil, rnOb_arr, rnOb_map, rn_loc, rn_ref, rn_mp, rn_int, rn_bool, rn_str, rn_ip, rn_sl, rn_nils, rn_nilp, rn_undef, rn_agg, rn_tup, rn_fn, rfq_loc, rfq_int, rfq_bool, rfq_str, rfq_sl, frOf, List.range_succ, List.mapM_append, List.mapM_cons, hwl, hhl] <;> decide
     ·rw [tlC_ne (shL_ne hk)]; simp [-List.mapM_map, Env.put, Env.of, argEnv, Srn_eq, rnObs_cons, rnObs_nil, rnOb_arr, rnOb_map, rn_loc, rn_ref, rn_mp, rn_int, rn_bool, rn_str, rn_ip, rn_sl, rn_nils, rn_nilp, rn_undef, rn_agg, rn_tup, rn_fn, rfq_loc, rfq_int, rfq_bool, rfq_str, rfq_sl, frOf, List.range_succ, List.mapM_append, List.mapM_cons, rn_ints, rn_scs]
   rintro vs S - ⟨v2, t2, rfl, rfl⟩
   refine W.seq ?_
   refine W.seq_region fun K hK => ?_
   simp (disch := omega) only [↓RU, RV, RH, ↓reduceIte, reduceEqDiff, reduceCtorEq, if_pos, ↓RS, RG, reduceAdd, reduceMul, reduceLeDiff, tyLint, tyint, hwl]
   refine hK _ _ ?_;clear hK K
   refine W.block ?_
   refine W.loop [1, 2, 10, 11, 32, 33, 12, 13, 14, 41, 42] (fun n vs S => ∃ i t : Nat, n = nr - i ∧ i ≤ nr ∧ vs = [eInts ws, eInts ht, .ref 2 v2 0, slC 3 (shL M A nr ws ht k) v2, .int .i64 N, .int .i64 k, .int .i64 k, .loc 0 v2 0 nr, .loc 1 v2 0 nr, .int .i64 nr, .int .i64 i] ∧ S = ⟨.arr v2 3 1 (((swp ws ht k).take i ++ ws.drop i).map (.int .i64)) :: .arr v2 3 1 (((swp ht ws k).take i ++ ht.drop i).map (.int .i64)) :: .arr v2 62 2 [eRel M, eRel A] :: tlC (shL M A nr ws ht k) v2, t⟩) nr ?_ ?_
   ·refine ⟨_, 0, t2, rfl, by omega, ?_, take_all_of (by simp)⟩
    simp [Env.put, Env.of]
   rintro n vs S - ⟨i, t3, rfl, h_i, rfl, rfl⟩
   refine W.seq_region fun K hK => ?_
   simp (disch := omega) only [↓RU, RV, RH, ↓reduceIte, reduceEqDiff, reduceCtorEq, if_pos, w64, ↓RS, RG, reduceAdd, reduceMul, reduceLeDiff, tyint]
   refine hK _ _ ?_;clear hK K
   refine W.seq ?_
   refine W.cond rfl (fun h2 => ?_) (fun h2 => ?_)
   ·try simp only [RL] at h2
    obtain ⟨x, hx, -⟩ := get_of (show i < ws.length by omega)
    obtain ⟨y, hy, -⟩ := get_of (show i < ht.length by omega)
    have hs1 := swp_at (set := k) hx hy
    have hs2 := swp_at (set := k) hy hx
    have hl1 : (swp ws ht k).length = ws.length := swp_len
    have hl2 : (swp ht ws k).length = ht.length := swp_len
    have hm1 := mix_at (i := i) hl1
    have hm2 := mix_at (i := i) hl2
    rw [hx] at hm1
    rw [hy] at hm2
    have hn1a := mix_len (i := i) hl1
    have hn2a := mix_len (i := i) hl2
    refine W.skip ?_
    refine XThen.norm ?_
    refine W.seq ?_
    refine W.block ?_
    refine W.seq_region fun K hK => ?_
    simp (disch := omega) only [↓RU, RV, RH, ↓reduceIte, reduceEqDiff, reduceCtorEq, if_pos, ↓RS, RG, reduceAdd, reduceMul, reduceLeDiff]
    refine hK _ _ ?_;clear hK K
    refine W.seq_region fun K hK => ?_
    simp (disch := omega) only [↓RU, RV, RH, ↓reduceIte, reduceEqDiff, reduceCtorEq, if_pos, w64, ↓RS, RG, reduceAdd, reduceMul, reduceLeDiff, tyint, pShr, w_bit]
    refine hK _ _ ?_;clear hK K
    refine W.cond rfl (fun h3 => ?_) (fun h3 => ?_)
    ·try simp only [RL] at h3
     rw [h3] at hs1 hs2
     simp only [if_true] at hs1 hs2
     refine W.draw_k (by kernel_rfl) fun K hK => ?_
     simp (disch := omega) only [↓RU, RV, RH, ↓reduceIte, reduceEqDiff, reduceCtorEq, if_pos, ↓RS, RG, reduceAdd, reduceMul, reduceLeDiff, tyLint, tyint, hm1, hm2, hn1a, hn2a, set_spl, set_int]
     refine hK _ _ ?_;clear hK K
     refine XBlock.norm ?_
     refine XThen.norm ?_
     refine W.region_k fun K hK => ?_
     simp (disch := omega) only [↓RU, RV, RH, ↓reduceIte, reduceEqDiff, reduceCtorEq, if_pos, w64, ↓RS, RG, reduceAdd, reduceMul, reduceLeDiff, tyint]
     refine hK _ _ ?_;clear hK K
     refine XThen.norm ?_
     refine ⟨nr - (i + 1), by omega, _, i + 1, t3, rfl, by omega, ?_, take_all_of (by rw [mix_succ hs1 hl1, mix_succ hs2 hl2])⟩
     simp [Env.put, Env.of]
    ·try simp only [RL] at h3
     rw [h3] at hs1 hs2
     simp only [Bool.false_eq_true, if_false] at hs1 hs2
     refine W.skip ?_
     refine XBlock.norm ?_
     refine XThen.norm ?_
     refine W.region_k fun K hK => ?_
     simp (disch := omega) only [↓RU, RV, RH, ↓reduceIte, reduceEqDiff, reduceCtorEq, if_pos, w64, ↓RS, RG, reduceAdd, reduceMul, reduceLeDiff, tyint]
     refine hK _ _ ?_;clear hK K
     refine XThen.norm ?_
     refine ⟨nr - (i + 1), by omega, _, i + 1, t3, rfl, by omega, ?_, take_all_of (by rw [← mix_same hs1 hx, ← mix_same hs2 hy])⟩
     simp [Env.put, Env.of]
   ·try simp only [RL] at h2
    obtain rfl : i = nr := by omega
    rw [List.take_of_length_le (by rw [swp_len]; omega), List.drop_of_length_le (by omega), List.append_nil, List.take_of_length_le (by rw [swp_len]; omega), List.drop_of_length_le (by omega), List.append_nil]
    have hok1 := swp_ok (set := k) hwok hhok (by omega)
    have hok2 := swp_ok (set := k) hhok hwok (by omega)
    have hl1 : (swp ws ht k).length = i := by rw [swp_len]; omega
    have hl2 : (swp ht ws k).length = i := by rw [swp_len]; omega
    have hh1 := heaviest_len (M := M) (ws := swp ws ht k) (n := i)
    have hh2 := heaviest_len (M := A) (ws := swp ht ws k) (n := i)
    obtain ⟨y1, hy1, -⟩ := get_of (show 0 < (heaviest M (swp ws ht k) i).length by omega)
    obtain ⟨y2, hy2, -⟩ := get_of (show 0 < (heaviest A (swp ht ws k) i).length by omega)
    have hSl := shL_len (L := M) (A := A) (n := i) (ws := ws) (ht := ht) (k := k)
    have hcl := scs_len (shL M A i ws ht k)
    have hct : (scs (shL M A i ws ht k)).take (k * 2) = scs (shL M A i ws ht k) := List.take_of_length_le (by omega)
    refine W.exit ?_
    refine XThen.exit ?_
    refine XThen.exit ?_
    refine XBlock.hit ?_
    refine XThen.norm ?_
    refine W.draw_k (by kernel_rfl) fun K hK => ?_
    by_cases hk : k = 0
    ·skip
     have hk0 : shL M A i ws ht k = [] := by subst hk; rfl
     simp only [hk0, slC_nil, tlC_nil]
     simp (disch := omega) only [↓RU, RV, RH, ↓reduceIte, reduceEqDiff, reduceCtorEq, if_pos, List.append_nil, ↓RS, RG, reduceAdd, reduceMul, reduceLeDiff, ty0, ty2, ty4, tybool, ty13, ty15, ty16, tyint, ty24, ty27]
     refine CallR.pc (heaviest_pc hu hn9 hl1 hok1) (mapM_one rfl (mapM_one (reify_ints_n (k := 8) rfl hl1) rfl)) (.inl rfl) ?_
     simp (disch := omega) only [↓RU, RV, RH, ↓reduceIte, reduceEqDiff, reduceCtorEq, if_pos, List.append_nil, ↓RS, RG, reduceAdd, reduceMul, reduceLeDiff, ty0, ty2, ty4, tybool, ty13, ty15, ty16, tyint, ty24, ty27]
     refine CallR.pc (max_pc hy1 (by omega)) rfl (.inl rfl) ?_
     simp (disch := omega) only [↓RU, RV, RH, ↓reduceIte, reduceEqDiff, reduceCtorEq, if_pos, List.append_nil, ↓RS, RG, reduceAdd, reduceMul, reduceLeDiff, ty0, ty2, ty4, tybool, ty13, ty15, ty16, tyint, ty24, ty27]
     refine CallR.pc (heaviest_pc hu2 hn9 hl2 hok2) (mapM_one rfl (mapM_one (reify_ints_n (k := 8) rfl hl2) rfl)) (.inl rfl) ?_
     simp (disch := omega) only [↓RU, RV, RH, ↓reduceIte, reduceEqDiff, reduceCtorEq, if_pos, List.append_nil, ↓RS, RG, reduceAdd, reduceMul, reduceLeDiff, ty0, ty2, ty4, tybool, ty13, ty15, ty16, tyint, ty24, ty27]
     refine CallR.pc (max_pc hy2 (by omega)) rfl (.inl rfl) ?_
     simp (disch := omega) only [↓RU, RV, RH, ↓reduceIte, reduceEqDiff, reduceCtorEq, if_pos, List.append_nil, ↓RS, RG, reduceAdd, reduceMul, reduceLeDiff, ty0, ty2, ty4, tybool, ty13, ty15, ty16, tyint, ty24, ty27]
     refine hK _ _ ?_;clear hK K
     refine XBlock.norm ?_
     refine XThen.norm ?_
     refine W.region_k fun K hK => ?_
     simp (disch := omega) only [↓RU, RV, RH, ↓reduceIte, reduceEqDiff, reduceCtorEq, if_pos, w64, ↓RS, RG, reduceAdd, reduceMul, reduceLeDiff, tyint]
     refine hK _ _ ?_;clear hK K
     refine XThen.norm ?_
     refine ⟨N - (k + 1), by omega, 0, [2, 4], [eInts ws, eInts ht, .ref 0 (t3 + 2) 0, slC 1 (shL M A i ws ht (k + 1)) (t3 + 2), .int .i64 N, .int .i64 ((k + 1 : Nat) : Int)], ⟨.arr (t3 + 2) 62 2 [eRel M, eRel A] :: tlC (shL M A i ws ht (k + 1)) (t3 + 2), t3 + 3⟩, ?_, ?_, k + 1, t3 + 2, t3 + 2, t3 + 3, rfl, by omega, rfl, rfl⟩
     ·rw [slC_ne (shL_ne (by omega)), shL_succ, hk0]; simp [-List.mapM_map, Env.put, Env.of, argEnv, Srn_eq, rnObs_cons, rnObs_nil, rnOb_arr, rnOb_map, rn_loc, rn_ref, rn_mp, rn_int, rn_bool, rn_str, rn_ip, rn_sl, rn_nils, rn_nilp, rn_undef, rn_agg, rn_tup, rn_fn, rfq_loc, rfq_int, rfq_bool, rfq_str, rfq_sl, frOf, List.range_succ, List.mapM_append, List.mapM_cons] <;> decide
     ·rw [tlC_ne (shL_ne (by omega)), shL_succ, hk0]; simp [-List.mapM_map, Env.put, Env.of, argEnv, Srn_eq, rnObs_cons, rnObs_nil, rnOb_arr, rnOb_map, rn_loc, rn_ref, rn_mp, rn_int, rn_bool, rn_str, rn_ip, rn_sl, rn_nils, rn_nilp, rn_undef, rn_agg, rn_tup, rn_fn, rfq_loc, rfq_int, rfq_bool, rfq_str, rfq_sl, frOf, List.range_succ, List.mapM_append, List.mapM_cons, scs, eShp, shI]
    ·skip
     simp only [slC_ne (shL_ne hk), tlC_ne (shL_ne hk)]
     simp (disch := omega) only [↓RU, RV, RH, ↓reduceIte, reduceEqDiff, reduceCtorEq, if_pos, List.append_nil, ↓RS, RG, reduceAdd, reduceMul, reduceLeDiff, ty0, ty2, ty4, tybool, ty13, ty15, ty16, tyint, ty24, ty27, hcl, hSl]
     refine CallR.pc (heaviest_pc hu hn9 hl1 hok1) (mapM_one rfl (mapM_one (reify_ints_n (k := 8) rfl hl1) rfl)) (.inl rfl) ?_
     simp (disch := omega) only [↓RU, RV, RH, ↓reduceIte, reduceEqDiff, reduceCtorEq, if_pos, List.append_nil, ↓RS, RG, reduceAdd, reduceMul, reduceLeDiff, ty0, ty2, ty4, tybool, ty13, ty15, ty16, tyint, ty24, ty27, hcl, hSl]
     refine CallR.pc (max_pc hy1 (by omega)) rfl (.inl rfl) ?_
     simp (disch := omega) only [↓RU, RV, RH, ↓reduceIte, reduceEqDiff, reduceCtorEq, if_pos, List.append_nil, ↓RS, RG, reduceAdd, reduceMul, reduceLeDiff, ty0, ty2, ty4, tybool, ty13, ty15, ty16, tyint, ty24, ty27, hcl, hSl]
     refine CallR.pc (heaviest_pc hu2 hn9 hl2 hok2) (mapM_one rfl (mapM_one (reify_ints_n (k := 8) rfl hl2) rfl)) (.inl rfl) ?_
     simp (disch := omega) only [↓RU, RV, RH, ↓reduceIte, reduceEqDiff, reduceCtorEq, if_pos, List.append_nil, ↓RS, RG, reduceAdd, reduceMul, reduceLeDiff, ty0, ty2, ty4, tybool, ty13, ty15, ty16, tyint, ty24, ty27, hcl, hSl]
     refine CallR.pc (max_pc hy2 (by omega)) rfl (.inl rfl) ?_
     simp (disch := omega) only [↓RU, RV, RH, ↓reduceIte, reduceEqDiff, reduceCtorEq, if_pos, List.append_nil, ↓RS, RG, reduceAdd, reduceMul, reduceLeDiff, ty0, ty2, ty4, tybool, ty13, ty15, ty16, tyint, ty24, ty27, hcl, hSl]
     refine hK _ _ ?_;clear hK K
     refine XBlock.norm ?_
     refine XThen.norm ?_
     refine W.region_k fun K hK => ?_
     simp (disch := omega) only [↓RU, RV, RH, ↓reduceIte, reduceEqDiff, reduceCtorEq, if_pos, w64, ↓RS, RG, reduceAdd, reduceMul, reduceLeDiff, tyint]
     refine hK _ _ ?_;clear hK K
     refine XThen.norm ?_
     refine ⟨N - (k + 1), by omega, 0, [2, 3], [eInts ws, eInts ht, .ref 0 (t3 + 2) 0, slC 1 (shL M A i ws ht (k + 1)) (t3 + 2), .int .i64 N, .int .i64 ((k + 1 : Nat) : Int)], ⟨.arr (t3 + 2) 62 2 [eRel M, eRel A] :: tlC (shL M A i ws ht (k + 1)) (t3 + 2), t3 + 3⟩, ?_, ?_, k + 1, t3 + 2, t3 + 2, t3 + 3, rfl, by omega, rfl, rfl⟩
     ·rw [slC_ne (shL_ne (by omega)), shL_succ]; simp [-List.mapM_map, Env.put, Env.of, argEnv, Srn_eq, rnObs_cons, rnObs_nil, rnOb_arr, rnOb_map, rn_loc, rn_ref, rn_mp, rn_int, rn_bool, rn_str, rn_ip, rn_sl, rn_nils, rn_nilp, rn_undef, rn_agg, rn_tup, rn_fn, rfq_loc, rfq_int, rfq_bool, rfq_str, rfq_sl, frOf, List.range_succ, List.mapM_append, List.mapM_cons, hSl] <;> decide
     ·rw [tlC_ne (shL_ne (by omega)), shL_succ, scs_snoc]; simp [-List.mapM_map, Env.put, Env.of, argEnv, Srn_eq, rnObs_cons, rnObs_nil, rnOb_arr, rnOb_map, rn_loc, rn_ref, rn_mp, rn_int, rn_bool, rn_str, rn_ip, rn_sl, rn_nils, rn_nilp, rn_undef, rn_agg, rn_tup, rn_fn, rfq_loc, rfq_int, rfq_bool, rfq_str, rfq_sl, frOf, List.range_succ, List.mapM_append, List.mapM_cons, rn_scs, shI, hct]
  ·try simp only [RL] at h1
   obtain rfl : k = N := by omega
   refine W.exit ?_
   refine XThen.exit ?_
   refine XThen.exit ?_
   refine XBlock.hit ?_
   refine XThen.norm ?_
   refine W.seq_region fun K hK => ?_
   simp (disch := omega) only [↓RU, RV, RH, ↓reduceIte, reduceEqDiff, reduceCtorEq, if_pos, ↓RS, RG, reduceAdd, reduceMul, reduceLeDiff]
   refine hK _ _ ?_;clear hK K
   refine W.ret ?_
   refine BodyQ.ret rfl ?_
   rw [hnr, hN, slC_ne (shL_ne (by omega)), tlC_ne (shL_ne (by omega))]
   exact ⟨2, _, _, _, rfl, rfl⟩
theorem shapeAll_no {p : List Txt} (hs : Sm p) {ws ht : List Int} (hw : ws.length ≤ 1048576) (hh : ht.length ≤ 1048576) (hv : givenI p ws ht = false) : PC Tryz.prog 32 [eStrs p, eInts ws, eInts ht] (.tup [.sl [] 0, .bool false]) true := by
 refine PC.of ⟨Tryz.func32, by kernel_rfl, rfl, by kernel_rfl⟩ tabOk mixed (by show 3 ≤ Tryz.f32.ntmps; decide) ?_
 refine W.seq_region fun K hK => ?_
 simp (disch := omega) only [↓RU, RV, RH, ↓reduceIte, reduceEqDiff, reduceCtorEq, if_pos, ↓RS, RG, reduceAdd, reduceMul, reduceLeDiff]
 refine hK _ _ ?_;clear hK K
 refine W.seq_region fun K hK => ?_
 simp (disch := omega) only [↓RU, RV, RH, ↓reduceIte, reduceEqDiff, reduceCtorEq, if_pos, List.append_nil, ↓RS, RG, reduceAdd, reduceMul, reduceLeDiff]
 refine CallR.pc (tried_no hs hw hh hv) rfl (.inl rfl) ?_
 simp (disch := omega) only [↓RU, RV, RH, ↓reduceIte, reduceEqDiff, reduceCtorEq, if_pos, List.append_nil, ↓RS, RG, reduceAdd, reduceMul, reduceLeDiff]
 refine hK _ _ ?_;clear hK K
 refine W.seq_region fun K hK => ?_
 simp (disch := omega) only [↓RU, RV, RH, ↓reduceIte, reduceEqDiff, reduceCtorEq, if_pos, List.append_nil, ↓RS, RG, reduceAdd, reduceMul, reduceLeDiff]
 refine CallR.pc (best0_pc) rfl (.inl rfl) ?_
 simp (disch := omega) only [↓RU, RV, RH, ↓reduceIte, reduceEqDiff, reduceCtorEq, if_pos, List.append_nil, ↓RS, RG, reduceAdd, reduceMul, reduceLeDiff]
 refine CallR.pc (listed0_pc) rfl (.inl rfl) ?_
 simp (disch := omega) only [↓RU, RV, RH, ↓reduceIte, reduceEqDiff, reduceCtorEq, if_pos, List.append_nil, ↓RS, RG, reduceAdd, reduceMul, reduceLeDiff]
 refine hK _ _ ?_;clear hK K
 refine W.ret ?_
 refine BodyQ.ret rfl ?_
 rfl
theorem shapeAll_yes {p : List Txt} (hs : Sm p) {ws ht : List Int} (hw : ws.length ≤ 1048576) (hh : ht.length ≤ 1048576) (hv : givenI p ws ht = true) : PC Tryz.prog 32 [eStrs p, eInts ws, eInts ht] (.tup [eShps (allP (shI (leftG (gP p) p.length (w0 (readG p)) (rP p).length) (aboveG (gP p) p.length (w0 (readG p)) (rP p).length) (rP p).length ws ht) (2 ^ (rP p).length)), .bool true]) false := by
 have hp8 := pow8 (givenI_ok hv).2.2
 have hp1 : 1 ≤ 2 ^ (rP p).length := Nat.one_le_two_pow
 have hsl : (shL (leftG (gP p) p.length (w0 (readG p)) (rP p).length) (aboveG (gP p) p.length (w0 (readG p)) (rP p).length) (rP p).length ws ht (2 ^ (rP p).length)).length = 2 ^ (rP p).length := shL_len
 refine PC.of ⟨Tryz.func32, by kernel_rfl, rfl, by kernel_rfl⟩ tabOk mixed (by show 3 ≤ Tryz.f32.ntmps; decide) ?_
 refine W.seq_region fun K hK => ?_
 simp (disch := omega) only [↓RU, RV, RH, ↓reduceIte, reduceEqDiff, reduceCtorEq, if_pos, ↓RS, RG, reduceAdd, reduceMul, reduceLeDiff]
 refine hK _ _ ?_;clear hK K
 refine W.seq_region fun K hK => ?_
 simp (disch := omega) only [↓RU, RV, RH, ↓reduceIte, reduceEqDiff, reduceCtorEq, if_pos, List.append_nil, ↓RS, RG, reduceAdd, reduceMul, reduceLeDiff]
 refine CallR.ev (tried_ev hs hw hh hv) ?_
 rintro _ _ ⟨o0, v1, t1, rfl, rfl⟩
 simp (disch := omega) only [↓RU, RV, RH, ↓reduceIte, reduceEqDiff, reduceCtorEq, if_pos, List.append_nil, ↓RS, RG, reduceAdd, reduceMul, reduceLeDiff]
 refine hK _ _ ?_;clear hK K
 refine W.seq_region fun K hK => ?_
 simp (disch := omega) only [↓RU, RV, RH, ↓reduceIte, reduceEqDiff, reduceCtorEq, if_pos, List.append_nil, ↓RS, RG, reduceAdd, reduceMul, reduceLeDiff]
 refine CallR.ev (best_ev (l := (shL (leftG (gP p) p.length (w0 (readG p)) (rP p).length) (aboveG (gP p) p.length (w0 (readG p)) (rP p).length) (rP p).length ws ht (2 ^ (rP p).length))) (by omega) (by omega)) ?_
 rintro _ _ ⟨z, ver2, v2, t2, hzp, hzs, rfl, rfl⟩
 have hbs := best_same hzs hzp
 have hbl : (bsF z).length ≤ 1048576 := by have := bsF_len z z.length (Nat.le_refl _); rw [List.take_length] at this; have := hzp.length_eq; omega
 simp (disch := omega) only [↓RU, RV, RH, ↓reduceIte, reduceEqDiff, reduceCtorEq, if_pos, List.append_nil, ↓RS, RG, reduceAdd, reduceMul, reduceLeDiff]
 refine CallR.ev (listed_ev hbl) ?_
 rintro _ _ ⟨v3, t3, rfl, rfl⟩
 simp (disch := omega) only [↓RU, RV, RH, ↓reduceIte, reduceEqDiff, reduceCtorEq, if_pos, List.append_nil, ↓RS, RG, reduceAdd, reduceMul, reduceLeDiff]
 refine hK _ _ ?_;clear hK K
 refine W.ret ?_
 refine BodyQ.ret rfl ?_
 rw [← hbs]
 exact reify_tup2 (k := 9) (reify_slR.trans (by rw [eGrid, rowsOf_len])) rfl
section
theorem PC.old {P : Program} {f : FuncId} {args : List PV} {r : PV} (h : PC P f args r true) : PC P f args r false :=
 ⟨h.ent, fun F w c h1 h2 h3 => (h.run F w c h1 h2 h3).mono fun _ _ ⟨cv, a, b, d⟩ => ⟨cv, a, b, d.mono (fun _ hb => .inl (hb.resolve_right (by simp))) (fun _ _ => rfl)⟩⟩
theorem allP_congr {f g : Nat → Shp} : ∀ {k : Nat}, (∀ s, s < k → f s = g s) → allP f k = allP g k
 | 0, _ => rfl
 | k + 1, h => by rw [allP_succ, allP_succ, allP_congr (k := k) fun s hs => h s (by omega), h k (by omega)]
section
variable {p : List Txt} {ws ht : List Int}
def bestV (p : List Txt) (ws ht : List Int) : List Shp := if givenI p ws ht then allP (shS p ws ht) (2 ^ ws.length) else []
theorem shapeAll_pc (hs : Sm p) (hw : ws.length ≤ 1048576) (hh : ht.length ≤ 1048576) : PC Tryz.prog 32 [eStrs p, eInts ws, eInts ht] (.tup [eShps (bestV p ws ht), .bool (givenI p ws ht)]) false := by
 cases hv : givenI p ws ht with
 | false =>
  have e : bestV p ws ht = [] := by unfold bestV; rw [hv, if_neg Bool.false_ne_true]
  rw [e]
  exact (shapeAll_no hs hw hh hv).old
 | true =>
  obtain ⟨h1, h2, -⟩ := givenI_ok hv
  have e : bestV p ws ht = allP (shI (leftG (gP p) p.length (w0 (readG p)) (rP p).length) (aboveG (gP p) p.length (w0 (readG p)) (rP p).length) (rP p).length ws ht) (2 ^ (rP p).length) := by
   unfold bestV
   rw [hv, if_pos rfl, (needV_one h1).2.1]
   exact allP_congr fun s _ => (sh_eq h1 h2 s).symm
  rw [e]
  exact shapeAll_yes hs hw hh hv
theorem given_sym : givenI p ht ws = givenI p ws ht := by
 have e : needV p [ht, ws] = needV p [ws, ht] := by unfold needV; simp only [List.all_cons, List.all_nil, Bool.and_true, Bool.and_assoc, Bool.and_comm, Bool.and_left_comm]
 unfold givenI; rw [e]
theorem given_len (h : givenI p ws ht = true) : ht.length = ws.length ∧ ws.length ≤ 8 := by
 obtain ⟨h1, h2, h3⟩ := givenI_ok h
 have := (needV_one h1).2.1
 have := (needV_one h2).2.1
 omega
theorem swp_turn {k : Nat} (hl : ht.length = ws.length) (hk : k < 2 ^ ws.length) : swp ht ws k = swp ws ht (2 ^ ws.length - 1 - k) := by
 unfold swp
 rw [hl]
 refine List.map_congr_left fun r hr => ?_
 have hr2 := List.mem_range.1 hr
 rw [show 2 ^ ws.length - 1 - k = 2 ^ ws.length - (k + 1) by omega, Nat.testBit_two_pow_sub_succ hk]
 simp only [hr2, decide_true, Bool.true_and]
 cases k.testBit r <;> rfl
theorem sh_turn (hl : ht.length = ws.length) {k : Nat} (hk : k < 2 ^ ws.length) : shS p ht ws k = shS p ws ht (2 ^ ws.length - 1 - k) := by
 unfold shS
 have hk2 : 2 ^ ws.length - 1 - k < 2 ^ ws.length := by omega
 rw [swp_turn hl hk]
 congr 2
 have e := swp_turn (ws := ws) (ht := ht) hl hk2
 rw [show 2 ^ ws.length - 1 - (2 ^ ws.length - 1 - k) = k by omega] at e
 exact e.symm
theorem best_sym : bestV p ht ws = bestV p ws ht := by
 unfold bestV
 rw [given_sym]
 split
 ·rename_i h
  have hl := (given_len h).1
  rw [hl]
  refine ((all_best (sh := shS p ht ws) (2 ^ ws.length)).mem fun x => ?_).uniq (all_best (sh := shS p ws ht) (2 ^ ws.length))
  simp only [List.mem_map, List.mem_range]
  constructor
  ·rintro ⟨s, h1, rfl⟩; exact ⟨_, by omega, (sh_turn hl h1).symm⟩
  ·rintro ⟨s, h1, rfl⟩
   refine ⟨2 ^ ws.length - 1 - s, by omega, ?_⟩
   rw [sh_turn hl (by omega), show 2 ^ ws.length - 1 - (2 ^ ws.length - 1 - s) = s by omega]
 ·rfl
theorem bestV_yes (h : givenI p ws ht = true) : bestV p ws ht = allP (shS p ws ht) (2 ^ ws.length) := by unfold bestV; rw [h, if_pos rfl]
theorem bestV_facts (h : givenI p ws ht = true) : 1 ≤ (bestV p ws ht).length ∧ (bestV p ws ht).length ≤ 256 ∧
  (∀ x ∈ bestV p ws ht, 0 ≤ x.1 ∧ x.1 ≤ 6570 ∧ 0 ≤ x.2 ∧ x.2 ≤ 6570 ∧ 0 ≤ x.1 * x.2 ∧ x.1 * x.2 ≤ 43164900 ∧ ∃ s, s < 2 ^ ws.length ∧ x = shS p ws ht s) ∧ (∀ s, s < 2 ^ ws.length → ∃ y ∈ bestV p ws ht, y.1 ≤ (shS p ws ht s).1 ∧ y.2 ≤ (shS p ws ht s).2) ∧ Stc (bestV p ws ht) := by
 have hp := pow8 (given_len h).2
 obtain ⟨g1, g2, -⟩ := givenI_ok h
 rw [← needs_is] at g1 g2
 rw [bestV_yes h]
 obtain ⟨h1, h2, h3⟩ := allP_inv (sh := shS p ws ht) (2 ^ ws.length)
 refine ⟨List.length_pos_iff.2 (allP_ne hp.1), by omega, fun x hx => ?_, h2, (all_best _).st⟩
 obtain ⟨s, q1, rfl⟩ := h1 x hx
 obtain ⟨a, b, c, d⟩ := shS_bnd g1 g2 s
 have e := areaF_bnd g1 g2 s
 exact ⟨a, b, c, d, e.1, e.2, s, q1, rfl⟩
def lsA (X : List Shp) : Nat → Int
 | 0 => -1
 | i + 1 => let v := (X[i]?.getD (0, 0)).1 * (X[i]?.getD (0, 0)).2; if lsA X i < 0 ∨ v < lsA X i then v else lsA X i
theorem lsA_is {X : List Shp} (hX : ∀ x ∈ X, 0 ≤ x.1 * x.2) : ∀ i, 1 ≤ i → i ≤ X.length → 0 ≤ lsA X i ∧ (∃ x ∈ X, lsA X i = x.1 * x.2) ∧ ∀ (j : Nat) x, j < i → X[j]? = some x → lsA X i ≤ x.1 * x.2
 | i + 1, _, hi => by
  obtain ⟨x, hx, hxm⟩ := get_of (show i < X.length by omega)
  have hx0 := hX x hxm
  have e : lsA X (i + 1) = if lsA X i < 0 ∨ x.1 * x.2 < lsA X i then x.1 * x.2 else lsA X i := by rw [lsA]; simp only [hx, Option.getD_some]
  rw [e]
  by_cases h0 : i = 0
  ·subst h0
   rw [if_pos (.inl (by rw [lsA]; omega))]
   refine ⟨hx0, ⟨x, hxm, rfl⟩, fun j y hj hy => ?_⟩
   obtain rfl : j = 0 := by omega
   rw [hx] at hy; cases hy; exact Int.le_refl _
  ·obtain ⟨k1, k2, k3⟩ := lsA_is hX i (by omega) (by omega)
   split
   ·rename_i c
    refine ⟨hx0, ⟨x, hxm, rfl⟩, fun j y hj hy => ?_⟩
    by_cases hji : j = i
    ·subst hji; rw [hx] at hy; cases hy; exact Int.le_refl _
    ·have := k3 j y (by omega) hy; omega
   ·rename_i c
    refine ⟨k1, k2, fun j y hj hy => ?_⟩
    by_cases hji : j = i
    ·subst hji; rw [hx] at hy; cases hy; omega
    ·exact k3 j y (by omega) hy
def tryV (p : List Txt) (ws ht : List Int) : Int := if givenI p ws ht then areaF p ws ht (bestS p ws ht) else 0
theorem shapeTry_pc (hs : Sm p) (hw : ws.length ≤ 1048576) (hh : ht.length ≤ 1048576) : PC Tryz.prog 48 [eStrs p, eInts ws, eInts ht] (.tup [.int .i64 (tryV p ws ht), .bool (givenI p ws ht)]) true := by
 unfold tryV
 cases hv : givenI p ws ht with
 | false => exact shapeTry_no (tried_no hs hw hh hv)
 | true =>
  have h := shapeTry_yes (X := X8 p ws ht) (tried_yes hs hw hh hv) (X8_rooms hv).2.1 (X8_rooms hv).2.2 (X8_bnd hv)
  rwa [X8_area hv] at h
theorem sTry_is : (if given8 p ws ht then areaF p ws ht (bestS p ws ht) else 0) = tryV p ws ht := by rw [given_eq]; rfl
theorem try_is (h : givenI p ws ht = true) : lsA (bestV p ws ht) (bestV p ws ht).length = tryV p ws ht := by
 obtain ⟨h1, -, h3, h4, -⟩ := bestV_facts h
 obtain ⟨k1, ⟨x, hx, kx⟩, k3⟩ := lsA_is (fun x hx => (h3 x hx).2.2.2.2.1) _ h1 (Nat.le_refl _)
 have e : tryV p ws ht = areaF p ws ht (bestS p ws ht) := by unfold tryV; rw [h, if_pos rfl]
 rw [e]
 have hp : 1 ≤ 2 ^ ws.length := Nat.one_le_two_pow
 have hb := bst_lt (f := areaF p ws ht) hp
 unfold bestS
 have mle := fun s (hs : s < 2 ^ ws.length) => bst_le (f := areaF p ws ht) hs
 generalize bst (areaF p ws ht) (2 ^ ws.length) = b at hb mle ⊢
 obtain ⟨g1, g2, -⟩ := givenI_ok h
 rw [← needs_is] at g1 g2
 have hbb := shS_bnd g1 g2 b
 obtain ⟨y, hy, y1, y2⟩ := h4 _ hb
 obtain ⟨j, hj, hjy⟩ := List.getElem_of_mem hy
 have hle := k3 j y hj (by rw [List.getElem?_eq_getElem hj, hjy])
 have hy3 := h3 y hy
 have m1 : y.1 * y.2 ≤ (shS p ws ht b).1 * (shS p ws ht b).2 := Int.mul_le_mul y1 y2 hy3.2.2.1 hbb.1
 obtain ⟨-, -, -, -, -, -, s, hs, rfl⟩ := h3 x hx
 have m2 := mle s hs
 have m4 : (shS p ws ht b).1 * (shS p ws ht b).2 = areaF p ws ht b := rfl
 have m3 : (shS p ws ht s).1 * (shS p ws ht s).2 = areaF p ws ht s := rfl
 omega
theorem try_sym : tryV p ht ws = tryV p ws ht := by
 cases h : givenI p ws ht with
 | false =>
  have e : ∀ {a b : List Int}, givenI p a b = false → tryV p a b = 0 := fun {a b} h => by unfold tryV; rw [h, if_neg Bool.false_ne_true]
  rw [e h, e (by rw [given_sym]; exact h)]
 | true =>
  have h2 : givenI p ht ws = true := by rw [given_sym]; exact h
  rw [← try_is h, ← try_is h2, best_sym]
theorem swp_0 {a b : List Int} : swp a b 0 = a := by
 apply List.ext_getElem?
 intro i
 by_cases hi : i < a.length
 ·unfold swp
  rw [List.getElem?_map, List.getElem?_range hi, Option.map_some, Nat.zero_testBit, if_neg (by simp)]
  simp [getI, hi]
 ·rw [List.getElem?_eq_none (by rw [swp_len]; omega), List.getElem?_eq_none (by omega)]
theorem try_area (h : givenI p ws ht = true) : tryV p ws ht ≤ areaOf p ws ht := by
 obtain ⟨g1, g2, -⟩ := givenI_ok h
 have e : tryV p ws ht = areaF p ws ht (bestS p ws ht) := by unfold tryV; rw [h, if_pos rfl]
 have hp : 1 ≤ 2 ^ ws.length := Nat.one_le_two_pow
 have m := bst_le (f := areaF p ws ht) (show 0 < 2 ^ ws.length by omega)
 rw [e]
 refine Int.le_trans m ?_
 rw [← needs_is] at g1 g2
 unfold areaF areaOf shS
 rw [g1, g2, swp_0, swp_0]
 exact Int.le_refl _
end
end

theorem lsA_succ {X : List Shp} {i : Nat} {x : Shp} (h : X[i]? = some x) : lsA X (i + 1) = if lsA X i < 0 ∨ x.1 * x.2 < lsA X i then x.1 * x.2 else lsA X i := by
 rw [lsA]; simp only [h, Option.getD_some]
theorem need2 {p : List Txt} {ws ht : List Int} (h : givenI p ws ht = true) : (needV p [ws] && needV p [ht]) = true := by
 obtain ⟨h1, h2, -⟩ := givenI_ok h; rw [h1, h2]; rfl
theorem shapeTry_law {code : Txt} (hcode : code.length ≤ 9223372036854775807) : PC Tryz.prog 11 [eBy code] (.bool true) true := by
 refine PC.of ⟨Tryz.func11, by kernel_rfl, rfl, by kernel_rfl⟩ tabOk mixed (by show 1 ≤ Tryz.f11.ntmps; decide) ?_
 refine W.seq_region fun K hK => ?_
 simp (disch := omega) only [↓RU, RV, RH, ↓reduceIte, reduceEqDiff, reduceCtorEq, if_pos, ↓RS, RG, reduceAdd, reduceMul, reduceLeDiff]
 refine hK _ _ ?_;clear hK K
 refine W.seq ?_
 refine W.seq_region fun K hK => ?_
 simp (disch := omega) only [↓RU, RV, RH, ↓reduceIte, reduceEqDiff, reduceCtorEq, if_pos, w64, ↓RS, RG, reduceAdd, reduceMul, reduceLeDiff, ty7, tyint, ty29]
 refine hK _ _ ?_;clear hK K
 refine W.cond rfl (fun h0 => ?_) (fun h0 => ?_)
 ·try simp only [RL] at h0
  refine W.seq_region fun K hK => ?_
  simp (disch := omega) only [↓RU, RV, RH, ↓reduceIte, reduceEqDiff, reduceCtorEq, if_pos, ↓RS, RG, reduceAdd, reduceMul, reduceLeDiff]
  refine hK _ _ ?_;clear hK K
  refine W.ret ?_
  refine XThen.ret ?_
  refine BodyQ.ret rfl ?_
  rfl
 ·try simp only [RL] at h0
  have hcl : code.length ≤ 1048576 := by omega
  refine W.skip ?_
  refine XThen.norm ?_
  refine W.seq_region fun K hK => ?_
  simp (disch := omega) only [↓RU, RV, RH, ↓reduceIte, reduceEqDiff, reduceCtorEq, if_pos, List.append_nil, ↓RS, RG, reduceAdd, reduceMul, reduceLeDiff]
  refine CallR.ev (drawShapeTry_ev hcl) ?_
  rintro _ _ ⟨p, ws, ht, t, hs, hwl, htl, rfl, rfl⟩
  simp (disch := omega) only [↓RU, RV, RH, ↓reduceIte, reduceEqDiff, reduceCtorEq, if_pos, List.append_nil, ↓RS, RG, reduceAdd, reduceMul, reduceLeDiff]
  refine hK _ _ ?_;clear hK K
  refine W.seq_region fun K hK => ?_
  simp (disch := omega) only [↓RU, RV, RH, ↓reduceIte, reduceEqDiff, reduceCtorEq, if_pos, List.append_nil, ↓RS, RG, reduceAdd, reduceMul, reduceLeDiff]
  refine CallR.pc (shapeTry_pc hs (by omega) (by omega)) rfl (.inl rfl) ?_
  simp (disch := omega) only [↓RU, RV, RH, ↓reduceIte, reduceEqDiff, reduceCtorEq, if_pos, List.append_nil, ↓RS, RG, reduceAdd, reduceMul, reduceLeDiff]
  refine hK _ _ ?_;clear hK K
  refine W.seq_region fun K hK => ?_
  simp (disch := omega) only [↓RU, RV, RH, ↓reduceIte, reduceEqDiff, reduceCtorEq, if_pos, List.append_nil, ↓RS, RG, reduceAdd, reduceMul, reduceLeDiff]
  refine CallR.pc (sShapeTry_pc hs (by omega) (by omega)) rfl (.inl rfl) ?_
  simp (disch := omega) only [↓RU, RV, RH, ↓reduceIte, reduceEqDiff, reduceCtorEq, if_pos, List.append_nil, ↓RS, RG, reduceAdd, reduceMul, reduceLeDiff]
  refine hK _ _ ?_;clear hK K
  rw [sTry_is, given_eq]
  refine W.seq ?_
  refine W.seq_region fun K hK => ?_
  cases hv : (givenI p ws ht)
  ·skip
   simp (disch := omega) only [↓RU, RV, RH, ↓reduceIte, reduceEqDiff, reduceCtorEq, if_pos, w64, ↓RS, RG, reduceAdd, reduceMul, reduceLeDiff, tybool, tyint, pEq_bb, Option.map_some, bne_self_eq_false, beq_self_eq_true, Bool.not_true, Bool.not_false, hv]
   refine hK _ _ ?_;clear hK K
   refine W.cond rfl (fun h1 => ?_) (fun h1 => ?_)
   ·try simp only [RL] at h1
    refine W.seq_region fun K hK => ?_
    simp (disch := omega) only [↓RU, RV, RH, ↓reduceIte, reduceEqDiff, reduceCtorEq, if_pos, w64, ↓RS, RG, reduceAdd, reduceMul, reduceLeDiff, tybool, tyint, pEq_bb, Option.map_some, bne_self_eq_false, beq_self_eq_true, Bool.not_true, Bool.not_false]
    refine hK _ _ ?_;clear hK K
    refine W.ret ?_
    refine XThen.ret ?_
    refine BodyQ.ret rfl ?_
    rfl
   ·try simp only [RL] at h1
    exact absurd h1 (by simp)
  ·skip
   simp (disch := omega) only [↓RU, RV, RH, ↓reduceIte, reduceEqDiff, reduceCtorEq, if_pos, w64, ↓RS, RG, reduceAdd, reduceMul, reduceLeDiff, tybool, tyint, pEq_bb, Option.map_some, bne_self_eq_false, beq_self_eq_true, Bool.not_true, Bool.not_false, hv]
   refine hK _ _ ?_;clear hK K
   refine W.cond rfl (fun h1 => ?_) (fun h1 => ?_)
   ·try simp only [RL] at h1
    exact absurd h1 (by simp)
   ·try simp only [RL] at h1
    obtain ⟨hX1, hX2, hX3, -, hXs⟩ := bestV_facts hv
    have hti := try_is hv
    have hts := try_sym (p := p) (ws := ws) (ht := ht)
    have hta := try_area hv
    rw [← area_same.1] at hta
    have hgs : givenI p ht ws = true := by rw [given_sym]; exact hv
    have hn2 := need2 hv
    refine W.skip ?_
    refine XThen.norm ?_
    refine W.seq_region fun K hK => ?_
    simp (disch := omega) only [↓RU, RV, RH, ↓reduceIte, reduceEqDiff, reduceCtorEq, if_pos, List.append_nil, ↓RS, RG, reduceAdd, reduceMul, reduceLeDiff, hv]
    refine CallR.pc (shapeAll_pc (ws := ws) (ht := ht) hs (by omega) (by omega)) rfl (.inr rfl) ?_
    simp (disch := omega) only [↓RU, RV, RH, ↓reduceIte, reduceEqDiff, reduceCtorEq, if_pos, List.append_nil, ↓RS, RG, reduceAdd, reduceMul, reduceLeDiff, hv]
    refine hK _ _ ?_;clear hK K
    refine W.seq_region fun K hK => ?_
    simp (disch := omega) only [↓RU, RV, RH, ↓reduceIte, reduceEqDiff, reduceCtorEq, if_pos, List.append_nil, ↓RS, RG, reduceAdd, reduceMul, reduceLeDiff, hn2]
    refine CallR.pc (sizeArea_pc hs (by omega) (by omega) all_rm all_up0 all_up1) rfl (.inl rfl) ?_
    simp (disch := omega) only [↓RU, RV, RH, ↓reduceIte, reduceEqDiff, reduceCtorEq, if_pos, List.append_nil, ↓RS, RG, reduceAdd, reduceMul, reduceLeDiff, hn2]
    refine hK _ _ ?_;clear hK K
    refine W.seq_region fun K hK => ?_
    simp (disch := omega) only [↓RU, RV, RH, ↓reduceIte, reduceEqDiff, reduceCtorEq, if_pos, List.append_nil, ↓RS, RG, reduceAdd, reduceMul, reduceLeDiff, hts, hgs]
    refine CallR.pc (shapeTry_pc (ws := ht) (ht := ws) hs (by omega) (by omega)) rfl (.inl rfl) ?_
    simp (disch := omega) only [↓RU, RV, RH, ↓reduceIte, reduceEqDiff, reduceCtorEq, if_pos, List.append_nil, ↓RS, RG, reduceAdd, reduceMul, reduceLeDiff, hts, hgs]
    refine hK _ _ ?_;clear hK K
    generalize hXe : (bestV p ws ht) = X at hX1 hX2 hX3 hXs hti ⊢
    generalize hTe : (tryV p ws ht) = T at hti hta ⊢
    have hrl := rowsOf_len (l := X)
    refine W.seq_region fun K hK => ?_
    simp (disch := omega) only [↓RU, RV, RH, ↓reduceIte, reduceEqDiff, reduceCtorEq, if_pos, ↓RS, RG, reduceAdd, reduceMul, reduceLeDiff]
    refine hK _ _ ?_;clear hK K
    refine W.seq ?_
    refine W.seq_region fun K hK => ?_
    simp (disch := omega) only [↓RU, RV, RH, ↓reduceIte, reduceEqDiff, reduceCtorEq, if_pos, ↓RS, RG, reduceAdd, reduceMul, reduceLeDiff]
    refine hK _ _ ?_;clear hK K
    refine W.block ?_
    refine W.loop [6, 10, 11, 12, 13, 14, 15, 16, 17] (fun n vs S => ∃ i tk : Nat, n = X.length - i ∧ i ≤ X.length ∧ vs = [.int .i64 T, eShps X, .bool true, .int .i64 (areaI p ws ht), .bool true, .int .i64 T, .bool true, .int .i64 (lsA X i), .int .i64 i] ∧ S = ⟨[], tk⟩) X.length ?_ ?_
    ·refine ⟨0, 0, t, rfl, Nat.zero_le _, ?_, rfl⟩
     simp [Env.put, Env.of, argEnv, lsA]
    rintro n vs S - ⟨i, tk, rfl, h_i, rfl, rfl⟩
    refine W.seq ?_
    refine W.seq_region fun K hK => ?_
    simp (disch := omega) only [↓RU, RV, RH, ↓reduceIte, reduceEqDiff, reduceCtorEq, if_pos, w64, ↓RS, RG, reduceAdd, reduceMul, reduceLeDiff, ty1, tyLint, tyint]
    refine hK _ _ ?_;clear hK K
    refine W.cond rfl (fun h2 => ?_) (fun h2 => ?_)
    ·try simp only [RL] at h2
     obtain ⟨x, hx, hxm⟩ := get_of (show i < X.length by omega)
     have hxr := rowsOf_at hx
     have hls := lsA_succ hx
     obtain ⟨-, -, -, -, e0, e1, -⟩ := hX3 x hxm
     refine W.skip ?_
     refine XThen.norm ?_
     refine W.seq ?_
     refine W.block ?_
     refine W.seq_draw (by kernel_rfl) fun K hK => ?_
     simp (disch := omega) only [↓RU, RV, RH, ↓reduceIte, reduceEqDiff, reduceCtorEq, if_pos, w64, ↓RS, RG, reduceAdd, reduceMul, reduceLeDiff, ty1, tyLint, tyint, Int.toNat_zero, Nat.zero_mul, Int.reduceToNat, reduceMul, Nat.zero_add, Nat.mul_one, hxr, hrl]
     refine hK _ _ ?_;clear hK K
     refine W.seq_region fun K hK => ?_
     rcases hd1 : decide (lsA X i < 0) with _ | _
     ·skip
      simp (disch := omega) only [↓RU, RV, RH, ↓reduceIte, reduceEqDiff, reduceCtorEq, if_pos, w64, ↓RS, RG, reduceAdd, reduceMul, reduceLeDiff, tyint, hd1]
      refine hK _ _ ?_;clear hK K
      refine W.cond rfl (fun h3 => ?_) (fun h3 => ?_)
      ·try simp only [RL] at h3
       have h4 : lsA X (i + 1) = x.1 * x.2 := by rw [hls, if_pos (.inr (by simpa using h3))]
       refine W.region_k fun K hK => ?_
       simp (disch := omega) only [↓RU, RV, RH, ↓reduceIte, reduceEqDiff, reduceCtorEq, if_pos, ↓RS, RG, reduceAdd, reduceMul, reduceLeDiff]
       refine hK _ _ ?_;clear hK K
       refine XBlock.norm ?_
       refine XThen.norm ?_
       refine W.region_k fun K hK => ?_
       simp (disch := omega) only [↓RU, RV, RH, ↓reduceIte, reduceEqDiff, reduceCtorEq, if_pos, w64, ↓RS, RG, reduceAdd, reduceMul, reduceLeDiff, tyint]
       refine hK _ _ ?_;clear hK K
       refine XThen.norm ?_
       refine ⟨X.length - (i + 1), by omega, 0, i + 1, tk, rfl, by omega, ?_, rfl⟩
       simp [Env.put, Env.of, h4]
      ·try simp only [RL] at h3
       have h4 : lsA X (i + 1) = lsA X i := by rw [hls, if_neg (by intro q; rcases q with q | q; exact absurd hd1 (by simp; omega); exact h3 (by simpa using q))]
       refine W.skip ?_
       refine XBlock.norm ?_
       refine XThen.norm ?_
       refine W.region_k fun K hK => ?_
       simp (disch := omega) only [↓RU, RV, RH, ↓reduceIte, reduceEqDiff, reduceCtorEq, if_pos, w64, ↓RS, RG, reduceAdd, reduceMul, reduceLeDiff, tyint]
       refine hK _ _ ?_;clear hK K
       refine XThen.norm ?_
       refine ⟨X.length - (i + 1), by omega, 0, i + 1, tk, rfl, by omega, ?_, rfl⟩
       simp [Env.put, Env.of, h4]
     ·skip
      simp (disch := omega) only [↓RU, RV, RH, ↓reduceIte, reduceEqDiff, reduceCtorEq, if_pos, w64, ↓RS, RG, reduceAdd, reduceMul, reduceLeDiff, tyint, hd1]
      refine hK _ _ ?_;clear hK K
      refine W.cond rfl (fun h3 => ?_) (fun h3 => ?_)
      ·try simp only [RL] at h3
       have h4 : lsA X (i + 1) = x.1 * x.2 := by rw [hls, if_pos (.inl (by simpa using hd1))]
       refine W.region_k fun K hK => ?_
       simp (disch := omega) only [↓RU, RV, RH, ↓reduceIte, reduceEqDiff, reduceCtorEq, if_pos, ↓RS, RG, reduceAdd, reduceMul, reduceLeDiff]
       refine hK _ _ ?_;clear hK K
       refine XBlock.norm ?_
       refine XThen.norm ?_
       refine W.region_k fun K hK => ?_
       simp (disch := omega) only [↓RU, RV, RH, ↓reduceIte, reduceEqDiff, reduceCtorEq, if_pos, w64, ↓RS, RG, reduceAdd, reduceMul, reduceLeDiff, tyint]
       refine hK _ _ ?_;clear hK K
       refine XThen.norm ?_
       refine ⟨X.length - (i + 1), by omega, 0, i + 1, tk, rfl, by omega, ?_, rfl⟩
       simp [Env.put, Env.of, h4]
      ·try simp only [RL] at h3
       exact absurd h3 (by simp)
    ·try simp only [RL] at h2
     obtain rfl : i = X.length := by omega
     rw [hti]
     refine W.exit ?_
     refine XThen.exit ?_
     refine XThen.exit ?_
     refine XBlock.hit ?_
     refine XThen.norm ?_
     refine W.seq_region fun K hK => ?_
     have k1 : decide (T ≤ areaI p ws ht) = true := decide_eq_true hta
     simp (disch := omega) only [↓RU, RV, RH, ↓reduceIte, reduceEqDiff, reduceCtorEq, if_pos, w64, ↓RS, RG, reduceAdd, reduceMul, reduceLeDiff, tyint, k1, beq_self_eq_true]
     refine hK _ _ ?_;clear hK K
     refine W.ret ?_
     refine BodyQ.ret rfl ?_
     rfl
end Fw
end Go.Proofs.YtclmfemhboogpaaGreat
namespace Go.Proofs.YtclmfemhboogpaaGreat
open Go Go.ChangeShapes Go.WideShapes Go.ChangeAt Go.RowKit Fw
theorem Tryz.ownRmf : ownKnob Tryz.prog.godebug = none := by kernel_rfl
theorem Tryz.laidOutRmf : laidOutB Tryz.prog = true := by kernel_rfl
set_option maxRecDepth 100000 in
theorem rmf_lifted (os : Os) (started : os.Started) (H : Type) (enc : TypeId × Value → H) :
  ReturnsInHanded {} Tryz.checked os 11 .any (Rows.fnShapeTrySpec.pre6 enc Tryz.prog Tryz.f11 Rows.fnShapeTryRow.domain false) (Rows.fnShapeTrySpec.post enc Tryz.prog Tryz.f11 false true false false) := by
 refine returnsInHanded_of_change (C := Tryz.checked) Tryz.ownRmf started (by kernel_rfl) Tryz.func11
  (ChangeSpec.witness6 (enc := enc) (C := Tryz.checked) false ⟨#[], #[.slice none 0 0], []⟩ 8 (by kernel_rfl) (by kernel_rfl) (by kernel_rfl) (by kernel_rfl)) ?_
 intro W base args ds gs before hval0 hW hcnd _
 have hval : ∀ (j : Nat) t v, Tryz.f11.params[j]? = some t → args[j]? = some v → Value.okWide Tryz.prog W .any base t v := hval0
 have hW' := hW
 obtain ⟨p, q, hA0, hV, rfl, hfz, hnd⟩ := hW
 have hA : DataW.TrodAll enc Tryz.prog W 0 (fun _ => true) true Tryz.f11.params.toList args.toList ds p := hA0
 rw [Tryz.params11] at hA hval
 obtain ⟨v0, d0, rfl, rfl, h0⟩ := trodAll_one hA
 obtain ⟨rfl, rfl⟩ := trodVars_none hV
 obtain ⟨l0, i0, b0⟩ := vi_bytes (hval 0 _ v0 rfl rfl) h0
 have hlt : ∀ x ∈ p, x.block < W.heap.size := fun x hx => hW'.lt x (by simp [hx])
 refine ((shapeTry_law b0).run (fun b => b < W.heap.size) W #[v0] (fun _ h => h) rfl ?_).mono ?_
 ·rintro (_ | i) p c hp hc
  ·cases hp; cases hc; exact i0
  ·simp at hp
 ·rintro e W' ⟨cv, rfl, ⟨hB, _⟩, hr⟩
  have hcv : cv = .bool true := by cases hr; rfl
  subst hcv
  have t0 := Below.trod Tryz.laidOutRmf (by kernel_rfl) (of_decide_eq_true (by kernel_rfl)) h0 hB fun x hx => hlt x (by simp [hx])
  refine ⟨_, rfl, _, _, _, [], p, [], hW', ?_, ?_, ?_, hB.frame _, fun h => by cases h⟩
  ·exact trodAll_mk1 (shut_bool Tryz.underlying4 true)
  ·rw [Tryz.params11]; exact trodAll_mk1 t0
  ·trivial
theorem rmf_holds : Rows.FnShapeTrySaid :=
 OpenClaim.holds_of_wide 11 Tryz.f11 rfl rfl rfl rfl rfl rfl rfl ⟨rfl, rfl, rfl, rfl, rfl⟩ rfl rfl rfl rfl rfl (by kernel_rfl) Tryz.func11 (by kernel_rfl)
  (of_decide_eq_true (by kernel_rfl)) (by unfold Func.isWrapper; first | (rw [if_pos (by decide +kernel)]; kernel_rfl) | (rw [if_neg (by decide +kernel)]; exact ⟨rfl, rfl⟩))
  (fun os started H enc _ => rmf_lifted os started H enc)
end Go.Proofs.YtclmfemhboogpaaGreat
