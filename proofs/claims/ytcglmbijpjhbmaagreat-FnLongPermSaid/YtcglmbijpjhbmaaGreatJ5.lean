/- Parts of the framework and of the proof: Sizes, gone through; the small functions of the statements; Heaviest sums, gone through; Where rooms begin and how far they may be moved: the program's lists are the specification's; Marks, gone through; Places and slack by the specification, gone through; Shapes in plain words: the program's least shapes are the specification's; A relation the other way round, place by place; Places and slack by the program, gone through; Rooms in order by the program, gone through; The first and the second order, gone through; The orders by the specification, gone through; The two orders are orders of all rooms; the places of the second order in the first one; The framework, part z: a region in which the bytes of a text become a new row that is written later; Drawing: the reader, gone through; Plans cut in two, gone through; Drawing plans, gone through; Drawing plans, gone through, continued; Drawing needs, gone through; Areas, gone through; Sizes in plain words: areas, places, slacks, longest rows; What the laws of sizes ask, of plans in plain words; The law of areas, gone through; The laws of left and above, gone through; The law of places, gone through; Permutations by the program and by the specification, gone through; Permutations of plans, gone through; Longest rows of rooms, as the specification finds them, in plain words; Longest rows, gone through; The orders and permutations: the exported functions, gone through; Longest growing parts of the permutation of a plan are longest rows of its rooms. -/
import Derived.Test.YtcglmbijpjhbmaaGreatJ2
import Derived.Test.YtcglmbijpjhbmaaGreatJ3
import Derived.Test.YtcglmbijpjhbmaaGreatJ4
import Derived.Test.YtcglmbijpjhbmaaGreatJ1
import Derived.Lib.ConvBytes
set_option linter.all false
namespace Go.Proofs.YtcglmbijpjhbmaaGreat
namespace Fw
open Go
open Nat (reduceEqDiff reduceLeDiff reduceAdd reduceMul)

theorem heavy1_ev {M : List (List Bool)} {ws out : List Int} {nr : Nat} {rk : Nat → Nat} (hu : Up M nr rk) (hn : nr ≤ 9) (hwl : ws.length = nr) (hw : NeedOk ws) {b : Nat} (hb : b < nr) (hmo : Memo M ws nr out)
  (ih : ∀ a, a < nr → rk a < rk b → ∀ out0, Memo M ws nr out0 → Ev Tryz.prog 108 [.int .i64 (a : Nat), .ref 3 3 0, .ref 0 0 0, .ref 4 4 0, .ref 1 1 0] ⟨[.arr 0 59 1 [eRel M], .arr 1 24 1 [eInts ws], .arr 2 3 1 ((out0).map (.int .i64)), .arr 3 24 1 [.loc 2 2 0 nr], .arr 4 104 1 [.fn 108 [.ref 3 3 0, .ref 0 0 0, .ref 4 4 0, .ref 1 1 0]]], 5⟩ (fun v S => v = .int .i64 (HB M ws nr a) ∧ ∃ out2, Memo M ws nr out2 ∧ Keep out0 out2 ∧ out2[a]? = some (HB M ws nr a) ∧ S = ⟨[.arr 0 59 1 [eRel M], .arr 1 24 1 [eInts ws], .arr 2 3 1 ((out2).map (.int .i64)), .arr 3 24 1 [.loc 2 2 0 nr], .arr 4 104 1 [.fn 108 [.ref 3 3 0, .ref 0 0 0, .ref 4 4 0, .ref 1 1 0]]], 5⟩)) : Ev Tryz.prog 108 [.int .i64 (b : Nat), .ref 3 3 0, .ref 0 0 0, .ref 4 4 0, .ref 1 1 0] ⟨[.arr 0 59 1 [eRel M], .arr 1 24 1 [eInts ws], .arr 2 3 1 ((out).map (.int .i64)), .arr 3 24 1 [.loc 2 2 0 nr], .arr 4 104 1 [.fn 108 [.ref 3 3 0, .ref 0 0 0, .ref 4 4 0, .ref 1 1 0]]], 5⟩ fun v S => v = .int .i64 (HB M ws nr b) ∧ ∃ out2, Memo M ws nr out2 ∧ Keep out out2 ∧ out2[b]? = some (HB M ws nr b) ∧ S = ⟨[.arr 0 59 1 [eRel M], .arr 1 24 1 [eInts ws], .arr 2 3 1 ((out2).map (.int .i64)), .arr 3 24 1 [.loc 2 2 0 nr], .arr 4 104 1 [.fn 108 [.ref 3 3 0, .ref 0 0 0, .ref 4 4 0, .ref 1 1 0]]], 5⟩ := by
 obtain ⟨x0, hx0, hx0c⟩ := hmo.at_ hb
 have hml := hmo.1
 have hsq := hu.sq.1
 have hHb := HB_bound (M := M) (n := nr) hw b
 have hHp := HB_pos (M := M) (n := nr) hw (b := b) (by omega)
 have hHe := HB_eq (ws := ws) hu hb
 obtain ⟨wb, hwb, hwbm⟩ := get_of (show b < ws.length by omega)
 have hwb1 := hw wb hwbm
 rw [getI_is hwb] at hHe
 refine Ev.of ⟨Tryz.func108, by kernel_rfl, rfl, by kernel_rfl⟩ tabOk mixed (by show 5 ≤ Tryz.f108.ntmps; decide) ?_
 refine W.seq_region fun K hK => ?_
 simp (disch := omega) only [↓RU, RV, RH, ↓reduceIte, reduceEqDiff, reduceCtorEq, if_pos, ↓RS, RG, reduceAdd, reduceMul, reduceLeDiff]
 refine hK _ _ ?_;clear hK K
 refine W.seq ?_
 refine W.seq_region fun K hK => ?_
 simp (disch := omega) only [↓RU, RV, RH, ↓reduceIte, reduceEqDiff, reduceCtorEq, if_pos, w64, ↓RS, RG, reduceAdd, reduceMul, reduceLeDiff, tyLint, tyint, hx0]
 refine hK _ _ ?_;clear hK K
 refine W.cond rfl (fun h0 => ?_) (fun h0 => ?_)
 ·try simp only [RL] at h0
  subst h0
  refine W.seq_region fun K hK => ?_
  simp (disch := omega) only [↓RU, RV, RH, ↓reduceIte, reduceEqDiff, reduceCtorEq, if_pos, ↓RS, RG, reduceAdd, reduceMul, reduceLeDiff]
  refine hK _ _ ?_;clear hK K
  refine W.seq ?_
  refine W.seq_region fun K hK => ?_
  simp (disch := omega) only [↓RU, RV, RH, ↓reduceIte, reduceEqDiff, reduceCtorEq, if_pos, ↓RS, RG, reduceAdd, reduceMul, reduceLeDiff, ty0, ty2, tybool, ty15, hsq]
  refine hK _ _ ?_;clear hK K
  refine W.block ?_
  refine W.loop [0, 1, 2, 3, 4, 7, 15, 16] (fun n vs S => ∃ (a : Nat) (out1 : List Int), n = nr - a ∧ a ≤ nr ∧ Memo M ws nr out1 ∧ Keep out out1 ∧ vs = [.int .i64 (b : Nat), .ref 3 3 0, .ref 0 0 0, .ref 4 4 0, .ref 1 1 0, .int .i64 (hvF M (HB M ws nr) b a), .int .i64 nr, .int .i64 a] ∧ S = ⟨[.arr 0 59 1 [eRel M], .arr 1 24 1 [eInts ws], .arr 2 3 1 ((out1).map (.int .i64)), .arr 3 24 1 [.loc 2 2 0 nr], .arr 4 104 1 [.fn 108 [.ref 3 3 0, .ref 0 0 0, .ref 4 4 0, .ref 1 1 0]]], 5⟩) nr ?_ ?_
  ·refine ⟨5, 0, out, rfl, by omega, hmo, Keep.refl _, ?_, rfl⟩
   simp [Env.put, Env.of, argEnv, hvF, hsq]
  rintro n vs S - ⟨a, out1, rfl, h_a, hm1, hk1, rfl, rfl⟩
  refine W.seq_region fun K hK => ?_
  simp (disch := omega) only [↓RU, RV, RH, ↓reduceIte, reduceEqDiff, reduceCtorEq, if_pos, w64, ↓RS, RG, reduceAdd, reduceMul, reduceLeDiff, tyint]
  refine hK _ _ ?_;clear hK K
  refine W.seq ?_
  refine W.cond rfl (fun h1 => ?_) (fun h1 => ?_)
  ·try simp only [RL] at h1
   have hal : a < nr := by omega
   have hF := hvF_bound (M := M) (g := HB M ws nr) (b := b) (B := 909) (by omega) (i := a) fun a _ _ => (HB_bound hw a).2
   have hHa := HB_bound (M := M) (n := nr) hw a
   obtain ⟨row, hrow, hrl, hrb⟩ := hu.sq.at_ hal hb
   refine W.skip ?_
   refine XThen.norm ?_
   refine W.seq ?_
   refine W.block ?_
   refine W.seq_region fun K hK => ?_
   simp (disch := omega) only [↓RU, RV, RH, ↓reduceIte, reduceEqDiff, reduceCtorEq, if_pos, ↓RS, RG, reduceAdd, reduceMul, reduceLeDiff]
   refine hK _ _ ?_;clear hK K
   refine W.seq_region fun K hK => ?_
   simp (disch := omega) only [↓RU, RV, RH, ↓reduceIte, reduceEqDiff, reduceCtorEq, if_pos, ↓RS, RG, reduceAdd, reduceMul, reduceLeDiff, ty0, ty2, tybool, ty15, hrow, hrb, hrl]
   refine hK _ _ ?_;clear hK K
   refine W.cond rfl (fun h2 => ?_) (fun h2 => ?_)
   ·try simp only [RL] at h2
    have hrk := hu.up a b hal hb h2
    refine W.region_k fun K hK => ?_
    simp (disch := omega) only [↓RU, RV, RH, ↓reduceIte, reduceEqDiff, reduceCtorEq, if_pos, List.append_nil, ite_max, ↓RS, RG, reduceAdd, reduceMul, reduceLeDiff, ty9, tyint]
    refine CallR.ev (ih a hal hrk out1 hm1) ?_
    rintro _ _ ⟨rfl, out2, hm2, hk2, ho2, rfl⟩
    simp (disch := omega) only [↓RU, RV, RH, ↓reduceIte, reduceEqDiff, reduceCtorEq, if_pos, List.append_nil, ite_max, ↓RS, RG, reduceAdd, reduceMul, reduceLeDiff, ty9, tyint]
    refine hK _ _ ?_;clear hK K
    refine XBlock.norm ?_
    refine XThen.norm ?_
    refine W.region_k fun K hK => ?_
    simp (disch := omega) only [↓RU, RV, RH, ↓reduceIte, reduceEqDiff, reduceCtorEq, if_pos, w64, ↓RS, RG, reduceAdd, reduceMul, reduceLeDiff, tyint]
    refine hK _ _ ?_;clear hK K
    refine XThen.norm ?_
    refine ⟨nr - (a + 1), by omega, 5, a + 1, out2, rfl, by omega, hm2, hk1.trans hk2, ?_, rfl⟩
    simp [Env.put, Env.of, hvF_succ, h2]
   ·try simp only [RL] at h2
    refine W.skip ?_
    refine XBlock.norm ?_
    refine XThen.norm ?_
    refine W.region_k fun K hK => ?_
    simp (disch := omega) only [↓RU, RV, RH, ↓reduceIte, reduceEqDiff, reduceCtorEq, if_pos, w64, ↓RS, RG, reduceAdd, reduceMul, reduceLeDiff, tyint]
    refine hK _ _ ?_;clear hK K
    refine XThen.norm ?_
    refine ⟨nr - (a + 1), by omega, 5, a + 1, out1, rfl, by omega, hm1, hk1, ?_, rfl⟩
    simp [Env.put, Env.of, hvF_succ, h2]
  ·try simp only [RL] at h1
   obtain rfl : nr = a := by omega
   have hF := hvF_bound (M := M) (g := HB M ws nr) (b := b) (B := 909) (by omega) (i := nr) fun a _ _ => (HB_bound hw a).2
   have hm1l := hm1.1
   have hset : (out1.set b (HB M ws nr b))[b]? = some (HB M ws nr b) := by rw [List.getElem?_set, if_pos rfl, if_pos (by omega)]
   refine W.exit ?_
   refine XThen.exit ?_
   refine XThen.exit ?_
   refine XBlock.hit ?_
   refine XThen.norm ?_
   refine W.draw_k (by kernel_rfl) fun K hK => ?_
   simp (disch := omega) only [↓RU, RV, RH, ↓reduceIte, reduceEqDiff, reduceCtorEq, if_pos, w64, ↓RS, RG, reduceAdd, reduceMul, reduceLeDiff, tyLint, tyint, hwb, hm1l, set_spl, set_int, ← hHe]
   refine hK _ _ ?_;clear hK K
   refine XThen.norm ?_
   refine W.seq_region fun K hK => ?_
   simp (disch := omega) only [↓RU, RV, RH, ↓reduceIte, reduceEqDiff, reduceCtorEq, if_pos, ↓RS, RG, reduceAdd, reduceMul, reduceLeDiff, tyLint, tyint, hset]
   refine hK _ _ ?_;clear hK K
   refine W.ret ?_
   refine BodyQ.ret rfl ?_
   exact ⟨5, rfl, _, hm1.set, hk1.trans hm1.keep, hset, rfl⟩
 ·try simp only [RL] at h0
  obtain rfl := hx0c.resolve_left h0
  have hset := hx0
  refine W.skip ?_
  refine XThen.norm ?_
  refine W.seq_region fun K hK => ?_
  simp (disch := omega) only [↓RU, RV, RH, ↓reduceIte, reduceEqDiff, reduceCtorEq, if_pos, ↓RS, RG, reduceAdd, reduceMul, reduceLeDiff, tyLint, tyint, hset]
  refine hK _ _ ?_;clear hK K
  refine W.ret ?_
  refine BodyQ.ret rfl ?_
  exact ⟨5, rfl, _, hmo, Keep.refl _, hx0, rfl⟩
theorem heavy_ev {M : List (List Bool)} {ws : List Int} {nr : Nat} {rk : Nat → Nat} (hu : Up M nr rk) (hn : nr ≤ 9) (hwl : ws.length = nr) (hw : NeedOk ws) : ∀ (k b : Nat), rk b < k → b < nr → ∀ out, Memo M ws nr out → Ev Tryz.prog 108 [.int .i64 (b : Nat), .ref 3 3 0, .ref 0 0 0, .ref 4 4 0, .ref 1 1 0] ⟨[.arr 0 59 1 [eRel M], .arr 1 24 1 [eInts ws], .arr 2 3 1 ((out).map (.int .i64)), .arr 3 24 1 [.loc 2 2 0 nr], .arr 4 104 1 [.fn 108 [.ref 3 3 0, .ref 0 0 0, .ref 4 4 0, .ref 1 1 0]]], 5⟩ (fun v S => v = .int .i64 (HB M ws nr b) ∧ ∃ out2, Memo M ws nr out2 ∧ Keep out out2 ∧ out2[b]? = some (HB M ws nr b) ∧ S = ⟨[.arr 0 59 1 [eRel M], .arr 1 24 1 [eInts ws], .arr 2 3 1 ((out2).map (.int .i64)), .arr 3 24 1 [.loc 2 2 0 nr], .arr 4 104 1 [.fn 108 [.ref 3 3 0, .ref 0 0 0, .ref 4 4 0, .ref 1 1 0]]], 5⟩)
 | 0, b, h, _, _, _ => by omega
 | k + 1, b, h, hb, out, hm => heavy1_ev hu hn hwl hw hb hm fun a ha hr out0 h0 => heavy_ev hu hn hwl hw k a (by omega) ha out0 h0
theorem heaviest_pn {M : List (List Bool)} {ws : List Int} {nr : Nat} {rk : Nat → Nat} (hu : Up M nr rk) (hn : nr ≤ 9) (hwl : ws.length = nr) (hw : NeedOk ws) : PN Tryz.prog 67 [eRel M, eInts ws] (.loc 0 0 0 nr) [.arr 0 3 1 ((heaviest M ws nr).map (.int .i64))] false := by
 have hsq := hu.sq.1
 refine PN.of ⟨Tryz.func67, by kernel_rfl, rfl, by kernel_rfl⟩ tabOk mixed (by show 2 ≤ Tryz.f67.ntmps; decide) ?_
 refine W.seq_region fun K hK => ?_
 simp (disch := omega) only [↓RU, RV, RH, ↓reduceIte, reduceEqDiff, reduceCtorEq, if_pos, ↓RS, RG, reduceAdd, reduceMul, reduceLeDiff, ty0, ty2, tyLint, tybool, ty15, tyint]
 refine hK _ _ ?_;clear hK K
 refine W.seq_region fun K hK => ?_
 simp (disch := omega) only [↓RU, RV, RH, ↓reduceIte, reduceEqDiff, reduceCtorEq, if_pos, ↓RS, RG, reduceAdd, reduceMul, reduceLeDiff, ty0, ty2, tyLint, tybool, ty15, tyint, hsq, repz_int, ile_true]
 refine hK _ _ ?_;clear hK K
 refine W.seq_region fun K hK => ?_
 simp (disch := omega) only [↓RU, RV, RH, ↓reduceIte, reduceEqDiff, reduceCtorEq, if_pos, ↓RS, RG, reduceAdd, reduceMul, reduceLeDiff, ty9]
 refine hK _ _ ?_;clear hK K
 refine W.seq_region fun K hK => ?_
 simp (disch := omega) only [↓RU, RV, RH, ↓reduceIte, reduceEqDiff, reduceCtorEq, if_pos, ↓RS, RG, reduceAdd, reduceMul, reduceLeDiff, ty9, cells_fn, ic_fn]
 refine hK _ _ ?_;clear hK K
 refine W.seq ?_
 refine W.seq_region fun K hK => ?_
 simp (disch := omega) only [↓RU, RV, RH, ↓reduceIte, reduceEqDiff, reduceCtorEq, if_pos, ↓RS, RG, reduceAdd, reduceMul, reduceLeDiff, ty0, ty2, tybool, ty15, hsq]
 refine hK _ _ ?_;clear hK K
 refine W.block ?_
 refine W.loop [5, 6, 13, 14] (fun n vs S => ∃ (b : Nat) (out : List Int), n = nr - b ∧ b ≤ nr ∧ Memo M ws nr out ∧ (∀ c, c < b → out[c]? = some (HB M ws nr c)) ∧ vs = [.ref 3 3 0, .ref 4 4 0, .int .i64 nr, .int .i64 b] ∧ S = ⟨[.arr 0 59 1 [eRel M], .arr 1 24 1 [eInts ws], .arr 2 3 1 ((out).map (.int .i64)), .arr 3 24 1 [.loc 2 2 0 nr], .arr 4 104 1 [.fn 108 [.ref 3 3 0, .ref 0 0 0, .ref 4 4 0, .ref 1 1 0]]], 5⟩) nr ?_ ?_
 ·refine ⟨5, 0, List.replicate nr 0, rfl, by omega, memo_zero, fun c h => absurd h (by omega), ?_, ?_⟩
  ·simp [Env.put, Env.of, argEnv, hsq]
  ·simp [take_eq, spl, hsq]
 rintro n vs S - ⟨b, out, rfl, h_b, hm, hdone, rfl, rfl⟩
 refine W.seq_region fun K hK => ?_
 simp (disch := omega) only [↓RU, RV, RH, ↓reduceIte, reduceEqDiff, reduceCtorEq, if_pos, w64, ↓RS, RG, reduceAdd, reduceMul, reduceLeDiff, tyint]
 refine hK _ _ ?_;clear hK K
 refine W.seq ?_
 refine W.cond rfl (fun h => ?_) (fun h => ?_)
 ·try simp only [RL] at h
  have hbn : b < nr := by omega
  refine W.skip ?_
  refine XThen.norm ?_
  refine W.seq ?_
  refine W.block ?_
  refine W.seq_region fun K hK => ?_
  simp (disch := omega) only [↓RU, RV, RH, ↓reduceIte, reduceEqDiff, reduceCtorEq, if_pos, ↓RS, RG, reduceAdd, reduceMul, reduceLeDiff]
  refine hK _ _ ?_;clear hK K
  refine W.region_k fun K hK => ?_
  simp (disch := omega) only [↓RU, RV, RH, ↓reduceIte, reduceEqDiff, reduceCtorEq, if_pos, List.append_nil, ↓RS, RG, reduceAdd, reduceMul, reduceLeDiff, ty9]
  refine CallR.ev (heavy_ev hu hn hwl hw (rk b + 1) b (by omega) hbn out hm) ?_
  rintro _ _ ⟨rfl, out2, hm2, hk2, ho2, rfl⟩
  simp (disch := omega) only [↓RU, RV, RH, ↓reduceIte, reduceEqDiff, reduceCtorEq, if_pos, List.append_nil, ↓RS, RG, reduceAdd, reduceMul, reduceLeDiff, ty9]
  refine hK _ _ ?_;clear hK K
  refine XBlock.norm ?_
  refine XThen.norm ?_
  refine W.region_k fun K hK => ?_
  simp (disch := omega) only [↓RU, RV, RH, ↓reduceIte, reduceEqDiff, reduceCtorEq, if_pos, w64, ↓RS, RG, reduceAdd, reduceMul, reduceLeDiff, tyint]
  refine hK _ _ ?_;clear hK K
  refine XThen.norm ?_
  refine ⟨nr - (b + 1), by omega, 5, b + 1, out2, rfl, by omega, hm2, ?_, ?_, rfl⟩
  ·intro c hc
   by_cases e : c = b
   ·subst e; exact ho2
   ·have h1 := hdone c (by omega)
    exact hk2 c _ h1 (by have := HB_pos (M := M) (n := nr) hw (b := c) (by omega); omega)
  ·simp [Env.put, Env.of]
 ·try simp only [RL] at h
  obtain rfl : nr = b := by omega
  obtain rfl := memo_all hm hdone
  refine W.exit ?_
  refine XThen.exit ?_
  refine XThen.exit ?_
  refine XBlock.hit ?_
  refine XThen.norm ?_
  refine W.joinS [4] (fun vs S => ∃ v t : Nat, vs = [.loc 0 v 0 nr] ∧ S = ⟨[.arr v 3 1 ((heaviest M ws nr).map (.int .i64))], t⟩) ?_ ?_
  ·
   refine W.region_k fun K hK => ?_
   simp (disch := omega) only [↓RU, RV, RH, ↓reduceIte, reduceEqDiff, reduceCtorEq, if_pos, ↓RS, RG, reduceAdd, reduceMul, reduceLeDiff, tyLint, tyint]
   refine hK _ _ ?_;clear hK K
   refine XThen.norm ?_
   refine ⟨0, [2], [.loc 0 5 0 nr], ⟨[.arr 5 3 1 ((heaviest M ws nr).map (.int .i64))], 6⟩, ?_, ?_, 5, 6, rfl, rfl⟩
   ·simp [-List.mapM_map, Env.put, Env.of, argEnv, Srn_eq, rnObs_cons, rnObs_nil, rnOb_arr, rnOb_map, rn_loc, rn_ref, rn_mp, rn_int, rn_bool, rn_str, rn_ip, rn_sl, rn_nils, rn_nilp, rn_undef, rn_agg, rn_tup, rn_fn, rfq_loc, rfq_int, rfq_bool, rfq_str, rfq_sl, frOf, List.range_succ, List.mapM_append, List.mapM_cons]
   ·simp [-List.mapM_map, Env.put, Env.of, argEnv, Srn_eq, rnObs_cons, rnObs_nil, rnOb_arr, rnOb_map, rn_loc, rn_ref, rn_mp, rn_int, rn_bool, rn_str, rn_ip, rn_sl, rn_nils, rn_nilp, rn_undef, rn_agg, rn_tup, rn_fn, rfq_loc, rfq_int, rfq_bool, rfq_str, rfq_sl, frOf, List.range_succ, List.mapM_append, List.mapM_cons, rn_ints]
  rintro vs S - ⟨v, t, rfl, rfl⟩
  refine W.ret ?_
  refine BodyQ.ret rfl ?_
  exact sh_one rfl (sh_ints _)
theorem max_pc {l : List Int} {x0 : Int} (h0 : l[0]? = some x0) (hl : l.length < 2147483648) : PC Tryz.prog 65 [eInts l] (.int .i64 (maxL l)) true := by
 have hl0 := len_of h0
 refine PC.of ⟨Tryz.func65, by kernel_rfl, rfl, by kernel_rfl⟩ tabOk mixed (by show 1 ≤ Tryz.f65.ntmps; decide) ?_
 refine W.seq_region fun K hK => ?_
 simp (disch := omega) only [↓RU, RV, RH, ↓reduceIte, reduceEqDiff, reduceCtorEq, if_pos]
 refine hK _ _ ?_;clear hK K
 refine W.seq ?_
 refine W.seq_region fun K hK => ?_
 simp (disch := omega) only [↓RU, RV, RH, ↓reduceIte, reduceEqDiff, reduceCtorEq, if_pos, w64, tyLint, tyint]
 refine hK _ _ ?_;clear hK K
 refine W.cond rfl (fun h => ?_) (fun h => ?_)
 ·try simp only [RL] at h
  exfalso; omega
 ·try simp only [RL] at h
  refine W.skip ?_
  refine XThen.norm ?_
  refine W.seq_region fun K hK => ?_
  simp (disch := omega) only [↓RU, RV, RH, ↓reduceIte, reduceEqDiff, reduceCtorEq, if_pos, tyLint, tyint, h0, Int.toNat_zero, Nat.zero_mul, Int.reduceToNat]
  refine hK _ _ ?_;clear hK K
  refine W.seq ?_
  refine W.seq_region fun K hK => ?_
  simp (disch := omega) only [↓RU, RV, RH, ↓reduceIte, reduceEqDiff, reduceCtorEq, if_pos]
  refine hK _ _ ?_;clear hK K
  refine W.block ?_
  refine W.loop [0, 3, 4] (fun n vs S => ∃ i : Nat, n = l.length - i ∧ i ≤ l.length ∧ (1 ≤ i) ∧ vs = [eInts l, .int .i64 (((l.take i).drop 1).foldl max x0), .int .i64 i] ∧ S = ⟨[], 0⟩) (l.length - 1) ?_ ?_
  ·refine ⟨0, 1, rfl, by omega, Nat.le_refl _, ?_, rfl⟩
   simp [Env.put, Env.of, argEnv, maxL_start]
  rintro n vs S - ⟨i, rfl, h_i, h1i, rfl, rfl⟩
  refine W.seq ?_
  refine W.seq_region fun K hK => ?_
  simp (disch := omega) only [↓RU, RV, RH, ↓reduceIte, reduceEqDiff, reduceCtorEq, if_pos, w64, tyLint, tyint]
  refine hK _ _ ?_;clear hK K
  refine W.cond rfl (fun h1 => ?_) (fun h1 => ?_)
  ·try simp only [RL] at h1
   obtain ⟨x, hx, -⟩ := get_of (show i < l.length by omega)
   refine W.skip ?_
   refine XThen.norm ?_
   refine W.seq ?_
   refine W.block ?_
   refine W.region_k fun K hK => ?_
   simp (disch := omega) only [↓RU, RV, RH, ↓reduceIte, reduceEqDiff, reduceCtorEq, if_pos, ite_max, tyLint, tyint, hx]
   refine hK _ _ ?_;clear hK K
   refine XBlock.norm ?_
   refine XThen.norm ?_
   refine W.region_k fun K hK => ?_
   simp (disch := omega) only [↓RU, RV, RH, ↓reduceIte, reduceEqDiff, reduceCtorEq, if_pos, w64, tyint]
   refine hK _ _ ?_;clear hK K
   refine XThen.norm ?_
   refine ⟨l.length - (i + 1), by omega, 0, i + 1, rfl, by omega, by omega, ?_, rfl⟩
   rw [maxL_step h1i hx]
   simp [Env.put, Env.of]
  ·try simp only [RL] at h1
   refine W.exit ?_
   refine XThen.exit ?_
   refine XThen.exit ?_
   refine XBlock.hit ?_
   refine XThen.norm ?_
   refine W.seq_region fun K hK => ?_
   simp (disch := omega) only [↓RU, RV, RH, ↓reduceIte, reduceEqDiff, reduceCtorEq, if_pos]
   refine hK _ _ ?_;clear hK K
   refine W.ret ?_
   refine BodyQ.ret rfl ?_
   rw [maxL_end h0 (by omega)]
   rfl
section
theorem hv_at {M : List (List Bool)} {ws : List Int} {n b : Nat} (hb : b < n) : (heaviest M ws n)[b]? = some (HB M ws n b) := by simp [heaviest, hb]
section
variable {M : List (List Bool)} {ms : List Nat} {ws : List Int} {n : Nat} {rk : Nat → Nat}
def revM (n : Nat) (M : List (List Bool)) : List (List Bool) := (List.range n).map fun a => (List.range n).map fun b => getB M b a
theorem revM_sq : Sq n (revM n M) := ⟨by simp [revM], fun r hr => by obtain ⟨a, -, rfl⟩ := List.mem_map.1 hr; simp⟩
theorem revM_get {a b : Nat} (ha : a < n) (hb : b < n) : getB (revM n M) a b = getB M b a := by simp [getB, revM, ha, hb]
theorem revM_up (hu : Up M n rk) : Up (revM n M) n (fun b => 100 - rk b) := by
 refine ⟨revM_sq, fun a b ha hb h => ?_, fun b => by omega⟩
 rw [revM_get ha hb] at h
 have := hu.up b a hb ha h
 have := hu.le b
 have := hu.le a
 omega
def bhB (sets : List Nat) (needs : List Int) (a : Nat) (out : List Int) (b : Nat) : List Int :=
 if bitOf sets a b then out.set a (max (getI out a) (getI out b + getI needs b)) else out
def bhA (sets : List Nat) (needs : List Int) (out : List Int) (a : Nat) : List Int := (List.range needs.length).foldl (bhB sets needs a) out
def bhN (sets : List Nat) (needs : List Int) (out : List Int) (_ : Nat) : List Int := (List.range needs.length).foldl (bhA sets needs) out
def behind (sets : List Nat) (needs : List Int) : List Int := (List.range needs.length).foldl (bhN sets needs) (List.replicate needs.length 0)
end
theorem plan_same {p : List Txt} {ws : List Int} (h : needV p [ws] = true) : Same (rP p).length (leftG (gP p) p.length (w0 (readG p)) (rP p).length) (allS p 0) ∧ Same (rP p).length (aboveG (gP p) p.length (w0 (readG p)) (rP p).length) (allS p 1) ∧
  Up (leftG (gP p) p.length (w0 (readG p)) (rP p).length) (rP p).length (rkL p) ∧ Up (aboveG (gP p) p.length (w0 (readG p)) (rP p).length) (rP p).length (rkA p) ∧ ws.length = (rP p).length ∧ 1 ≤ (rP p).length ∧ NeedOk ws := by
 obtain ⟨h1, h2, h3⟩ := needV_one h
 have hok : okB p = true := by
  have h9 := h1
  unfold plainI floorI at h9
  simp only [Bool.and_eq_true] at h9
  exact h9.1.1
 have hn1 := okB_rooms1 hok
 rw [plainI_plain] at h1
 have hp := plain_plan h1
 have hN := plan_named hp
 obtain ⟨u0, u1⟩ := plan_up hp
 have hr := hN.rooms
 obtain ⟨s0, s1⟩ := same_all hN.hg (n := (rP p).length) (by omega) (fun i j hi hj => hN.cell hi hj) gP_room
 rw [w0_read]
 exact ⟨s0, s1, u0, u1, h2, hn1, h3⟩
end


def domB (x : Int × Int) (w h : Int) : Bool := decide (x.1 ≤ w) && decide (x.2 ≤ h)
def putStep (w h : Int) (s : List (Int × Int) × Bool) (x : Int × Int) : List (Int × Int) × Bool :=
 if w ≤ x.1 ∧ h ≤ x.2 then s else if s.2 = false ∧ w < x.1 then (s.1 ++ [(w, h), x], true) else (s.1 ++ [x], s.2)
def putF (l : List (Int × Int)) (w h : Int) : List (Int × Int) × Bool := l.foldl (putStep w h) ([], false)
def put (l : List (Int × Int)) (w h : Int) : List (Int × Int) := if l.any (fun x => domB x w h) then l else if (putF l w h).2 then (putF l w h).1 else (putF l w h).1 ++ [(w, h)]
section
section
variable {n : Nat} {M X : List (List Bool)}
def rvB (M : List (List Bool)) (a : Nat) (X : List (List Bool)) (b : Nat) : List (List Bool) := setB X b a (getB M a b)
def rvA (n : Nat) (M : List (List Bool)) (X : List (List Bool)) (a : Nat) : List (List Bool) := (List.range n).foldl (rvB M a) X
def rv (n : Nat) (M : List (List Bool)) : List (List Bool) := (List.range n).foldl (rvA n M) (emptyM n)
end
end
theorem rn_rep0 {S : Store} {k f n : Nat} {sel : List Nat} : (List.replicate n (PV.int .i64 0)).mapM (rn S k sel (f + 1)) = some (List.replicate n (PV.int .i64 0)) := rn_scal (by simp [List.all_replicate, scal])
section
theorem before_pc {L A : List (List Bool)} {n a b : Nat} (hL : Sq n L) (hA : Sq n A) (ha : a < n) (hb : b < n) : PC Tryz.prog 92 [(.agg [eRel L, eRel A]), .int .i64 a, .int .i64 b] (.bool (getB L a b || getB A a b)) true := by
 have hL1 := hL.1
 have hA1 := hA.1
 obtain ⟨row, hrow, hrl, hrb⟩ := hL.at_ ha hb
 obtain ⟨sow, hsow, hsl, hsb⟩ := hA.at_ ha hb
 refine PC.of ⟨Tryz.func92, by kernel_rfl, rfl, by kernel_rfl⟩ tabOk mixed (by show 3 ≤ Tryz.f92.ntmps; decide) ?_
 refine W.seq_region fun K hK => ?_
 simp (disch := omega) only [↓RU, RV, RH, ↓reduceIte, reduceEqDiff, reduceCtorEq, if_pos, ↓RS, RG, reduceAdd, reduceMul, reduceLeDiff, ty0, ty2, tybool, ty13, ty15, ty23]
 refine hK _ _ ?_;clear hK K
 refine W.seq_region fun K hK => ?_
 cases hc : getB L a b
 ·skip
  rw [hc] at hrb
  simp (disch := omega) only [↓RU, RV, RH, ↓reduceIte, reduceEqDiff, reduceCtorEq, if_pos, ↓RS, RG, reduceAdd, reduceMul, reduceLeDiff, ty0, ty2, tybool, ty13, ty15, ty23, hrow, hrl, hrb, hsow, hsl, hsb, hL1, hA1]
  refine hK _ _ ?_;clear hK K
  refine W.ret ?_
  refine BodyQ.ret rfl ?_
  rw [hc]
  rfl
 ·skip
  rw [hc] at hrb
  simp (disch := omega) only [↓RU, RV, RH, ↓reduceIte, reduceEqDiff, reduceCtorEq, if_pos, ↓RS, RG, reduceAdd, reduceMul, reduceLeDiff, ty0, ty2, tybool, ty13, ty15, ty23, hrow, hrl, hrb, hsow, hsl, hsb, hL1, hA1]
  refine hK _ _ ?_;clear hK K
  refine W.ret ?_
  refine BodyQ.ret rfl ?_
  rw [hc]
  rfl
theorem beforeSecond_pc {L A : List (List Bool)} {n a b : Nat} (hL : Sq n L) (hA : Sq n A) (ha : a < n) (hb : b < n) : PC Tryz.prog 86 [(.agg [eRel L, eRel A]), .int .i64 a, .int .i64 b] (.bool (getB L a b || getB A b a)) true := by
 have hL1 := hL.1
 have hA1 := hA.1
 obtain ⟨row, hrow, hrl, hrb⟩ := hL.at_ ha hb
 obtain ⟨sow, hsow, hsl, hsb⟩ := hA.at_ hb ha
 refine PC.of ⟨Tryz.func86, by kernel_rfl, rfl, by kernel_rfl⟩ tabOk mixed (by show 3 ≤ Tryz.f86.ntmps; decide) ?_
 refine W.seq_region fun K hK => ?_
 simp (disch := omega) only [↓RU, RV, RH, ↓reduceIte, reduceEqDiff, reduceCtorEq, if_pos, ↓RS, RG, reduceAdd, reduceMul, reduceLeDiff, ty0, ty2, tybool, ty13, ty15, ty23]
 refine hK _ _ ?_;clear hK K
 refine W.seq_region fun K hK => ?_
 cases hc : getB L a b
 ·skip
  rw [hc] at hrb
  simp (disch := omega) only [↓RU, RV, RH, ↓reduceIte, reduceEqDiff, reduceCtorEq, if_pos, ↓RS, RG, reduceAdd, reduceMul, reduceLeDiff, ty0, ty2, tybool, ty13, ty15, ty23, hrow, hrl, hrb, hsow, hsl, hsb, hL1, hA1]
  refine hK _ _ ?_;clear hK K
  refine W.ret ?_
  refine BodyQ.ret rfl ?_
  rw [hc]
  rfl
 ·skip
  rw [hc] at hrb
  simp (disch := omega) only [↓RU, RV, RH, ↓reduceIte, reduceEqDiff, reduceCtorEq, if_pos, ↓RS, RG, reduceAdd, reduceMul, reduceLeDiff, ty0, ty2, tybool, ty13, ty15, ty23, hrow, hrl, hrb, hsow, hsl, hsb, hL1, hA1]
  refine hK _ _ ?_;clear hK K
  refine W.ret ?_
  refine BodyQ.ret rfl ?_
  rw [hc]
  rfl
def cmV (b1 b2 : Bool) : Int := if b1 then -1 else if b2 then 1 else 0
theorem cmV_lt {b1 b2 : Bool} : cmV b1 b2 < 0 ↔ b1 = true := by cases b1 <;> cases b2 <;> simp [cmV]
theorem sorted1_pc {q : FuncId} {L A : List (List Bool)} {x y : Int} {b1 b2 : Bool} (h1 : PC Tryz.prog q [(.agg [eRel L, eRel A]), .int .i64 x, .int .i64 y] (.bool b1) true) (h2 : PC Tryz.prog q [(.agg [eRel L, eRel A]), .int .i64 y, .int .i64 x] (.bool b2) true) : PC Tryz.prog 115 [.int .i64 x, .int .i64 y, .ip [.bm q (.agg [eRel L, eRel A])] 0] (.int .i64 (cmV b1 b2)) true := by
 refine PC.of ⟨Tryz.func115, by kernel_rfl, rfl, by kernel_rfl⟩ tabOk mixed (by show 3 ≤ Tryz.f115.ntmps; decide) ?_
 refine W.seq_region fun K hK => ?_
 simp (disch := omega) only [↓RU, RV, RH, ↓reduceIte, reduceEqDiff, reduceCtorEq, if_pos, ↓RS, RG, reduceAdd, reduceMul, reduceLeDiff]
 refine hK _ _ ?_;clear hK K
 refine W.seq ?_
 refine W.block ?_
 refine W.seq_region fun K hK => ?_
 simp (disch := omega) only [↓RU, RV, RH, ↓reduceIte, reduceEqDiff, reduceCtorEq, if_pos, List.append_nil, ↓RS, RG, reduceAdd, reduceMul, reduceLeDiff, ty10]
 refine CallR.pc (h1) rfl (.inl rfl) ?_
 simp (disch := omega) only [↓RU, RV, RH, ↓reduceIte, reduceEqDiff, reduceCtorEq, if_pos, List.append_nil, ↓RS, RG, reduceAdd, reduceMul, reduceLeDiff, ty10]
 refine hK _ _ ?_;clear hK K
 refine W.cond rfl (fun k1 => ?_) (fun k1 => ?_)
 ·try simp only [RL] at k1
  refine W.seq_region fun K hK => ?_
  simp (disch := omega) only [↓RU, RV, RH, ↓reduceIte, reduceEqDiff, reduceCtorEq, if_pos, ↓RS, RG, reduceAdd, reduceMul, reduceLeDiff]
  refine hK _ _ ?_;clear hK K
  refine W.ret ?_
  refine XBlock.ret ?_
  refine XThen.ret ?_
  refine BodyQ.ret rfl ?_
  subst k1
  rfl
 ·try simp only [RL] at k1
  refine W.seq_region fun K hK => ?_
  simp (disch := omega) only [↓RU, RV, RH, ↓reduceIte, reduceEqDiff, reduceCtorEq, if_pos, List.append_nil, ↓RS, RG, reduceAdd, reduceMul, reduceLeDiff, ty10]
  refine CallR.pc (h2) rfl (.inl rfl) ?_
  simp (disch := omega) only [↓RU, RV, RH, ↓reduceIte, reduceEqDiff, reduceCtorEq, if_pos, List.append_nil, ↓RS, RG, reduceAdd, reduceMul, reduceLeDiff, ty10]
  refine hK _ _ ?_;clear hK K
  refine W.cond rfl (fun k2 => ?_) (fun k2 => ?_)
  ·try simp only [RL] at k2
   refine W.seq_region fun K hK => ?_
   simp (disch := omega) only [↓RU, RV, RH, ↓reduceIte, reduceEqDiff, reduceCtorEq, if_pos, ↓RS, RG, reduceAdd, reduceMul, reduceLeDiff]
   refine hK _ _ ?_;clear hK K
   refine W.ret ?_
   refine XBlock.ret ?_
   refine XThen.ret ?_
   refine BodyQ.ret rfl ?_
   have k1 : b1 = false := by simpa using k1
   subst k1
   subst k2
   rfl
  ·try simp only [RL] at k2
   refine W.skip ?_
   refine XBlock.norm ?_
   refine XThen.norm ?_
   refine W.seq_region fun K hK => ?_
   simp (disch := omega) only [↓RU, RV, RH, ↓reduceIte, reduceEqDiff, reduceCtorEq, if_pos, ↓RS, RG, reduceAdd, reduceMul, reduceLeDiff]
   refine hK _ _ ?_;clear hK K
   refine W.ret ?_
   refine BodyQ.ret rfl ?_
   have k1 : b1 = false := by simpa using k1
   have k2 : b2 = false := by simpa using k2
   subst k1
   subst k2
   rfl
theorem pure_oa {L A : List (List Bool)} : pureV 10 (.agg [eRel L, eRel A]) = true := rfl
section
variable {S : Store} {fr : Nat → Bool} {f : Nat}
theorem rfq_ref {o ver off : Nat} : rfq S fr (f + 1) (.ref o ver off) = if fr o = true then (S.cellsOf o ver).bind fun cells => (cells.mapM (rfq S fr f)).map (.ip · off) else none := rfl
theorem rfq_bm {g : FuncId} {b : PV} : rfq S fr (f + 1) (.bm g b) = some (.bm g b) := rfl
theorem cells_bm {g : FuncId} {b : PV} : (PV.bm g b).cells = [.bm g b] := rfl
theorem ic_bm {g : FuncId} {b : PV} : (PV.bm g b).isCell = true := rfl
end
theorem sorted_pn {q : FuncId} {L A : List (List Bool)} {n : Nat} (hL : Sq n L) (h1 : 1 ≤ n) (h9 : n ≤ 9) {bf : Nat → Nat → Bool} {f : Nat → Nat} (hq : ∀ a b : Nat, a < n → b < n → PC Tryz.prog q [(.agg [eRel L, eRel A]), .int .i64 a, .int .i64 b] (.bool (bf a b)) true) (hf : ∀ a b, a < n → b < n → (bf a b = true ↔ f a < f b)) {Z : List Int} (hZ : ∀ z : List Int, z.Perm (rooms n) → (z.map fun x => ((f x.toNat : Nat) : Int)).Pairwise (· ≤ ·) → z = Z) : PN Tryz.prog 85 [(.agg [eRel L, eRel A]), .bm q (.agg [eRel L, eRel A])] (.loc 0 0 0 n) [.arr 0 3 1 (Z.map (.int .i64))] false := by
 have hL1 := hL.1
 obtain ⟨l, hl, hln⟩ : ∃ l, l = rooms n ∧ l.length = n := ⟨_, rfl, rooms_len⟩
 subst hln
 have hmem : ∀ x, x ∈ l → ∃ a : Nat, x = a ∧ a < l.length := fun x hx => by rw [hl, mem_rooms] at hx; exact ⟨x.toNat, by omega, by omega⟩
 have hcm : ∀ x y, x ∈ l → y ∈ l → PC Tryz.prog 115 [.int .i64 x, .int .i64 y, .ip [.bm q (.agg [eRel L, eRel A])] 0] (.int .i64 (cmV (bf x.toNat y.toNat) (bf y.toNat x.toNat))) true := fun x y hx hy => by
  obtain ⟨a, rfl, ha⟩ := hmem x hx
  obtain ⟨b, rfl, hb⟩ := hmem y hy
  exact sorted1_pc (hq a b ha hb) (hq b a hb ha)
 have hlt : ∀ x y, x ∈ l → y ∈ l → (cmV (bf x.toNat y.toNat) (bf y.toNat x.toNat) < 0 ↔ (fun x : Int => ((f x.toNat : Nat) : Int)) x < (fun x : Int => ((f x.toNat : Nat) : Int)) y) := fun x y hx hy => by
  obtain ⟨a, rfl, ha⟩ := hmem x hx
  obtain ⟨b, rfl, hb⟩ := hmem y hy
  rw [cmV_lt, hf _ _ (by simpa using ha) (by simpa using hb)]
  simp only; omega
 refine PN.of ⟨Tryz.func85, by kernel_rfl, rfl, by kernel_rfl⟩ tabOk mixed (by show 2 ≤ Tryz.f85.ntmps; decide) ?_
 refine W.seq_region fun K hK => ?_
 simp (disch := omega) only [↓RU, RV, RH, ↓reduceIte, reduceEqDiff, reduceCtorEq, if_pos, ↓RS, RG, reduceAdd, reduceMul, reduceLeDiff, ty0, ty2, tybool, ty10, ty13, ty15, ty23, cells_bm, ic_bm]
 refine hK _ _ ?_;clear hK K
 refine W.joinS [3, 5] (fun vs S => ∃ t tk : Nat, vs = [.ip [.bm q (.agg [eRel L, eRel A])] 0, .loc 0 t 0 l.length] ∧ S = ⟨[.arr t 3 1 ((List.replicate l.length 0).map (.int .i64))], tk⟩) ?_ ?_
 ·
  refine W.region_k fun K hK => ?_
  simp (disch := omega) only [↓RU, RV, RH, ↓reduceIte, reduceEqDiff, reduceCtorEq, if_pos, ↓RS, RG, reduceAdd, reduceMul, reduceLeDiff, ty0, ty2, tyLint, tybool, ty13, ty15, tyint, ty23, hL1, repz_int, ile_true]
  refine hK _ _ ?_;clear hK K
  refine XThen.norm ?_
  refine ⟨0, [2], [.ip [.bm q (.agg [eRel L, eRel A])] 0, .loc 0 3 0 l.length], ⟨[.arr 3 3 1 ((List.replicate l.length 0).map (.int .i64))], 4⟩, ?_, ?_, 3, 4, rfl, rfl⟩
  ·simp [-List.mapM_map, Env.put, Env.of, argEnv, Srn_eq, rnObs_cons, rnObs_nil, rnOb_arr, rnOb_map, rn_loc, rn_ref, rn_mp, rn_int, rn_bool, rn_str, rn_ip, rn_sl, rn_nils, rn_nilp, rn_undef, rn_agg, rn_tup, rn_fn, rfq_loc, rfq_int, rfq_bool, rfq_str, rfq_sl, frOf, List.range_succ, List.mapM_append, List.mapM_cons, rfq_ref, rfq_bm, Store.cellsOf]
  ·simp [-List.mapM_map, Env.put, Env.of, argEnv, Srn_eq, rnObs_cons, rnObs_nil, rnOb_arr, rnOb_map, rn_loc, rn_ref, rn_mp, rn_int, rn_bool, rn_str, rn_ip, rn_sl, rn_nils, rn_nilp, rn_undef, rn_agg, rn_tup, rn_fn, rfq_loc, rfq_int, rfq_bool, rfq_str, rfq_sl, frOf, List.range_succ, List.mapM_append, List.mapM_cons, rn_rep0]
 rintro vs S - ⟨t0, tk0, rfl, rfl⟩
 refine W.seq ?_
 refine W.seq_region fun K hK => ?_
 simp (disch := omega) only [↓RU, RV, RH, ↓reduceIte, reduceEqDiff, reduceCtorEq, if_pos, ↓RS, RG, reduceAdd, reduceMul, reduceLeDiff, tyLint, tyint]
 refine hK _ _ ?_;clear hK K
 refine W.block ?_
 refine W.loop [3, 5, 12, 13] (fun n vs S => ∃ i t tk : Nat, n = l.length - i ∧ i ≤ l.length ∧ vs = [.ip [.bm q (.agg [eRel L, eRel A])] 0, .loc 0 t 0 l.length, .int .i64 l.length, .int .i64 i] ∧ S = ⟨[.arr t 3 1 ((l.take i ++ List.replicate (l.length - i) 0).map (.int .i64))], tk⟩) l.length ?_ ?_
 ·refine ⟨1, 0, t0, tk0, rfl, by omega, ?_, by simp [Store.take]⟩
  simp [Env.put, Env.of, argEnv]
 rintro n vs S - ⟨i, t, tk, rfl, h_i, rfl, rfl⟩
 refine W.seq_region fun K hK => ?_
 simp (disch := omega) only [↓RU, RV, RH, ↓reduceIte, reduceEqDiff, reduceCtorEq, if_pos, w64, ↓RS, RG, reduceAdd, reduceMul, reduceLeDiff, tyint]
 refine hK _ _ ?_;clear hK K
 refine W.seq ?_
 refine W.cond rfl (fun h => ?_) (fun h => ?_)
 ·try simp only [RL] at h
  have hix : l[i]? = some (i : Int) := by rw [hl]; exact rooms_at (by omega)
  have hol : (l.take i ++ List.replicate (l.length - i) 0).length = l.length := by simp; omega
  refine W.skip ?_
  refine XThen.norm ?_
  refine W.seq ?_
  refine W.block ?_
  refine W.seq_region fun K hK => ?_
  simp (disch := omega) only [↓RU, RV, RH, ↓reduceIte, reduceEqDiff, reduceCtorEq, if_pos, ↓RS, RG, reduceAdd, reduceMul, reduceLeDiff]
  refine hK _ _ ?_;clear hK K
  refine W.region_k fun K hK => ?_
  simp (disch := omega) only [↓RU, RV, RH, ↓reduceIte, reduceEqDiff, reduceCtorEq, if_pos, ↓RS, RG, reduceAdd, reduceMul, reduceLeDiff, tyLint, tyint, set_spl, set_int, hol]
  refine hK _ _ ?_;clear hK K
  refine XBlock.norm ?_
  refine XThen.norm ?_
  refine W.region_k fun K hK => ?_
  simp (disch := omega) only [↓RU, RV, RH, ↓reduceIte, reduceEqDiff, reduceCtorEq, if_pos, w64, ↓RS, RG, reduceAdd, reduceMul, reduceLeDiff, tyint]
  refine hK _ _ ?_;clear hK K
  refine XThen.norm ?_
  refine ⟨l.length - (i + 1), by omega, 1, i + 1, t, tk, rfl, by omega, ?_, ?_⟩
  ·simp [Env.put, Env.of]
  ·simp only [take_eq, copy_succ hix]; rfl
 ·try simp only [RL] at h
  obtain rfl : l.length = i := by omega
  rw [List.take_length, Nat.sub_self]
  simp only [List.replicate_zero, List.append_nil]
  refine W.exit ?_
  refine XThen.exit ?_
  refine XThen.exit ?_
  refine XBlock.hit ?_
  refine XThen.norm ?_
  refine W.seq_region fun K hK => ?_
  simp (disch := omega) only [↓RU, RV, RH, ↓reduceIte, reduceEqDiff, reduceCtorEq, if_pos, List.append_nil, ↓RS, RG, reduceAdd, reduceMul, reduceLeDiff]
  refine CallR.ev (sortF_ev (F := []) (R := []) hcm hlt h9 h1) ?_
  rintro _ _ ⟨rfl, z, hz1, hz2, rfl⟩
  simp (disch := omega) only [↓RU, RV, RH, ↓reduceIte, reduceEqDiff, reduceCtorEq, if_pos, List.append_nil, ↓RS, RG, reduceAdd, reduceMul, reduceLeDiff]
  refine hK _ _ ?_;clear hK K
  refine W.seq_region fun K hK => ?_
  simp (disch := omega) only [↓RU, RV, RH, ↓reduceIte, reduceEqDiff, reduceCtorEq, if_pos, ↓RS, RG, reduceAdd, reduceMul, reduceLeDiff]
  refine hK _ _ ?_;clear hK K
  refine W.ret ?_
  refine BodyQ.ret rfl ?_
  have e := hZ z (by rw [← hl]; exact hz1) hz2
  subst e
  exact sh_one rfl (sh_ints _)
end

theorem plain_spec {p : List Txt} (hp : plainB p = true) : gridB p = true ∧ l1Rooms p = (rP p).length ∧ (rP p).length ≤ 9 ∧ 1 ≤ (rP p).length ∧ (∀ a b, a < (rP p).length → b < (rP p).length → bitOf (allS p 0) a b = getB (lfM p) a b) ∧ ∀ a b, a < (rP p).length → b < (rP p).length → bitOf (allS p 1) a b = getB (abM p) a b := by
 have hpl := plain_plan hp
 have hN := plan_named hpl
 have hr := hN.rooms
 have h1 := hp
 rw [← plainI_plain] at h1
 have hok : okB p = true := by
  have h9 := h1
  unfold plainI floorI at h9
  simp only [Bool.and_eq_true] at h9
  exact h9.1.1
 obtain ⟨s0, s1⟩ := same_all hN.hg (n := (rP p).length) (by omega) (fun i j hi hj => hN.cell hi hj) gP_room
 exact ⟨hN.hg, hr, okB_rooms hok, okB_rooms1 hok, fun a b ha hb => (s0.2.2 a b ha hb).symm, fun a b ha hb => (s1.2.2 a b ha hb).symm⟩
section
section
variable {p : List Txt} {below : Bool}
theorem srt_perm (hp : plainB p = true) (below : Bool) : (srt p below).Perm (rooms (rP p).length) := by
 obtain ⟨f, hf, hi⟩ := bf_rank hp below
 have h1 : ((rooms (rP p).length).mergeSort fun x y => decide (f x.toNat ≤ f y.toNat)).Perm (rooms (rP p).length) := List.mergeSort_perm _ _
 have h2 : (((rooms (rP p).length).mergeSort fun x y => decide (f x.toNat ≤ f y.toNat)).map fun x => ((f x.toNat : Nat) : Int)).Pairwise (· ≤ ·) := by
  rw [List.pairwise_map]
  refine (List.pairwise_mergeSort (fun a b c h k => ?_) (fun a b => ?_) _).imp fun {a b} h => ?_
  ·simp only [decide_eq_true_eq] at h k ⊢; omega
  ·simp only [Bool.or_eq_true, decide_eq_true_eq]; omega
  ·simp only [decide_eq_true_eq] at h; omega
 rw [← srt_is hf hi h1 h2]
 exact h1
theorem srt_mem (hp : plainB p = true) {x : Int} : x ∈ srt p below ↔ 0 ≤ x ∧ x < (rP p).length := by
 rw [(srt_perm hp below).mem_iff, mem_rooms]
theorem srt_nodup (hp : plainB p = true) : (srt p below).Nodup := (srt_perm hp below).nodup_iff.2 (nodup_rooms _)
theorem ahK_lt (hp : plainB p = true) {a : Nat} (ha : a < (rP p).length) : ahK p below a < (rP p).length := by
 obtain ⟨f, hf, hi⟩ := bf_rank hp below
 rw [ahK_is hf ha]; exact ahead_n ha
theorem ahK_iff (hp : plainB p = true) {a b : Nat} (ha : a < (rP p).length) (hb : b < (rP p).length) : bfK p below a b = true ↔ ahK p below a < ahK p below b := by
 obtain ⟨f, hf, hi⟩ := bf_rank hp below
 rw [ahK_is hf ha, ahK_is hf hb, hf a b ha hb]
 constructor
 ·intro h; exact ahead_lt ha h
 ·intro h
  refine Classical.byContradiction fun k => ?_
  rcases Nat.lt_trichotomy (f a) (f b) with q | q | q
  ·exact k q
  ·have := hi a b ha hb q; subst this; omega
  ·have := ahead_lt (n := (rP p).length) hb q; omega
theorem ahK_inj (hp : plainB p = true) {a b : Nat} (ha : a < (rP p).length) (hb : b < (rP p).length) (h : ahK p below a = ahK p below b) : a = b := by
 obtain ⟨f, hf, hi⟩ := bf_rank hp below
 rw [ahK_is hf ha, ahK_is hf hb] at h
 exact ahead_inj hi ha hb h
theorem srt_at (hp : plainB p = true) {a : Nat} (ha : a < (rP p).length) : (srt p below)[ahK p below a]? = some (a : Int) :=
 putAll_at (fun a ha => ahK_lt hp ha) (fun a b ha hb h => ahK_inj hp ha hb h) _ (Nat.le_refl _) a ha
theorem srt_get (hp : plainB p = true) {i : Nat} (hi : i < (rP p).length) : ∃ a, a < (rP p).length ∧ ahK p below a = i ∧ (srt p below)[i]? = some (a : Int) := by
 obtain ⟨x, hx, hm⟩ := get_of (show i < (srt p below).length by rw [srt_len]; exact hi)
 obtain ⟨h1, h2⟩ := (srt_mem hp).1 hm
 refine ⟨x.toNat, by omega, ?_, by rw [hx]; congr 1; omega⟩
 have h3 := srt_at (below := below) hp (a := x.toNat) (by omega)
 have e : ((x.toNat : Nat) : Int) = x := by omega
 rw [e] at h3
 have k1 := len_of h3
 have k2 := len_of hx
 rw [List.getElem?_eq_getElem k1] at h3
 rw [List.getElem?_eq_getElem k2] at hx
 exact nodup_get (srt_nodup hp) k1 k2 ((Option.some.inj h3).trans (Option.some.inj hx).symm)
def permV (p : List Txt) : List Int := (srt p true).map fun x => ((ahK p false x.toNat : Nat) : Int)
theorem permV_len : (permV p).length = (rP p).length := by simp [permV, srt_len]
theorem permV_at (hp : plainB p = true) {i a : Nat} (h : (srt p true)[i]? = some (a : Int)) : (permV p)[i]? = some ((ahK p false a : Nat) : Int) := by
 unfold permV
 rw [List.getElem?_map, h]
 simp
end
end
section
section
variable {P : Program} {T : Tab} {F : Nat → Prop} {G : GSt} {w : World} {e : Env} {a : Act} {F0 : Nat → Prop} {G0 : GSt} {w0 : World} {N : Nat}
theorem conv_new (hT : TabOk P T) (hi : Inv F G w) (he : EnvR w.heap F G e a) {o : Oper} {s d el : TypeId} {x : Operand} {str : List UInt8} (hop : o.op = .convert s d x) (hs : (T s).kd = .str) (hd : (T d).kd = .slice el) (hu8 : (T el).kd = .int .u8)
  (hx0 : e.ev x = .str str) (hlen63 : str.length ≤ 1048576) {K : PV → Store → Prop} (h : K (.loc G.er.obs.length G.er.tick 0 str.length) (G.er.push el 1 (str.map eB))) {next : Act → World → Prop} {Q : Exit → Act → World → Prop}
  (hk : Goes F G w K fun cv w' => next (a.put o.dst cv) w') : o.wp P a w next Q := by
 have hx := he.ev x
 rw [hx0] at hx
 obtain ⟨b, ex, hb⟩ := hx.str
 have hr : (execOp a.eval o).run P w = .ok (.value (.slice (some ⟨w.heap.size, 0, none⟩) b.size (grownCap w b.size 0 el))) (Lib.bytesWorld w el b) := by
  simp only [execOp, hop, ex]
  rw [Sem.run_bind, Lib.run_convert_string_bytes w s d el b (kd_str hT hs) (kd_slice hT hd) (kd_int hT hu8)]
  rfl
 have hlen : str.length = b.size := by rw [← hb]; simp
 have hsz : (Lib.bytesWorld w el b).heap.size = w.heap.size + 1 := Lib.bytesWorld_size w el b
 have hge := grownCap_ge w b.size 0 el
 have hcs : (Lib.bytesCells w el b).size = grownCap w b.size 0 el := by
  simp [Lib.bytesCells]; omega
 have hpush : (Lib.bytesWorld w el b).heap = w.heap.push (.cells (Lib.bytesCells w el b) el ((Lib.bytesCells w el b).size, (Lib.bytesCells w el b).size + 1)) := by
  apply Array.ext_getElem?
  intro j
  rw [Array.getElem?_push]
  by_cases hj : j = w.heap.size
  ·subst hj; rw [if_pos rfl]; exact Lib.bytesWorld_at_new w el b
  ·rw [if_neg hj]
   by_cases hj2 : j < w.heap.size
   ·exact Lib.bytesWorld_at_old w el b j hj2
   ·rw [Array.getElem?_eq_none (by omega), Array.getElem?_eq_none (by omega)]
 obtain ⟨k1, k2⟩ := push_obj hi (.arr G.tick el 1 (str.map eB)) (Lib.bytesCells w el b).size (Lib.bytesWorld w el b) (w.drawn + 1) rfl ⟨_, hpush⟩ rfl
  ⟨_, ⟨_, Lib.bytesWorld_at_new w el b, .inr (Nat.le_refl _)⟩, rfl, by show (str.map eB).length ≤ (Lib.bytesCells w el b).size; rw [List.length_map, hcs]; omega, fun i p hp => by
   have hil : i < str.length := by have := (List.getElem?_eq_some_iff.1 hp).1; simpa using this
   rw [List.getElem?_map, List.getElem?_eq_getElem hil] at hp
   cases hp
   refine ⟨rfl, .int .u8 (str[i].toNat : Int), ?_, .imm _ _ (.int _ _)⟩
   have := Lib.bytesWorld_cell w el b i (by omega)
   simp only [World.cell?, Lib.bytesWorld_at_new, Option.isSome_none, Bool.false_eq_true, if_false] at this
   rw [this, hb, List.getD_eq_getElem?_getD, List.getElem?_eq_getElem hil]
   rfl⟩
 unfold Oper.wp
 rw [hr]
 refine hk (.loc G.er.obs.length G.er.tick 0 str.length) _ _ _ _ (by rw [er_push]; exact h) k1 k2 ?_
 rw [hlen]
 exact new_loc (et := el) (sz := 1) (cells := str.map eB) (l := ⟨w.heap.size, (Lib.bytesCells w el b).size⟩) _ _ _ (by simp) (Nat.lt_succ_self _) rfl hge (grownCap_le_maxLen w _ _ _ (by unfold maxLen; omega)) (by rw [Nat.mul_one]; exact hcs.symm)
def pOpsT (P : Program) (T : Tab) (ops : Array Oper) (Q : Env → Store → Prop) : Nat → List Oper → Env → Store → Prop
 | _, [], e, S => Q e S
 | 0, o :: l, e, S => ∃ (s d el : TypeId) (x : Operand) (str : List UInt8), o.guard = none ∧ o.op = .convert s d x ∧ (T s).kd = .str ∧ (T d).kd = .slice el ∧ (T el).kd = .int .u8 ∧ e.ev x = .str str ∧ str.length ≤ 1048576 ∧
   pOps P T ops Q l (e.put o.dst (.loc S.obs.length S.tick 0 str.length)) (S.push el 1 (str.map eB))
 | k + 1, o :: l, e, S => o.guard = none ∧ pOp P T e S o.op fun v S' => pOpsT P T ops Q k l (e.put o.dst v) S'
theorem pOpsT_sound (hT : TabOk P T) {ops : Array Oper} {Q : Env → Store → Prop} : ∀ (k : Nat) (l : List Oper) {e : Env} {F : Nat → Prop} {G : GSt} {a : Act} {w : World}, pOpsT P T ops Q k l e G.er → Inv F G w → EnvR w.heap F G e a →
  Next F0 G0 w0 F G w → a.tmps.size = N → a.defers = [] → (∀ o ∈ l, ∀ d, o.dst = some d → d < N) → wpList P ops (Sto F0 G0 w0 N (Nrm Q)) l a w
 | _, [], e, F, G, a, w, h, hi, he, hn, hs, hd, _ => by
  have h' : Q e G.er := by unfold pOpsT at h; exact h
  exact ⟨e, F, G, h', hi, he, hn, hs, hd⟩
 | 0, o :: l, e, F, G, a, w, h, hi, he, hn, hs, hd, hdst => by
  have ho : ∀ t, o.dst = some t → t < a.tmps.size := fun t ht => by rw [hs]; exact hdst o (by simp) t ht
  have hl : ∀ o ∈ l, ∀ d, o.dst = some d → d < N := fun o' h' => hdst o' (by simp [h'])
  unfold pOpsT at h
  obtain ⟨s, d, el, x, str, hg, hop, q1, q2, q3, q4, q5, h⟩ := h
  unfold wpList
  have hw : Region.wanted o (yielded ops a.tmps) = true := by unfold Region.wanted; rw [hg]
  rw [if_pos hw]
  refine .inl (conv_new hT hi he hop q1 q2 q3 q4 q5 (K := fun v S' => v = .loc G.er.obs.length G.er.tick 0 str.length ∧ S' = G.er.push el 1 (str.map eB)) ⟨rfl, rfl⟩ ?_)
  rintro v cv F' G' w' ⟨rfl, hE⟩ i1 i2 i3
  refine pOps_sound hT l (by rw [hE]; exact h) i1 ((he.next hi i2).put _ ho i3) (hn.trans i2) (by rw [put_size]; exact hs) (by rw [put_defers']; exact hd) hl
 | k + 1, o :: l, e, F, G, a, w, h, hi, he, hn, hs, hd, hdst => by
  have ho : ∀ t, o.dst = some t → t < a.tmps.size := fun t ht => by rw [hs]; exact hdst o (by simp) t ht
  have hl : ∀ o ∈ l, ∀ d, o.dst = some d → d < N := fun o' h' => hdst o' (by simp [h'])
  unfold pOpsT at h
  obtain ⟨hg, h⟩ := h
  unfold wpList
  have hw : Region.wanted o (yielded ops a.tmps) = true := by unfold Region.wanted; rw [hg]
  rw [if_pos hw]
  refine .inl (op_sound hT hi he h ?_)
  intro v cv F' G' w' hK i1 i2 i3
  exact pOpsT_sound hT k l hK i1 ((he.next hi i2).put _ ho i3) (hn.trans i2) (by rw [put_size]; exact hs) (by rw [put_defers']; exact hd) hl
end
section
variable {P : Program} {T : Tab} {Q : Exit → Env → Store → Prop} {e : Env} {S : Store} {b : Code}
theorem W.region_t (k : Nat) {id : Nat} {ops : Array Oper} (h : pOpsT P T ops (Q .normal) k ops.toList e S) : W P T (.region id ops false) Q e S := by
 refine ⟨?_⟩
 intro hT hm F0 G0 w0 N F G a w h3 h4 h5 h6 h7 h8 h9
 subst h3
 refine wp_mono (wp_region_list (pOpsT_sound hT k _ h h4 h5 h6 h7 h8 (dst_all h9))) ?_
 exact nrm_le
def ThawR (P : Program) (T : Tab) (ds : List (Option Tmp)) (o : Oper) (l : List Oper) (e : Env) (S : Store) (K : Env → Store → Prop) : Prop :=
 ∃ (s d el : TypeId) (x : Operand) (str : List UInt8), o.guard = none ∧ o.op = .convert s d x ∧ (T s).kd = .str ∧ (T d).kd = .slice el ∧ (T el).kd = .int .u8 ∧ e.ev x = .str str ∧ str.length ≤ 1048576 ∧
  eRun false P T ds l (e.put o.dst (.loc S.obs.length S.tick 0 str.length)) (S.push el 1 (str.map eB)) K
theorem pOps_mono {ops : Array Oper} {K K' : Env → Store → Prop} (h : ∀ e S, K e S → K' e S) : ∀ (l : List Oper) {e : Env} {S : Store}, pOps P T ops K l e S → pOps P T ops K' l e S
 | [], e, S, k => h e S k
 | o :: l, e, S, k => by
  unfold pOps pGuard at k ⊢
  cases hg : gdec ops o e with
  | none => rw [hg] at k; exact k.elim
  | some b =>
   rw [hg] at k
   cases b with
   | true => exact pOp_mono (fun v S' k => pOps_mono h l k) k
   | false => exact pOps_mono h l k
theorem pOps_thaw {ops : Array Oper} {K : Env → Store → Prop} {o : Oper} {l2 : List Oper} : ∀ (l1 : List Oper) {e : Env} {S : Store}, l1.all (fun o => o.guard.isNone) = true →
  pOps P T ops (fun e S => ∃ (s d el : TypeId) (x : Operand) (str : List UInt8), o.guard = none ∧ o.op = .convert s d x ∧ (T s).kd = .str ∧ (T d).kd = .slice el ∧ (T el).kd = .int .u8 ∧ e.ev x = .str str ∧ str.length ≤ 1048576 ∧
   pOps P T ops K l2 (e.put o.dst (.loc S.obs.length S.tick 0 str.length)) (S.push el 1 (str.map eB))) l1 e S → pOpsT P T ops K l1.length (l1 ++ o :: l2) e S
 | [], e, S, _, h => h
 | q :: l1, e, S, hg, h => by
  simp only [List.all_cons, Bool.and_eq_true, Option.isNone_iff_eq_none] at hg
  show q.guard = none ∧ _
  refine ⟨hg.1, ?_⟩
  unfold pOps pGuard gdec at h
  rw [hg.1] at h
  exact pOp_mono (fun v S' h => pOps_thaw l1 hg.2 h) h
theorem W.seq_thaw {id : Nat} {l1 l2 : List Oper} {o : Oper} (hg : l1.all (fun o => o.guard.isNone) = true) (h : ∀ K : Env → Store → Prop, (∀ e S, W P T b Q e S → K e S) → eRun false P T (dsts (l1 ++ o :: l2)) l1 e S fun e S => ThawR P T (dsts (l1 ++ o :: l2)) o l2 e S K) :
  W P T (.seq (.region id (l1 ++ o :: l2).toArray false) b) Q e S := by
 refine W.seq (W.region_t l1.length ?_)
 have h1 := eRun_pOps l1 e S (h _ fun _ _ h => h)
 refine pOps_thaw l1 hg (pOps_mono ?_ l1 h1)
 rintro e S ⟨s, d, el, x, str, q1, q2, q3, q4, q5, q6, q7, q8⟩
 exact ⟨s, d, el, x, str, q1, q2, q3, q4, q5, q6, q7, eRun_pOps l2 _ _ q8⟩
end
end
abbrev eBy (l : Txt) : PV := .sl (l.map eB) l.length
theorem tmod_nn {a b : Nat} : ((a : Nat) : Int).tmod ((b : Nat) : Int) = ((a % b : Nat) : Int) := (Int.ofNat_tmod a b).symm
theorem tdiv_nn {a b : Nat} : ((a : Nat) : Int).tdiv ((b : Nat) : Int) = ((a / b : Nat) : Int) := (Int.ofNat_tdiv a b).symm
theorem w_xor {a b : Nat} (ha : a < 1099511627776) (hb : b < 1099511627776) : IntKind.i64.wrap ((BitVec.ofInt IntKind.i64.bits (a : Int) ^^^ BitVec.ofInt IntKind.i64.bits (b : Int)).toNat : Int) = ((a ^^^ b : Nat) : Int) := by
 have h1 : (BitVec.ofInt 64 (a : Int)).toNat = a := by simp [BitVec.toNat_ofInt]; omega
 have h2 : (BitVec.ofInt 64 (b : Int)).toNat = b := by simp [BitVec.toNat_ofInt]; omega
 have h3 : (BitVec.ofInt IntKind.i64.bits (a : Int) ^^^ BitVec.ofInt IntKind.i64.bits (b : Int)).toNat = a ^^^ b := by
  show (BitVec.ofInt 64 (a : Int) ^^^ BitVec.ofInt 64 (b : Int)).toNat = _
  rw [BitVec.toNat_xor, h1, h2]
 have h4 : a ^^^ b < 1099511627776 := Nat.xor_lt_two_pow (n := 40) ha hb
 rw [h3]
 exact w64 (by omega) (by omega)
theorem tdiv64 {k : Nat} : ((k : Nat) : Int).tdiv 64 = ((k / 64 : Nat) : Int) := (Int.ofNat_tdiv k 64).symm
theorem sf0 : ((64 : Int) = 0) = False := by simp
def rdO (vr : Nat) (code : Txt) (q : Nat) : Ob := .arr vr 119 2 [eBy code, .int .i64 (q : Int)]
theorem l6Open_pn {code : Txt} (hc : code.length ≤ 1048576) : PN Tryz.prog 96 [eBy code] (.ref 0 0 0) [rdO 0 (code.take 2000) 0] true := by
 refine PN.of ⟨Tryz.func96, by kernel_rfl, rfl, by kernel_rfl⟩ tabOk mixed (by show 1 ≤ Tryz.f96.ntmps; decide) ?_
 refine W.seq_region fun K hK => ?_
 simp (disch := omega) only [↓RU, RV, RH, ↓reduceIte, reduceEqDiff, reduceCtorEq, if_pos, ↓RS, RG, reduceAdd, reduceMul, reduceLeDiff]
 refine hK _ _ ?_;clear hK K
 refine W.seq ?_
 refine W.seq_region fun K hK => ?_
 simp (disch := omega) only [↓RU, RV, RH, ↓reduceIte, reduceEqDiff, reduceCtorEq, if_pos, w64, ↓RS, RG, reduceAdd, reduceMul, reduceLeDiff, ty6, tyint, ty27]
 refine hK _ _ ?_;clear hK K
 refine W.cond rfl (fun h => ?_) (fun h => ?_)
 ·try simp only [RL] at h
  refine W.region_k fun K hK => ?_
  simp (disch := omega) only [↓RU, RV, RH, ↓reduceIte, reduceEqDiff, reduceCtorEq, if_pos, Option.map_none, ↓RS, RG, reduceAdd, reduceMul, reduceLeDiff, ty6, ty27]
  refine hK _ _ ?_;clear hK K
  refine XThen.norm ?_
  refine W.seq_region fun K hK => ?_
  simp (disch := omega) only [↓RU, RV, RH, ↓reduceIte, reduceEqDiff, reduceCtorEq, if_pos, ↓RS, RG, reduceAdd, reduceMul, reduceLeDiff, ty6, tyint, ty18, ty21, ty27]
  refine hK _ _ ?_;clear hK K
  refine W.ret ?_
  refine BodyQ.ret rfl ?_
  have e : (code.take 2000).length = 2000 := by rw [List.length_take]; omega
  refine ⟨1, rfl, ?_⟩
  simp [Store.take, shObs, shOb, sh, rdO, eBy, e, List.map_take]
 ·try simp only [RL] at h
  refine W.skip ?_
  refine XThen.norm ?_
  refine W.seq_region fun K hK => ?_
  simp (disch := omega) only [↓RU, RV, RH, ↓reduceIte, reduceEqDiff, reduceCtorEq, if_pos, ↓RS, RG, reduceAdd, reduceMul, reduceLeDiff, ty6, tyint, ty18, ty21, ty27]
  refine hK _ _ ?_;clear hK K
  refine W.ret ?_
  refine BodyQ.ret rfl ?_
  have e : code.take 2000 = code := List.take_of_length_le (by omega)
  refine ⟨1, rfl, ?_⟩
  simp [Store.take, shObs, shOb, sh, rdO, eBy, e]
theorem pick_ev0 {code : Txt} {q vr t : Nat} {R : List Ob} (hc : code.length ≤ 1048576) (hq : q ≤ 1000000) (n : Int) (hn : n ≤ 1000000) (hn0 : -1000000 ≤ n) : Ev Tryz.prog 117 [.ref 0 vr 0, .int .i64 n] ⟨.arr vr 119 2 [eBy code, .int .i64 (q : Int)] :: R, t⟩ fun v S => ∃ k : Nat, v = .int .i64 (k : Int) ∧ (n < 1 → k = 0) ∧ (1 ≤ n → (k : Int) < n) ∧ S = ⟨.arr vr 119 2 [eBy code, .int .i64 ((q : Int) + 1)] :: R, t⟩ := by
 refine Ev.of ⟨Tryz.func117, by kernel_rfl, rfl, by kernel_rfl⟩ tabOk mixed (by show 2 ≤ Tryz.f117.ntmps; decide) ?_
 refine W.seq_region fun K hK => ?_
 simp (disch := omega) only [↓RU, RV, RH, ↓reduceIte, reduceEqDiff, reduceCtorEq, if_pos, ↓RS, RG, reduceAdd, reduceMul, reduceLeDiff]
 refine hK _ _ ?_;clear hK K
 refine W.seq_region fun K hK => ?_
 simp (disch := omega) only [↓RU, RV, RH, ↓reduceIte, reduceEqDiff, reduceCtorEq, if_pos, w64, ↓RS, RG, reduceAdd, reduceMul, reduceLeDiff, ty6, tyint, ty18, ty21, ty27]
 refine hK _ _ ?_;clear hK K
 refine W.seq ?_
 refine W.seq_region fun K hK => ?_
 by_cases hn1 : n < 1
 ·skip
  have hd : decide (n < 1) = true := decide_eq_true hn1
  simp (disch := omega) only [↓RU, RV, RH, ↓reduceIte, reduceEqDiff, reduceCtorEq, if_pos, w64, ↓RS, RG, reduceAdd, reduceMul, reduceLeDiff, ty6, tyint, ty18, ty21, ty27, hd]
  refine hK _ _ ?_;clear hK K
  refine W.cond rfl (fun h0 => ?_) (fun h0 => ?_)
  ·try simp only [RL] at h0
   refine W.seq_region fun K hK => ?_
   simp (disch := omega) only [↓RU, RV, RH, ↓reduceIte, reduceEqDiff, reduceCtorEq, if_pos, ↓RS, RG, reduceAdd, reduceMul, reduceLeDiff]
   refine hK _ _ ?_;clear hK K
   refine W.ret ?_
   refine XThen.ret ?_
   refine BodyQ.ret rfl ?_
   exact ⟨_, 0, rfl, fun _ => rfl, fun h9 => by omega, take_all⟩
  ·try simp only [RL] at h0
   exact absurd h0 (by simp)
 ·skip
  have hd : decide (n < 1) = false := decide_eq_false hn1
  obtain ⟨m, rfl⟩ : ∃ m : Nat, n = m := ⟨n.toNat, by omega⟩
  simp (disch := omega) only [↓RU, RV, RH, ↓reduceIte, reduceEqDiff, reduceCtorEq, if_pos, w64, ↓RS, RG, reduceAdd, reduceMul, reduceLeDiff, ty6, tyint, ty18, ty21, ty27, hd]
  refine hK _ _ ?_;clear hK K
  refine W.cond rfl (fun h0 => ?_) (fun h0 => ?_)
  ·try simp only [RL] at h0
   have hl0 : code.length = 0 := by simpa using h0
   refine W.seq_region fun K hK => ?_
   simp (disch := omega) only [↓RU, RV, RH, ↓reduceIte, reduceEqDiff, reduceCtorEq, if_pos, ↓RS, RG, reduceAdd, reduceMul, reduceLeDiff]
   refine hK _ _ ?_;clear hK K
   refine W.ret ?_
   refine XThen.ret ?_
   refine BodyQ.ret rfl ?_
   exact ⟨_, 0, rfl, fun _ => rfl, fun h9 => by omega, take_all⟩
  ·try simp only [RL] at h0
   have hl0 : code.length ≠ 0 := by intro h9; rw [h9] at h0; simp at h0
   obtain ⟨L, hL⟩ : ∃ L : Nat, code.length = L := ⟨_, rfl⟩
   have hLi : ((L : Int) = 0) = False := by simp; omega
   have hmi : ((m : Int) = 0) = False := by simp; omega
   rw [hL] at hl0 hc
   refine W.skip ?_
   refine XThen.norm ?_
   refine W.seq_region fun K hK => ?_
   simp (disch := omega) only [↓RU, RV, RH, ↓reduceIte, reduceEqDiff, reduceCtorEq, if_pos, w64, ↓RS, RG, reduceAdd, reduceMul, reduceLeDiff, ty6, tyint, ty18, ty21, ty27]
   refine hK _ _ ?_;clear hK K
   simp only [show ((q : Int) + 1 - 1) = (q : Int) from by omega]
   refine W.seq ?_
   refine W.seq_region fun K hK => ?_
   simp (disch := omega) only [↓RU, RV, RH, ↓reduceIte, reduceEqDiff, reduceCtorEq, if_pos, w64, ↓RS, RG, reduceAdd, reduceMul, reduceLeDiff, ty6, tyint, ty18, ty21, ty27, hL]
   refine hK _ _ ?_;clear hK K
   refine W.cond rfl (fun h1 => ?_) (fun h1 => ?_)
   ·try simp only [RL] at h1
    obtain ⟨c, hcq, -⟩ := get_of (show q < code.length by omega)
    have hc8 := c.toNat_lt
    refine W.seq_region fun K hK => ?_
    simp (disch := omega) only [↓RU, RV, RH, ↓reduceIte, reduceEqDiff, reduceCtorEq, if_pos, w64, w64, ↓RS, RG, reduceAdd, reduceMul, reduceLeDiff, ty6, tyint, ty18, ty21, ty27, hcq, hmi, tmod_nn]
    refine hK _ _ ?_;clear hK K
    refine W.ret ?_
    refine XThen.ret ?_
    refine BodyQ.ret rfl ?_
    exact ⟨_, _, rfl, fun h9 => by omega, fun _ => by have := Nat.mod_lt c.toNat (show 0 < m by omega); omega, take_all⟩
   ·try simp only [RL] at h1
    obtain ⟨c1, hc1, -⟩ := get_of (show q % L < code.length by rw [hL]; exact Nat.mod_lt _ (by omega))
    obtain ⟨c2, hc2, -⟩ := get_of (show (q * 7 + 3) % L < code.length by rw [hL]; exact Nat.mod_lt _ (by omega))
    have hb1 := c1.toNat_lt
    have hb2 := c2.toNat_lt
    have hq7 : (q : Int) * 7 + 3 = ((q * 7 + 3 : Nat) : Int) := by omega
    obtain ⟨d, hd⟩ : ∃ d, q / L = d := ⟨_, rfl⟩
    have hqL : d ≤ q := hd ▸ Nat.div_le_self _ _
    have hml1 := Nat.mod_lt q (show 0 < L by omega)
    have hml2 := Nat.mod_lt (q * 7 + 3) (show 0 < L by omega)
    refine W.skip ?_
    refine XThen.norm ?_
    refine W.seq_draw (by kernel_rfl) fun K hK => ?_
    simp (disch := omega) only [↓RU, RV, RH, ↓reduceIte, reduceEqDiff, reduceCtorEq, if_pos, w64, w64, ↓RS, RG, reduceAdd, reduceMul, reduceLeDiff, ty6, tyint, ty18, ty21, ty27, hL, hLi, tmod_nn, tdiv_nn, hc1, hc2, hq7, hd]
    refine hK _ _ ?_;clear hK K
    obtain ⟨Y, hY⟩ : ∃ Y : Nat, (c1.toNat : Int) * 131 + (c2.toNat : Int) * 1117 + (q : Int) * 29 + (d : Int) * 53 = Y := ⟨c1.toNat * 131 + c2.toNat * 1117 + q * 29 + d * 53, by omega⟩
    have hYb : Y < 1099511627776 := by omega
    have hYd : Y / 64 < 1099511627776 := by omega
    simp only [hY]
    refine W.seq_region fun K hK => ?_
    simp (disch := omega) only [↓RU, RV, RH, ↓reduceIte, reduceEqDiff, reduceCtorEq, if_pos, w64, ↓RS, RG, reduceAdd, reduceMul, reduceLeDiff, tyint, sf0, tdiv64, w_xor hYb hYd]
    refine hK _ _ ?_;clear hK K
    refine W.seq_region fun K hK => ?_
    simp (disch := omega) only [↓RU, RV, RH, ↓reduceIte, reduceEqDiff, reduceCtorEq, if_pos, w64, ↓RS, RG, reduceAdd, reduceMul, reduceLeDiff, tyint, hmi, tmod_nn]
    refine hK _ _ ?_;clear hK K
    refine W.ret ?_
    refine BodyQ.ret rfl ?_
    exact ⟨_, _, rfl, fun h9 => by omega, fun _ => by have := Nat.mod_lt (Y ^^^ Y / 64) (show 0 < m by omega); omega, take_all⟩
theorem set_eB {l : Txt} {a : Nat} {c : UInt8} : (l.map eB).set a (.int .u8 (c.toNat : Int)) = (l.set a c).map eB := by rw [List.map_set]
theorem bytesOf_eB (l : Txt) : bytesOf (l.map eB) = some l := bytesOf_map l
theorem l1None_pc  : PC Tryz.prog 185 [] (.tup [eStrs [], .bool false]) true := by
 refine PC.of ⟨Tryz.func185, by kernel_rfl, rfl, by kernel_rfl⟩ tabOk mixed (by show 0 ≤ Tryz.f185.ntmps; decide) ?_
 refine W.seq_region fun K hK => ?_
 simp (disch := omega) only [↓RU, RV, RH, ↓reduceIte, reduceEqDiff, reduceCtorEq, if_pos, ↓RS, RG, reduceAdd, reduceMul, reduceLeDiff]
 refine hK _ _ ?_;clear hK K
 refine W.seq_region fun K hK => ?_
 simp (disch := omega) only [↓RU, RV, RH, ↓reduceIte, reduceEqDiff, reduceCtorEq, if_pos, ↓RS, RG, reduceAdd, reduceMul, reduceLeDiff, ty5, tystring]
 refine hK _ _ ?_;clear hK K
 refine W.ret ?_
 refine BodyQ.ret rfl ?_
 exact reify_tup2 (k := 9) (reify_loc (k := 8) (n := 0) rfl rfl rfl) rfl
theorem l1Put_pc {p : List Txt} (hs : Sm p) {tp lf hg wd : Nat} {c : UInt8} (h1 : tp + hg ≤ p.length) (h2 : ∀ row ∈ p, lf + wd ≤ row.length) : PC Tryz.prog 187 [eStrs p, .int .i64 tp, .int .i64 lf, .int .i64 hg, .int .i64 wd, eB c] (eStrs (putTo p tp lf wd c (tp + hg))) true := by
 obtain ⟨hs1, hs2⟩ := hs
 refine PC.of ⟨Tryz.func187, by kernel_rfl, rfl, by kernel_rfl⟩ tabOk mixed (by show 6 ≤ Tryz.f187.ntmps; decide) ?_
 refine W.seq_region fun K hK => ?_
 simp (disch := omega) only [↓RU, RV, RH, ↓reduceIte, reduceEqDiff, reduceCtorEq, if_pos, ↓RS, RG, reduceAdd, reduceMul, reduceLeDiff]
 refine hK _ _ ?_;clear hK K
 refine W.seq_region fun K hK => ?_
 simp (disch := omega) only [↓RU, RV, RH, ↓reduceIte, reduceEqDiff, reduceCtorEq, if_pos, ↓RS, RG, reduceAdd, reduceMul, reduceLeDiff, ty5, tystring]
 refine hK _ _ ?_;clear hK K
 refine W.seq ?_
 refine W.seq_region fun K hK => ?_
 simp (disch := omega) only [↓RU, RV, RH, ↓reduceIte, reduceEqDiff, reduceCtorEq, if_pos, ↓RS, RG, reduceAdd, reduceMul, reduceLeDiff]
 refine hK _ _ ?_;clear hK K
 refine W.block ?_
 refine W.loop [0, 1, 2, 3, 4, 5, 13, 14] (fun n vs S => ∃ j t v : Nat, n = hg - j ∧ j ≤ hg ∧ vs = [eStrs p, .int .i64 tp, .int .i64 lf, .int .i64 hg, .int .i64 wd, eB c, .loc 0 v 0 p.length, .int .i64 ((tp + j : Nat) : Int)] ∧ S = ⟨[.arr v 9 1 ((putTo p tp lf wd c (tp + j)).map .str)], t⟩) hg ?_ ?_
 ·refine ⟨1, 0, 2, 1, rfl, by omega, ?_, ?_⟩
  ·simp [Env.put, Env.of, argEnv]
  ·simp [take_eq, putTo_zero]
 rintro n vs S - ⟨j, t, v, rfl, h_j, rfl, rfl⟩
 refine W.seq ?_
 refine W.seq_region fun K hK => ?_
 simp (disch := omega) only [↓RU, RV, RH, ↓reduceIte, reduceEqDiff, reduceCtorEq, if_pos, w64, ↓RS, RG, reduceAdd, reduceMul, reduceLeDiff, tyint]
 refine hK _ _ ?_;clear hK K
 refine W.cond rfl (fun h => ?_) (fun h => ?_)
 ·try simp only [RL] at h
  obtain ⟨i, hi⟩ : ∃ i, tp + j = i := ⟨_, rfl⟩
  simp only [hi]
  obtain ⟨row, hrow0, hrm⟩ := get_of (show i < p.length by omega)
  have hrow := putTo_at (t := tp) (l := lf) (w := wd) (c := c) hrow0
  have hlen := putTo_len (p := p) (t := tp) (l := lf) (w := wd) (c := c) (i := i)
  have hr1 := hs2 row hrm
  have hr2 := h2 row hrm
  refine W.skip ?_
  refine XThen.norm ?_
  refine W.seq ?_
  refine W.block ?_
  refine W.seq_thaw (l1 := [_, _, _, _]) (o := _) (l2 := [_]) rfl fun K hK => ?_
  simp (disch := omega) only [↓RU, RV, RH, ↓reduceIte, reduceEqDiff, reduceCtorEq, if_pos, w64, ↓RS, RG, reduceAdd, reduceMul, reduceLeDiff, ty5, ty6, tystring, ty27, hrow, hlen]
  refine ⟨_, _, _, _, _, rfl, rfl, rfl, rfl, rfl, rfl, by omega, ?_⟩
  simp (disch := omega) only [↓RU, RV, RH, ↓reduceIte, reduceEqDiff, reduceCtorEq, if_pos, w64, ↓RS, RG, reduceAdd, reduceMul, reduceLeDiff, ty5, ty6, tystring, ty27, hrow, hlen]
  refine hK _ _ ?_;clear hK K
  refine W.seq ?_
  refine W.seq_region fun K hK => ?_
  simp (disch := omega) only [↓RU, RV, RH, ↓reduceIte, reduceEqDiff, reduceCtorEq, if_pos, ↓RS, RG, reduceAdd, reduceMul, reduceLeDiff]
  refine hK _ _ ?_;clear hK K
  refine W.block ?_
  refine W.loop [0, 1, 2, 3, 4, 5, 13, 14, 15, 16] (fun n vs S => ∃ k t2 : Nat, n = wd - k ∧ k ≤ wd ∧ vs = [eStrs p, .int .i64 tp, .int .i64 lf, .int .i64 hg, .int .i64 wd, eB c, .loc 0 v 0 p.length, .int .i64 (i : Int), .loc 1 t 0 row.length, .int .i64 ((lf + k : Nat) : Int)] ∧ S = ⟨[.arr v 9 1 ((putTo p tp lf wd c i).map .str), .arr t 5 1 ((rowPut row lf c (lf + k)).map eB)], t2⟩) wd ?_ ?_
  ·refine ⟨2, 0, t + 1, rfl, by omega, ?_, ?_⟩
   ·simp [Env.put, Env.of]
   ·simp [take_eq, rowPut_zero]
  rintro n vs S - ⟨k, t2, rfl, h_k, rfl, rfl⟩
  refine W.seq ?_
  refine W.seq_region fun K hK => ?_
  simp (disch := omega) only [↓RU, RV, RH, ↓reduceIte, reduceEqDiff, reduceCtorEq, if_pos, w64, ↓RS, RG, reduceAdd, reduceMul, reduceLeDiff, tyint]
  refine hK _ _ ?_;clear hK K
  refine W.cond rfl (fun h3 => ?_) (fun h3 => ?_)
  ·try simp only [RL] at h3
   have hrl := rowPut_len (row := row) (l := lf) (k := lf + k) (c := c)
   refine W.skip ?_
   refine XThen.norm ?_
   refine W.seq ?_
   refine W.block ?_
   refine W.region_k fun K hK => ?_
   simp (disch := omega) only [↓RU, RV, RH, ↓reduceIte, reduceEqDiff, reduceCtorEq, if_pos, ↓RS, RG, reduceAdd, reduceMul, reduceLeDiff, ty6, ty27, hrl, set_spl, set_eB]
   refine hK _ _ ?_;clear hK K
   refine XBlock.norm ?_
   refine XThen.norm ?_
   refine W.region_k fun K hK => ?_
   simp (disch := omega) only [↓RU, RV, RH, ↓reduceIte, reduceEqDiff, reduceCtorEq, if_pos, w64, ↓RS, RG, reduceAdd, reduceMul, reduceLeDiff, tyint]
   refine hK _ _ ?_;clear hK K
   refine XThen.norm ?_
   refine ⟨wd - (k + 1), by omega, 2, k + 1, t2, rfl, by omega, ?_, ?_⟩
   ·simp [Env.put, Env.of]; omega
   ·simp only [take_eq]; rw [rowPut_succ (by omega) (by omega)]; rfl
  ·try simp only [RL] at h3
   obtain rfl : k = wd := by omega
   have hrl := rowPut_len (row := row) (l := lf) (k := lf + k) (c := c)
   have htk : ((rowPut row lf c (lf + k)).map eB).take row.length = (rowPut row lf c (lf + k)).map eB := List.take_of_length_le (by simp [hrl])
   refine W.exit ?_
   refine XThen.exit ?_
   refine XThen.exit ?_
   refine XBlock.hit ?_
   refine XThen.norm ?_
   refine W.region_k fun K hK => ?_
   simp (disch := omega) only [↓RU, RV, RH, ↓reduceIte, reduceEqDiff, reduceCtorEq, if_pos, w64, ↓RS, RG, reduceAdd, reduceMul, reduceLeDiff, ty5, ty6, tystring, ty27, hrl, htk, bytesOf_eB, hlen, set_spl, set_str, cells_str, List.length_cons, List.length_nil, Option.map_some]
   refine hK _ _ ?_;clear hK K
   refine XBlock.norm ?_
   refine XThen.norm ?_
   refine W.region_k fun K hK => ?_
   simp (disch := omega) only [↓RU, RV, RH, ↓reduceIte, reduceEqDiff, reduceCtorEq, if_pos, w64, ↓RS, RG, reduceAdd, reduceMul, reduceLeDiff, tyint]
   refine hK _ _ ?_;clear hK K
   refine XThen.norm ?_
   refine ⟨hg - (j + 1), by omega, 1, j + 1, t2, v, rfl, by omega, ?_, ?_⟩
   ·subst hi; simp [Env.put, Env.of]; omega
   ·subst hi; simp only [take_eq, List.take_succ_cons, List.take_zero]; rw [putTo_succ (by omega) hrow0]; rfl
 ·try simp only [RL] at h
  refine W.exit ?_
  refine XThen.exit ?_
  refine XThen.exit ?_
  refine XBlock.hit ?_
  refine XThen.norm ?_
  refine W.seq_region fun K hK => ?_
  simp (disch := omega) only [↓RU, RV, RH, ↓reduceIte, reduceEqDiff, reduceCtorEq, if_pos, ↓RS, RG, reduceAdd, reduceMul, reduceLeDiff]
  refine hK _ _ ?_;clear hK K
  refine W.ret ?_
  refine BodyQ.ret rfl ?_
  obtain rfl : j = hg := by omega
  exact (reify_loc (k := 9) rfl (by simp [putTo_len]) (mapM_str _)).trans (by simp [putTo_len])
theorem l1Done_pc {p : List Txt} (hs : Sm p) : PC Tryz.prog 186 [eStrs p] (.tup [eStrs (doneP p).1, .bool (doneP p).2]) false := by
 refine PC.of ⟨Tryz.func186, by kernel_rfl, rfl, by kernel_rfl⟩ tabOk mixed (by show 1 ≤ Tryz.f186.ntmps; decide) ?_
 refine W.seq_region fun K hK => ?_
 simp (disch := omega) only [↓RU, RV, RH, ↓reduceIte, reduceEqDiff, reduceCtorEq, if_pos, ↓RS, RG, reduceAdd, reduceMul, reduceLeDiff]
 refine hK _ _ ?_;clear hK K
 refine W.seq ?_
 refine W.seq_region fun K hK => ?_
 rcases hgg : (gridB p, planB (names p)) with ⟨_ | _, _ | _⟩
 ·skip
  simp only [Prod.mk.injEq] at hgg
  obtain ⟨hg1, hg2⟩ := hgg
  simp (disch := omega) only [↓RU, RV, RH, ↓reduceIte, reduceEqDiff, reduceCtorEq, if_pos, List.append_nil, ↓RS, RG, reduceAdd, reduceMul, reduceLeDiff, hg1, hg2]
  refine CallR.pc (l1Grid_pc hs) rfl (.inl rfl) ?_
  simp (disch := omega) only [↓RU, RV, RH, ↓reduceIte, reduceEqDiff, reduceCtorEq, if_pos, List.append_nil, ↓RS, RG, reduceAdd, reduceMul, reduceLeDiff, hg1, hg2]
  refine hK _ _ ?_;clear hK K
  refine W.cond rfl (fun h => ?_) (fun h => ?_)
  ·try simp only [RL] at h
   refine W.seq_region fun K hK => ?_
   simp (disch := omega) only [↓RU, RV, RH, ↓reduceIte, reduceEqDiff, reduceCtorEq, if_pos, List.append_nil, ↓RS, RG, reduceAdd, reduceMul, reduceLeDiff]
   refine CallR.pc (l1None_pc) rfl (.inl rfl) ?_
   simp (disch := omega) only [↓RU, RV, RH, ↓reduceIte, reduceEqDiff, reduceCtorEq, if_pos, List.append_nil, ↓RS, RG, reduceAdd, reduceMul, reduceLeDiff]
   refine hK _ _ ?_;clear hK K
   refine W.ret ?_
   refine XThen.ret ?_
   refine BodyQ.ret rfl ?_
   rw [show doneP p = ([], false) by unfold doneP; rw [hg1]; rfl]
   rfl
  ·try simp only [RL] at h
   exact absurd h (by simp)
 ·skip
  simp only [Prod.mk.injEq] at hgg
  obtain ⟨hg1, hg2⟩ := hgg
  simp (disch := omega) only [↓RU, RV, RH, ↓reduceIte, reduceEqDiff, reduceCtorEq, if_pos, List.append_nil, ↓RS, RG, reduceAdd, reduceMul, reduceLeDiff, hg1, hg2]
  refine CallR.pc (l1Grid_pc hs) rfl (.inl rfl) ?_
  simp (disch := omega) only [↓RU, RV, RH, ↓reduceIte, reduceEqDiff, reduceCtorEq, if_pos, List.append_nil, ↓RS, RG, reduceAdd, reduceMul, reduceLeDiff, hg1, hg2]
  refine hK _ _ ?_;clear hK K
  refine W.cond rfl (fun h => ?_) (fun h => ?_)
  ·try simp only [RL] at h
   refine W.seq_region fun K hK => ?_
   simp (disch := omega) only [↓RU, RV, RH, ↓reduceIte, reduceEqDiff, reduceCtorEq, if_pos, List.append_nil, ↓RS, RG, reduceAdd, reduceMul, reduceLeDiff]
   refine CallR.pc (l1None_pc) rfl (.inl rfl) ?_
   simp (disch := omega) only [↓RU, RV, RH, ↓reduceIte, reduceEqDiff, reduceCtorEq, if_pos, List.append_nil, ↓RS, RG, reduceAdd, reduceMul, reduceLeDiff]
   refine hK _ _ ?_;clear hK K
   refine W.ret ?_
   refine XThen.ret ?_
   refine BodyQ.ret rfl ?_
   rw [show doneP p = ([], false) by unfold doneP; rw [hg1]; rfl]
   rfl
  ·try simp only [RL] at h
   exact absurd h (by simp)
 ·skip
  simp only [Prod.mk.injEq] at hgg
  obtain ⟨hg1, hg2⟩ := hgg
  simp (disch := omega) only [↓RU, RV, RH, ↓reduceIte, reduceEqDiff, reduceCtorEq, if_pos, List.append_nil, ↓RS, RG, reduceAdd, reduceMul, reduceLeDiff, hg1, hg2]
  refine CallR.pc (l1Grid_pc hs) rfl (.inl rfl) ?_
  simp (disch := omega) only [↓RU, RV, RH, ↓reduceIte, reduceEqDiff, reduceCtorEq, if_pos, List.append_nil, ↓RS, RG, reduceAdd, reduceMul, reduceLeDiff, hg1, hg2]
  refine CallR.pc (l1Names_pc hs) rfl (.inl rfl) ?_
  simp (disch := omega) only [↓RU, RV, RH, ↓reduceIte, reduceEqDiff, reduceCtorEq, if_pos, List.append_nil, ↓RS, RG, reduceAdd, reduceMul, reduceLeDiff, hg1, hg2]
  refine CallR.pc (sPlanIn_pc hs.names) rfl (.inl rfl) ?_
  simp (disch := omega) only [↓RU, RV, RH, ↓reduceIte, reduceEqDiff, reduceCtorEq, if_pos, List.append_nil, ↓RS, RG, reduceAdd, reduceMul, reduceLeDiff, hg1, hg2]
  refine hK _ _ ?_;clear hK K
  refine W.cond rfl (fun h => ?_) (fun h => ?_)
  ·try simp only [RL] at h
   refine W.seq_region fun K hK => ?_
   simp (disch := omega) only [↓RU, RV, RH, ↓reduceIte, reduceEqDiff, reduceCtorEq, if_pos, List.append_nil, ↓RS, RG, reduceAdd, reduceMul, reduceLeDiff]
   refine CallR.pc (l1None_pc) rfl (.inl rfl) ?_
   simp (disch := omega) only [↓RU, RV, RH, ↓reduceIte, reduceEqDiff, reduceCtorEq, if_pos, List.append_nil, ↓RS, RG, reduceAdd, reduceMul, reduceLeDiff]
   refine hK _ _ ?_;clear hK K
   refine W.ret ?_
   refine XThen.ret ?_
   refine BodyQ.ret rfl ?_
   rw [show doneP p = ([], false) by unfold doneP; rw [hg1, hg2]; rfl]
   rfl
  ·try simp only [RL] at h
   exact absurd h (by simp)
 ·skip
  simp only [Prod.mk.injEq] at hgg
  obtain ⟨hg1, hg2⟩ := hgg
  simp (disch := omega) only [↓RU, RV, RH, ↓reduceIte, reduceEqDiff, reduceCtorEq, if_pos, List.append_nil, ↓RS, RG, reduceAdd, reduceMul, reduceLeDiff, hg1, hg2]
  refine CallR.pc (l1Grid_pc hs) rfl (.inl rfl) ?_
  simp (disch := omega) only [↓RU, RV, RH, ↓reduceIte, reduceEqDiff, reduceCtorEq, if_pos, List.append_nil, ↓RS, RG, reduceAdd, reduceMul, reduceLeDiff, hg1, hg2]
  refine CallR.pc (l1Names_pc hs) rfl (.inl rfl) ?_
  simp (disch := omega) only [↓RU, RV, RH, ↓reduceIte, reduceEqDiff, reduceCtorEq, if_pos, List.append_nil, ↓RS, RG, reduceAdd, reduceMul, reduceLeDiff, hg1, hg2]
  refine CallR.pc (sPlanIn_pc hs.names) rfl (.inl rfl) ?_
  simp (disch := omega) only [↓RU, RV, RH, ↓reduceIte, reduceEqDiff, reduceCtorEq, if_pos, List.append_nil, ↓RS, RG, reduceAdd, reduceMul, reduceLeDiff, hg1, hg2]
  refine hK _ _ ?_;clear hK K
  refine W.cond rfl (fun h => ?_) (fun h => ?_)
  ·try simp only [RL] at h
   exact absurd h (by simp)
  ·try simp only [RL] at h
   refine W.skip ?_
   refine XThen.norm ?_
   refine W.seq_region fun K hK => ?_
   simp (disch := omega) only [↓RU, RV, RH, ↓reduceIte, reduceEqDiff, reduceCtorEq, if_pos, List.append_nil, ↓RS, RG, reduceAdd, reduceMul, reduceLeDiff]
   refine CallR.pc (l1Names_pc hs) rfl (.inl rfl) ?_
   simp (disch := omega) only [↓RU, RV, RH, ↓reduceIte, reduceEqDiff, reduceCtorEq, if_pos, List.append_nil, ↓RS, RG, reduceAdd, reduceMul, reduceLeDiff]
   refine hK _ _ ?_;clear hK K
   refine W.ret ?_
   refine BodyQ.ret rfl ?_
   rw [show doneP p = (names p, true) by unfold doneP; rw [hg1, hg2]; rfl]
   rfl
theorem planSplit_pc {p : List Txt} (hs : Sm p) (room : Int) {s : Txt} (hsl : s.length ≤ 1048576) (k : Int) : PC Tryz.prog 181 [eStrs p, .int .i64 room, .str s, .int .i64 k] (.tup [eStrs (splitP p room s k).1, .bool (splitP p room s k).2]) false := by
 have hrb := l1Rooms_bound p
 refine PC.of ⟨Tryz.func181, by kernel_rfl, rfl, by kernel_rfl⟩ tabOk mixed (by show 4 ≤ Tryz.f181.ntmps; decide) ?_
 refine W.seq_region fun K hK => ?_
 simp (disch := omega) only [↓RU, RV, RH, ↓reduceIte, reduceEqDiff, reduceCtorEq, if_pos, ↓RS, RG, reduceAdd, reduceMul, reduceLeDiff]
 refine hK _ _ ?_;clear hK K
 refine W.seq ?_
 refine W.seq_region fun K hK => ?_
 simp (disch := omega) only [↓RU, RV, RH, ↓reduceIte, reduceEqDiff, reduceCtorEq, if_pos, List.append_nil, ↓RS, RG, reduceAdd, reduceMul, reduceLeDiff]
 refine CallR.pc (l1Given_pc hs room) rfl (.inl rfl) ?_
 simp (disch := omega) only [↓RU, RV, RH, ↓reduceIte, reduceEqDiff, reduceCtorEq, if_pos, List.append_nil, ↓RS, RG, reduceAdd, reduceMul, reduceLeDiff]
 refine hK _ _ ?_;clear hK K
 refine W.cond rfl (fun h0 => ?_) (fun h0 => ?_)
 ·try simp only [RL] at h0
  have hgv : (planB p && (decide (0 ≤ room) && decide (room ≤ l1Rooms p - 1))) = false := by simpa using h0
  refine W.seq_region fun K hK => ?_
  simp (disch := omega) only [↓RU, RV, RH, ↓reduceIte, reduceEqDiff, reduceCtorEq, if_pos, List.append_nil, ↓RS, RG, reduceAdd, reduceMul, reduceLeDiff]
  refine CallR.pc (l1None_pc) rfl (.inl rfl) ?_
  simp (disch := omega) only [↓RU, RV, RH, ↓reduceIte, reduceEqDiff, reduceCtorEq, if_pos, List.append_nil, ↓RS, RG, reduceAdd, reduceMul, reduceLeDiff]
  refine hK _ _ ?_;clear hK K
  refine W.ret ?_
  refine XThen.ret ?_
  refine BodyQ.ret rfl ?_
  first | (rw [splitP_g hgv]; rfl) | (rw [splitP_h hgv e1 e2 e3 e4 hB1]; rfl) | (rw [splitP_v hgv e1 e2 e3 e4 hB1 hB2]; rfl) | (rw [splitP_no hB1 hB2]; rfl)
 ·try simp only [RL] at h0
  have hgv : (planB p && (decide (0 ≤ room) && decide (room ≤ l1Rooms p - 1))) = true := by simpa using h0
  have hgv2 := hgv
  simp only [Bool.and_eq_true, decide_eq_true_eq] at hgv2
  obtain ⟨hp, hr0, hr1⟩ := hgv2
  obtain ⟨t, l, h, w, e1, e2, e3, e4, q1, q2, q3, q4⟩ := plan_box hp hr0 hr1
  obtain ⟨ps1, ps2, ps3⟩ := plan_small hp
  have hrw : ∀ row ∈ p, row.length = (hdRow p).length := fun row hr => by obtain ⟨i, hi, rfl⟩ := List.getElem_of_mem hr; exact rows_wide hp (List.getElem?_eq_getElem hi)
  have hw6 : (hdRow p).length ≤ 6 := by obtain ⟨row, hrow, hrm⟩ := get_of ps2; rw [← hrw row hrm]; exact (ps3 row hrm).2
  refine W.skip ?_
  refine XThen.norm ?_
  refine W.seq_region fun K hK => ?_
  simp (disch := omega) only [↓RU, RV, RH, ↓reduceIte, reduceEqDiff, reduceCtorEq, if_pos, List.append_nil, ↓RS, RG, reduceAdd, reduceMul, reduceLeDiff, e1, e2, e3, e4]
  refine CallR.pc (l1Room_pc hs (by omega) room) rfl (.inl rfl) ?_
  simp (disch := omega) only [↓RU, RV, RH, ↓reduceIte, reduceEqDiff, reduceCtorEq, if_pos, List.append_nil, ↓RS, RG, reduceAdd, reduceMul, reduceLeDiff, e1, e2, e3, e4]
  refine hK _ _ ?_;clear hK K
  refine W.seq ?_
  refine W.block ?_
  refine W.seq_region fun K hK => ?_
  cases hb1 : (s == ([104] : Txt))
  ·skip
   have hB1 : ((s == [104]) && (decide (1 ≤ k) && decide (k ≤ highOf p room - 1))) = false := by rw [hb1]; rfl
   simp (disch := omega) only [↓RU, RV, RH, ↓reduceIte, reduceEqDiff, reduceCtorEq, if_pos, w64, List.append_nil, ↓RS, RG, reduceAdd, reduceMul, reduceLeDiff, tyint, tystring, hb1, pStr]
   refine hK _ _ ?_;clear hK K
   refine W.cond rfl (fun h1 => ?_) (fun h1 => ?_)
   ·try simp only [RL] at h1
    exact absurd h1 (by simp)
   ·try simp only [RL] at h1
    refine W.seq_region fun K hK => ?_
    cases hb2 : (s == ([118] : Txt))
    ·skip
     have hB2 : ((s == [118]) && (decide (1 ≤ k) && decide (k ≤ wideOf p room - 1))) = false := by rw [hb2]; rfl
     simp (disch := omega) only [↓RU, RV, RH, ↓reduceIte, reduceEqDiff, reduceCtorEq, if_pos, w64, List.append_nil, ↓RS, RG, reduceAdd, reduceMul, reduceLeDiff, tyint, tystring, hb2, pStr]
     refine hK _ _ ?_;clear hK K
     refine W.cond rfl (fun h2 => ?_) (fun h2 => ?_)
     ·try simp only [RL] at h2
      exact absurd h2 (by simp)
     ·try simp only [RL] at h2
      refine W.skip ?_
      refine XBlock.norm ?_
      refine XThen.norm ?_
      refine W.seq_region fun K hK => ?_
      simp (disch := omega) only [↓RU, RV, RH, ↓reduceIte, reduceEqDiff, reduceCtorEq, if_pos, List.append_nil, ↓RS, RG, reduceAdd, reduceMul, reduceLeDiff]
      refine CallR.pc (l1None_pc) rfl (.inl rfl) ?_
      simp (disch := omega) only [↓RU, RV, RH, ↓reduceIte, reduceEqDiff, reduceCtorEq, if_pos, List.append_nil, ↓RS, RG, reduceAdd, reduceMul, reduceLeDiff]
      refine hK _ _ ?_;clear hK K
      refine W.ret ?_
      refine BodyQ.ret rfl ?_
      first | (rw [splitP_g hgv]; rfl) | (rw [splitP_h hgv e1 e2 e3 e4 hB1]; rfl) | (rw [splitP_v hgv e1 e2 e3 e4 hB1 hB2]; rfl) | (rw [splitP_no hB1 hB2]; rfl)
    ·skip
     simp (disch := omega) only [↓RU, RV, RH, ↓reduceIte, reduceEqDiff, reduceCtorEq, if_pos, w64, List.append_nil, ↓RS, RG, reduceAdd, reduceMul, reduceLeDiff, tyint, tystring, hb2, pStr]
     refine CallR.pc (l6In_pc _ _ _) rfl (.inl rfl) ?_
     simp (disch := omega) only [↓RU, RV, RH, ↓reduceIte, reduceEqDiff, reduceCtorEq, if_pos, w64, List.append_nil, ↓RS, RG, reduceAdd, reduceMul, reduceLeDiff, tyint, tystring, hb2, pStr]
     refine hK _ _ ?_;clear hK K
     refine W.cond rfl (fun h2 => ?_) (fun h2 => ?_)
     ·try simp only [RL] at h2
      have hB2 : ((s == [118]) && (decide (1 ≤ k) && decide (k ≤ wideOf p room - 1))) = true := by rw [hb2, e4]; exact h2
      have hk := h2
      simp only [Bool.and_eq_true, decide_eq_true_eq] at hk
      obtain ⟨kn, rfl⟩ : ∃ kn : Nat, k = kn := ⟨k.toNat, by omega⟩
      refine W.seq_region fun K hK => ?_
      simp (disch := omega) only [↓RU, RV, RH, ↓reduceIte, reduceEqDiff, reduceCtorEq, if_pos, w64, List.append_nil, ↓RS, RG, reduceAdd, reduceMul, reduceLeDiff, tyint, show ((l : Int) + (kn : Int)) = ((l + kn : Nat) : Int) from by omega, show ((w : Int) - (kn : Int)) = ((w - kn : Nat) : Int) from by omega]
      refine CallR.pc (l1Put_pc hs (tp := t) (lf := l + kn) (hg := h) (wd := w - kn) (c := 122) (by omega) (fun row hr => by rw [hrw row hr]; omega)) rfl (.inl rfl) ?_
      simp (disch := omega) only [↓RU, RV, RH, ↓reduceIte, reduceEqDiff, reduceCtorEq, if_pos, w64, List.append_nil, ↓RS, RG, reduceAdd, reduceMul, reduceLeDiff, tyint, show ((l : Int) + (kn : Int)) = ((l + kn : Nat) : Int) from by omega, show ((w : Int) - (kn : Int)) = ((w - kn : Nat) : Int) from by omega]
      refine CallR.pc (l1Done_pc (putTo_sm hs)) rfl (.inr rfl) ?_
      simp (disch := omega) only [↓RU, RV, RH, ↓reduceIte, reduceEqDiff, reduceCtorEq, if_pos, w64, List.append_nil, ↓RS, RG, reduceAdd, reduceMul, reduceLeDiff, tyint, show ((l : Int) + (kn : Int)) = ((l + kn : Nat) : Int) from by omega, show ((w : Int) - (kn : Int)) = ((w - kn : Nat) : Int) from by omega]
      refine hK _ _ ?_;clear hK K
      refine W.ret ?_
      refine XBlock.ret ?_
      refine XThen.ret ?_
      refine BodyQ.ret rfl ?_
      first | (rw [splitP_g hgv]; rfl) | (rw [splitP_h hgv e1 e2 e3 e4 hB1]; rfl) | (rw [splitP_v hgv e1 e2 e3 e4 hB1 hB2]; rfl) | (rw [splitP_no hB1 hB2]; rfl)
     ·try simp only [RL] at h2
      have hB2 : ((s == [118]) && (decide (1 ≤ k) && decide (k ≤ wideOf p room - 1))) = false := by rw [hb2, e4]; exact h2
      refine W.skip ?_
      refine XBlock.norm ?_
      refine XThen.norm ?_
      refine W.seq_region fun K hK => ?_
      simp (disch := omega) only [↓RU, RV, RH, ↓reduceIte, reduceEqDiff, reduceCtorEq, if_pos, List.append_nil, ↓RS, RG, reduceAdd, reduceMul, reduceLeDiff]
      refine CallR.pc (l1None_pc) rfl (.inl rfl) ?_
      simp (disch := omega) only [↓RU, RV, RH, ↓reduceIte, reduceEqDiff, reduceCtorEq, if_pos, List.append_nil, ↓RS, RG, reduceAdd, reduceMul, reduceLeDiff]
      refine hK _ _ ?_;clear hK K
      refine W.ret ?_
      refine BodyQ.ret rfl ?_
      first | (rw [splitP_g hgv]; rfl) | (rw [splitP_h hgv e1 e2 e3 e4 hB1]; rfl) | (rw [splitP_v hgv e1 e2 e3 e4 hB1 hB2]; rfl) | (rw [splitP_no hB1 hB2]; rfl)
  ·skip
   simp (disch := omega) only [↓RU, RV, RH, ↓reduceIte, reduceEqDiff, reduceCtorEq, if_pos, w64, List.append_nil, ↓RS, RG, reduceAdd, reduceMul, reduceLeDiff, tyint, tystring, hb1, pStr]
   refine CallR.pc (l6In_pc _ _ _) rfl (.inl rfl) ?_
   simp (disch := omega) only [↓RU, RV, RH, ↓reduceIte, reduceEqDiff, reduceCtorEq, if_pos, w64, List.append_nil, ↓RS, RG, reduceAdd, reduceMul, reduceLeDiff, tyint, tystring, hb1, pStr]
   refine hK _ _ ?_;clear hK K
   refine W.cond rfl (fun h1 => ?_) (fun h1 => ?_)
   ·try simp only [RL] at h1
    have hB1 : ((s == [104]) && (decide (1 ≤ k) && decide (k ≤ highOf p room - 1))) = true := by rw [hb1, e3]; exact h1
    have hk := h1
    simp only [Bool.and_eq_true, decide_eq_true_eq] at hk
    obtain ⟨kn, rfl⟩ : ∃ kn : Nat, k = kn := ⟨k.toNat, by omega⟩
    refine W.seq_region fun K hK => ?_
    simp (disch := omega) only [↓RU, RV, RH, ↓reduceIte, reduceEqDiff, reduceCtorEq, if_pos, w64, List.append_nil, ↓RS, RG, reduceAdd, reduceMul, reduceLeDiff, tyint, show ((t : Int) + (kn : Int)) = ((t + kn : Nat) : Int) from by omega, show ((h : Int) - (kn : Int)) = ((h - kn : Nat) : Int) from by omega]
    refine CallR.pc (l1Put_pc hs (tp := t + kn) (lf := l) (hg := h - kn) (wd := w) (c := 122) (by omega) (fun row hr => by rw [hrw row hr]; omega)) rfl (.inl rfl) ?_
    simp (disch := omega) only [↓RU, RV, RH, ↓reduceIte, reduceEqDiff, reduceCtorEq, if_pos, w64, List.append_nil, ↓RS, RG, reduceAdd, reduceMul, reduceLeDiff, tyint, show ((t : Int) + (kn : Int)) = ((t + kn : Nat) : Int) from by omega, show ((h : Int) - (kn : Int)) = ((h - kn : Nat) : Int) from by omega]
    refine CallR.pc (l1Done_pc (putTo_sm hs)) rfl (.inr rfl) ?_
    simp (disch := omega) only [↓RU, RV, RH, ↓reduceIte, reduceEqDiff, reduceCtorEq, if_pos, w64, List.append_nil, ↓RS, RG, reduceAdd, reduceMul, reduceLeDiff, tyint, show ((t : Int) + (kn : Int)) = ((t + kn : Nat) : Int) from by omega, show ((h : Int) - (kn : Int)) = ((h - kn : Nat) : Int) from by omega]
    refine hK _ _ ?_;clear hK K
    refine W.ret ?_
    refine XBlock.ret ?_
    refine XThen.ret ?_
    refine BodyQ.ret rfl ?_
    first | (rw [splitP_g hgv]; rfl) | (rw [splitP_h hgv e1 e2 e3 e4 hB1]; rfl) | (rw [splitP_v hgv e1 e2 e3 e4 hB1 hB2]; rfl) | (rw [splitP_no hB1 hB2]; rfl)
   ·try simp only [RL] at h1
    have hB1 : ((s == [104]) && (decide (1 ≤ k) && decide (k ≤ highOf p room - 1))) = false := by rw [hb1, e3]; exact h1
    refine W.seq_region fun K hK => ?_
    cases hb2 : (s == ([118] : Txt))
    ·skip
     have hB2 : ((s == [118]) && (decide (1 ≤ k) && decide (k ≤ wideOf p room - 1))) = false := by rw [hb2]; rfl
     simp (disch := omega) only [↓RU, RV, RH, ↓reduceIte, reduceEqDiff, reduceCtorEq, if_pos, w64, List.append_nil, ↓RS, RG, reduceAdd, reduceMul, reduceLeDiff, tyint, tystring, hb2, pStr]
     refine hK _ _ ?_;clear hK K
     refine W.cond rfl (fun h2 => ?_) (fun h2 => ?_)
     ·try simp only [RL] at h2
      exact absurd h2 (by simp)
     ·try simp only [RL] at h2
      refine W.skip ?_
      refine XBlock.norm ?_
      refine XThen.norm ?_
      refine W.seq_region fun K hK => ?_
      simp (disch := omega) only [↓RU, RV, RH, ↓reduceIte, reduceEqDiff, reduceCtorEq, if_pos, List.append_nil, ↓RS, RG, reduceAdd, reduceMul, reduceLeDiff]
      refine CallR.pc (l1None_pc) rfl (.inl rfl) ?_
      simp (disch := omega) only [↓RU, RV, RH, ↓reduceIte, reduceEqDiff, reduceCtorEq, if_pos, List.append_nil, ↓RS, RG, reduceAdd, reduceMul, reduceLeDiff]
      refine hK _ _ ?_;clear hK K
      refine W.ret ?_
      refine BodyQ.ret rfl ?_
      first | (rw [splitP_g hgv]; rfl) | (rw [splitP_h hgv e1 e2 e3 e4 hB1]; rfl) | (rw [splitP_v hgv e1 e2 e3 e4 hB1 hB2]; rfl) | (rw [splitP_no hB1 hB2]; rfl)
    ·skip
     simp (disch := omega) only [↓RU, RV, RH, ↓reduceIte, reduceEqDiff, reduceCtorEq, if_pos, w64, List.append_nil, ↓RS, RG, reduceAdd, reduceMul, reduceLeDiff, tyint, tystring, hb2, pStr]
     refine CallR.pc (l6In_pc _ _ _) rfl (.inl rfl) ?_
     simp (disch := omega) only [↓RU, RV, RH, ↓reduceIte, reduceEqDiff, reduceCtorEq, if_pos, w64, List.append_nil, ↓RS, RG, reduceAdd, reduceMul, reduceLeDiff, tyint, tystring, hb2, pStr]
     refine hK _ _ ?_;clear hK K
     refine W.cond rfl (fun h2 => ?_) (fun h2 => ?_)
     ·try simp only [RL] at h2
      have hB2 : ((s == [118]) && (decide (1 ≤ k) && decide (k ≤ wideOf p room - 1))) = true := by rw [hb2, e4]; exact h2
      have hk := h2
      simp only [Bool.and_eq_true, decide_eq_true_eq] at hk
      obtain ⟨kn, rfl⟩ : ∃ kn : Nat, k = kn := ⟨k.toNat, by omega⟩
      refine W.seq_region fun K hK => ?_
      simp (disch := omega) only [↓RU, RV, RH, ↓reduceIte, reduceEqDiff, reduceCtorEq, if_pos, w64, List.append_nil, ↓RS, RG, reduceAdd, reduceMul, reduceLeDiff, tyint, show ((l : Int) + (kn : Int)) = ((l + kn : Nat) : Int) from by omega, show ((w : Int) - (kn : Int)) = ((w - kn : Nat) : Int) from by omega]
      refine CallR.pc (l1Put_pc hs (tp := t) (lf := l + kn) (hg := h) (wd := w - kn) (c := 122) (by omega) (fun row hr => by rw [hrw row hr]; omega)) rfl (.inl rfl) ?_
      simp (disch := omega) only [↓RU, RV, RH, ↓reduceIte, reduceEqDiff, reduceCtorEq, if_pos, w64, List.append_nil, ↓RS, RG, reduceAdd, reduceMul, reduceLeDiff, tyint, show ((l : Int) + (kn : Int)) = ((l + kn : Nat) : Int) from by omega, show ((w : Int) - (kn : Int)) = ((w - kn : Nat) : Int) from by omega]
      refine CallR.pc (l1Done_pc (putTo_sm hs)) rfl (.inr rfl) ?_
      simp (disch := omega) only [↓RU, RV, RH, ↓reduceIte, reduceEqDiff, reduceCtorEq, if_pos, w64, List.append_nil, ↓RS, RG, reduceAdd, reduceMul, reduceLeDiff, tyint, show ((l : Int) + (kn : Int)) = ((l + kn : Nat) : Int) from by omega, show ((w : Int) - (kn : Int)) = ((w - kn : Nat) : Int) from by omega]
      refine hK _ _ ?_;clear hK K
      refine W.ret ?_
      refine XBlock.ret ?_
      refine XThen.ret ?_
      refine BodyQ.ret rfl ?_
      first | (rw [splitP_g hgv]; rfl) | (rw [splitP_h hgv e1 e2 e3 e4 hB1]; rfl) | (rw [splitP_v hgv e1 e2 e3 e4 hB1 hB2]; rfl) | (rw [splitP_no hB1 hB2]; rfl)
     ·try simp only [RL] at h2
      have hB2 : ((s == [118]) && (decide (1 ≤ k) && decide (k ≤ wideOf p room - 1))) = false := by rw [hb2, e4]; exact h2
      refine W.skip ?_
      refine XBlock.norm ?_
      refine XThen.norm ?_
      refine W.seq_region fun K hK => ?_
      simp (disch := omega) only [↓RU, RV, RH, ↓reduceIte, reduceEqDiff, reduceCtorEq, if_pos, List.append_nil, ↓RS, RG, reduceAdd, reduceMul, reduceLeDiff]
      refine CallR.pc (l1None_pc) rfl (.inl rfl) ?_
      simp (disch := omega) only [↓RU, RV, RH, ↓reduceIte, reduceEqDiff, reduceCtorEq, if_pos, List.append_nil, ↓RS, RG, reduceAdd, reduceMul, reduceLeDiff]
      refine hK _ _ ?_;clear hK K
      refine W.ret ?_
      refine BodyQ.ret rfl ?_
      first | (rw [splitP_g hgv]; rfl) | (rw [splitP_h hgv e1 e2 e3 e4 hB1]; rfl) | (rw [splitP_v hgv e1 e2 e3 e4 hB1 hB2]; rfl) | (rw [splitP_no hB1 hB2]; rfl)
theorem pick_ev {code : Txt} {q vr t : Nat} {R : List Ob} (hc : code.length ≤ 1048576) (hq : q ≤ 1000000) (n : Int) (hn : n ≤ 1000000) (hn0 : -1000000 ≤ n) :
  Ev Tryz.prog 117 [.ref 0 vr 0, .int .i64 n] ⟨.arr vr 119 2 [eBy code, .int .i64 (q : Int)] :: R, t⟩ fun v S => ∃ k : Nat, v = .int .i64 (k : Int) ∧ (n < 1 → k = 0) ∧ (1 ≤ n → (k : Int) < n) ∧ S = ⟨.arr vr 119 2 [eBy code, .int .i64 ((q + 1 : Nat) : Int)] :: R, t⟩ :=
 pick_ev0 hc hq n hn hn0
theorem of_ev {code : Txt} {q vr t v1 : Nat} {R : List Ob} {l : List Txt} (hc : code.length ≤ 1048576) (hq : q ≤ 1000000) (hl : 1 ≤ l.length) (hl2 : l.length ≤ 1000) : Ev Tryz.prog 182 [.ref 0 vr 0, .loc 1 v1 0 l.length] ⟨.arr vr 119 2 [eBy code, .int .i64 (q : Int)] :: .arr v1 9 1 (l.map .str) :: R, t⟩ fun v S => ∃ s, s ∈ l ∧ v = .str s ∧ S = ⟨.arr vr 119 2 [eBy code, .int .i64 ((q + 1 : Nat) : Int)] :: .arr v1 9 1 (l.map .str) :: R, t⟩ := by
 refine Ev.of ⟨Tryz.func182, by kernel_rfl, rfl, by kernel_rfl⟩ tabOk mixed (by show 2 ≤ Tryz.f182.ntmps; decide) ?_
 refine W.seq_region fun K hK => ?_
 simp (disch := omega) only [↓RU, RV, RH, ↓reduceIte, reduceEqDiff, reduceCtorEq, if_pos, ↓RS, RG, reduceAdd, reduceMul, reduceLeDiff]
 refine hK _ _ ?_;clear hK K
 refine W.seq_region fun K hK => ?_
 simp (disch := omega) only [↓RU, RV, RH, ↓reduceIte, reduceEqDiff, reduceCtorEq, if_pos, List.append_nil, ↓RS, RG, reduceAdd, reduceMul, reduceLeDiff, ty5, tystring]
 refine CallR.ev (pick_ev hc hq (l.length : Int) (by omega) (by omega)) ?_
 rintro _ _ ⟨k, rfl, -, hk, rfl⟩
 have hk2 := hk (by omega)
 obtain ⟨s, hsk, hsm⟩ := get_of (show k < l.length by omega)
 simp (disch := omega) only [↓RU, RV, RH, ↓reduceIte, reduceEqDiff, reduceCtorEq, if_pos, List.append_nil, ↓RS, RG, reduceAdd, reduceMul, reduceLeDiff, ty5, tystring, hsk]
 refine hK _ _ ?_;clear hK K
 refine W.ret ?_
 refine BodyQ.ret rfl ?_
 exact ⟨_, s, hsm, rfl, take_all⟩
theorem l91Empty_pc {nh nw : Nat} (hn : nh ≤ 100) (hm : nw ≤ 100) : PC Tryz.prog 172 [.int .i64 nh, .int .i64 nw] (eStrs (List.replicate nh (List.replicate nw (97 : UInt8)))) true := by
 refine PC.of ⟨Tryz.func172, by kernel_rfl, rfl, by kernel_rfl⟩ tabOk mixed (by show 2 ≤ Tryz.f172.ntmps; decide) ?_
 refine W.seq_region fun K hK => ?_
 simp (disch := omega) only [↓RU, RV, RH, ↓reduceIte, reduceEqDiff, reduceCtorEq, if_pos, ↓RS, RG, reduceAdd, reduceMul, reduceLeDiff]
 refine hK _ _ ?_;clear hK K
 refine W.seq_region fun K hK => ?_
 simp (disch := omega) only [↓RU, RV, RH, ↓reduceIte, reduceEqDiff, reduceCtorEq, if_pos, ↓RS, RG, reduceAdd, reduceMul, reduceLeDiff, ty5, tystring]
 refine hK _ _ ?_;clear hK K
 refine W.seq ?_
 refine W.seq_region fun K hK => ?_
 simp (disch := omega) only [↓RU, RV, RH, ↓reduceIte, reduceEqDiff, reduceCtorEq, if_pos, ↓RS, RG, reduceAdd, reduceMul, reduceLeDiff]
 refine hK _ _ ?_;clear hK K
 refine W.block ?_
 refine W.loop [0, 1, 5, 6] (fun n vs S => ∃ i v0 tk : Nat, n = nh - i ∧ i ≤ nh ∧ vs = [.int .i64 nh, .int .i64 nw, .loc 0 v0 0 i, .int .i64 i] ∧ S = ⟨[.arr v0 9 1 ((List.replicate i (List.replicate nw (97 : UInt8))).map .str)], tk⟩) (nh) ?_ ?_
 ·refine ⟨1, 0, 0, 1, rfl, Nat.zero_le _, ?_, rfl⟩
  simp [Env.put, Env.of, argEnv]
 rintro n vs S - ⟨i, v0, tk, rfl, h_i, rfl, rfl⟩
 refine W.seq ?_
 refine W.seq_region fun K hK => ?_
 simp (disch := omega) only [↓RU, RV, RH, ↓reduceIte, reduceEqDiff, reduceCtorEq, if_pos, w64, ↓RS, RG, reduceAdd, reduceMul, reduceLeDiff, tyint]
 refine hK _ _ ?_;clear hK K
 refine W.cond rfl (fun h => ?_) (fun h => ?_)
 ·try simp only [RL] at h
  refine W.skip ?_
  refine XThen.norm ?_
  refine W.seq ?_
  refine W.block ?_
  refine W.seq_region fun K hK => ?_
  simp (disch := omega) only [↓RU, RV, RH, ↓reduceIte, reduceEqDiff, reduceCtorEq, if_pos, ↓RS, RG, reduceAdd, reduceMul, reduceLeDiff, ty6, ty27]
  refine hK _ _ ?_;clear hK K
  refine W.seq ?_
  refine W.seq_region fun K hK => ?_
  simp (disch := omega) only [↓RU, RV, RH, ↓reduceIte, reduceEqDiff, reduceCtorEq, if_pos, ↓RS, RG, reduceAdd, reduceMul, reduceLeDiff]
  refine hK _ _ ?_;clear hK K
  refine W.block ?_
  refine W.loop [0, 1, 5, 6, 7, 8] (fun n vs S => ∃ k v1 tk : Nat, n = nw - k ∧ k ≤ nw ∧ vs = [.int .i64 nh, .int .i64 nw, .loc 0 v0 0 i, .int .i64 i, .loc 1 v1 0 k, .int .i64 k] ∧ S = ⟨[.arr v0 9 1 ((List.replicate i (List.replicate nw (97 : UInt8))).map .str), .arr v1 5 1 ((List.replicate k (97 : UInt8)).map eB)], tk⟩) (nw) ?_ ?_
  ·refine ⟨2, 0, tk, tk + 1, rfl, Nat.zero_le _, ?_, rfl⟩
   simp [Env.put, Env.of]
  rintro n vs S - ⟨k, v1, tk, rfl, h_k, rfl, rfl⟩
  refine W.seq ?_
  refine W.seq_region fun K hK => ?_
  simp (disch := omega) only [↓RU, RV, RH, ↓reduceIte, reduceEqDiff, reduceCtorEq, if_pos, w64, ↓RS, RG, reduceAdd, reduceMul, reduceLeDiff, tyint]
  refine hK _ _ ?_;clear hK K
  refine W.cond rfl (fun h1 => ?_) (fun h1 => ?_)
  ·try simp only [RL] at h1
   refine W.skip ?_
   refine XThen.norm ?_
   refine W.seq ?_
   refine W.block ?_
   refine W.region_k fun K hK => ?_
   simp (disch := omega) only [↓RU, RV, RH, ↓reduceIte, reduceEqDiff, reduceCtorEq, if_pos, ↓RS, RG, reduceAdd, reduceMul, reduceLeDiff, ty6, ty27, List.length_replicate]
   refine hK _ _ ?_;clear hK K
   refine XBlock.norm ?_
   refine XThen.norm ?_
   refine W.region_k fun K hK => ?_
   simp (disch := omega) only [↓RU, RV, RH, ↓reduceIte, reduceEqDiff, reduceCtorEq, if_pos, w64, ↓RS, RG, reduceAdd, reduceMul, reduceLeDiff, tyint]
   refine hK _ _ ?_;clear hK K
   refine XThen.norm ?_
   refine ⟨nw - (k + 1), by omega, 2, k + 1, tk + 1, tk + 2, rfl, by omega, ?_, ?_⟩
   all_goals simp [Env.put, Env.of, take_eq, tk_le, List.replicate_succ', List.map_append]
  ·try simp only [RL] at h1
   obtain rfl : k = nw := by omega
   have hbo := bytesOf_eB (List.replicate k (97 : UInt8))
   have htk : ((List.replicate k (97 : UInt8)).map eB).take k = (List.replicate k (97 : UInt8)).map eB := List.take_of_length_le (by simp)
   refine W.exit ?_
   refine XThen.exit ?_
   refine XThen.exit ?_
   refine XBlock.hit ?_
   refine XThen.norm ?_
   refine W.region_k fun K hK => ?_
   simp (disch := omega) only [↓RU, RV, RH, ↓reduceIte, reduceEqDiff, reduceCtorEq, if_pos, w64, ↓RS, RG, reduceAdd, reduceMul, reduceLeDiff, ty5, ty6, tystring, ty27, List.length_replicate, htk, hbo]
   refine hK _ _ ?_;clear hK K
   refine XBlock.norm ?_
   refine XThen.norm ?_
   refine W.region_k fun K hK => ?_
   simp (disch := omega) only [↓RU, RV, RH, ↓reduceIte, reduceEqDiff, reduceCtorEq, if_pos, w64, ↓RS, RG, reduceAdd, reduceMul, reduceLeDiff, tyint]
   refine hK _ _ ?_;clear hK K
   refine XThen.norm ?_
   refine ⟨nh - (i + 1), by omega, 1, i + 1, tk + 1, tk + 2, rfl, by omega, ?_, ?_⟩
   all_goals simp [Env.put, Env.of, take_eq, tk_le, List.replicate_succ', List.map_append]
 ·try simp only [RL] at h
  obtain rfl : i = nh := by omega
  refine W.exit ?_
  refine XThen.exit ?_
  refine XThen.exit ?_
  refine XBlock.hit ?_
  refine XThen.norm ?_
  refine W.seq_region fun K hK => ?_
  simp (disch := omega) only [↓RU, RV, RH, ↓reduceIte, reduceEqDiff, reduceCtorEq, if_pos, ↓RS, RG, reduceAdd, reduceMul, reduceLeDiff]
  refine hK _ _ ?_;clear hK K
  refine W.ret ?_
  refine BodyQ.ret rfl ?_
  exact (reify_loc (k := 9) rfl (by simp) (mapM_str _)).trans (by simp)
theorem frz_ref0 {S : Store} {k ver off : Nat} : frz S 1 (k + 1) (.ref 0 ver off) = some (.ref 0 ver off) := by simp [frz]
theorem tk_strs (p : List Txt) : List.take p.length (p.map PV.str) = p.map .str := List.take_of_length_le (by simp)
theorem rfz_tstr {S : Store} {lo k : Nat} (l : List Txt) : (l.map PV.str).mapM (rfz S lo (k + 1)) = some (l.map PV.str) := rfz_map (fun _ => rfl) l
theorem plan_sm {p : List Txt} (h : planB p = true) : Sm p := by
 obtain ⟨h1, -, h3⟩ := plan_small h
 exact ⟨by omega, fun r hr => by have := (h3 r hr).2; omega⟩
theorem plan_rooms9 {p : List Txt} (h : planB p = true) : l1Rooms p ≤ 9 := by
 unfold planB at h; simp only [Bool.and_eq_true, decide_eq_true_eq] at h; omega
theorem hv_len {s : Txt} (h : s ∈ ([[104], [118]] : List Txt)) : s.length ≤ 1048576 := by
 simp only [List.mem_cons, List.not_mem_nil, or_false] at h
 rcases h with rfl | rfl <;> simp
theorem l91Cut_ev {code : Txt} {q vr t : Nat} {R : List Ob} (hc : code.length ≤ 1048576) (hq : q ≤ 900000) {p : List Txt} (hp : planB p = true) {many : Nat} (hm : many ≤ 1000) : Ev Tryz.prog 171 [.ref 0 vr 0, eStrs p, .int .i64 many] ⟨.arr vr 119 2 [eBy code, .int .i64 (q : Int)] :: R, t⟩ fun v S => ∃ (p2 : List Txt) (q2 t2 : Nat), v = eStrs p2 ∧ planB p2 = true ∧ p2.length = p.length ∧ q2 ≤ q + 3 * many ∧ S = ⟨[.arr vr 119 2 [eBy code, .int .i64 (q2 : Int)]], t2⟩ := by
 refine Ev.of ⟨Tryz.func171, by kernel_rfl, rfl, by kernel_rfl⟩ tabOk mixed (by show 3 ≤ Tryz.f171.ntmps; decide) ?_
 refine W.seq_region fun K hK => ?_
 simp (disch := omega) only [↓RU, RV, RH, ↓reduceIte, reduceEqDiff, reduceCtorEq, if_pos, ↓RS, RG, reduceAdd, reduceMul, reduceLeDiff]
 refine hK _ _ ?_;clear hK K
 refine W.seq ?_
 refine W.seq_region fun K hK => ?_
 simp (disch := omega) only [↓RU, RV, RH, ↓reduceIte, reduceEqDiff, reduceCtorEq, if_pos, ↓RS, RG, reduceAdd, reduceMul, reduceLeDiff]
 refine hK _ _ ?_;clear hK K
 refine W.block ?_
 refine W.loopZ [0, 1, 2, 7] (fun n vs S => ∃ (i : Nat) (p2 : List Txt) (q2 tk : Nat), n = many - i ∧ i ≤ many ∧ planB p2 = true ∧ p2.length = p.length ∧ q2 ≤ q + 3 * i ∧ vs = [.ref 0 vr 0, eStrs p2, .int .i64 many, .int .i64 i] ∧ S = ⟨[.arr vr 119 2 [eBy code, .int .i64 (q2 : Int)]], tk⟩) many ?_ ?_
 ·refine ⟨1, [.ref 0 vr 0, eStrs p, .int .i64 many, .int .i64 (0 : Nat)], ⟨[.arr vr 119 2 [eBy code, .int .i64 (q : Int)]], t⟩, ?_, ?_, 0, p, q, t, rfl, by omega, hp, rfl, by omega, rfl, rfl⟩
  ·simp [-List.mapM_map, Store.frz, frzObs, frzOb, frz_eInts, frz_loc, rfz_loc, frz_int, frz_sl, frz_ints, rfz_ints, frz_strs, frz_bytes, rfz_bytes, rfz_str, rfz_bool, frz_str, frz_bool, Env.put, Env.of, argEnv, rfz_int, List.mapM_append, List.mapM_cons, frz_ref0, tk_strs, rfz_tstr]
  ·simp [-List.mapM_map, Store.frz, frzObs, frzOb, frz_eInts, frz_loc, rfz_loc, frz_int, frz_sl, frz_ints, rfz_ints, frz_strs, frz_bytes, rfz_bytes, rfz_str, rfz_bool, frz_str, frz_bool, Env.put, Env.of, argEnv, rfz_int, List.mapM_append, List.mapM_cons, frz_ref0, tk_strs, rfz_tstr]
 rintro n vs S - ⟨i, p2, q2, tk, rfl, h_i, hp2, hl2, hq2, rfl, rfl⟩
 refine W.seq ?_
 refine W.seq_region fun K hK => ?_
 simp (disch := omega) only [↓RU, RV, RH, ↓reduceIte, reduceEqDiff, reduceCtorEq, if_pos, w64, ↓RS, RG, reduceAdd, reduceMul, reduceLeDiff, tyint]
 refine hK _ _ ?_;clear hK K
 refine W.cond rfl (fun h => ?_) (fun h => ?_)
 ·try simp only [RL] at h
  have hs2 := plan_sm hp2
  have hr9 := plan_rooms9 hp2
  have hrb := l1Rooms_bound p2
  refine W.skip ?_
  refine XThen.norm ?_
  refine W.seq ?_
  refine W.block ?_
  refine W.seq_region fun K hK => ?_
  simp (disch := omega) only [↓RU, RV, RH, ↓reduceIte, reduceEqDiff, reduceCtorEq, if_pos, List.append_nil, ↓RS, RG, reduceAdd, reduceMul, reduceLeDiff]
  refine CallR.pc (l1Rooms_pc hs2) rfl (.inl rfl) ?_
  simp (disch := omega) only [↓RU, RV, RH, ↓reduceIte, reduceEqDiff, reduceCtorEq, if_pos, List.append_nil, ↓RS, RG, reduceAdd, reduceMul, reduceLeDiff]
  refine CallR.ev (pick_ev hc (by omega) (l1Rooms p2) (by omega) (by omega)) ?_
  rintro _ _ ⟨k1, rfl, -, -, rfl⟩
  simp (disch := omega) only [↓RU, RV, RH, ↓reduceIte, reduceEqDiff, reduceCtorEq, if_pos, List.append_nil, ↓RS, RG, reduceAdd, reduceMul, reduceLeDiff]
  refine hK _ _ ?_;clear hK K
  refine W.seq_region fun K hK => ?_
  simp (disch := omega) only [↓RU, RV, RH, ↓reduceIte, reduceEqDiff, reduceCtorEq, if_pos, List.append_nil, w64, ↓RS, RG, reduceAdd, reduceMul, reduceLeDiff, ty5, tyint, tystring]
  refine CallR.ev (of_ev (R := []) (l := [[104], [118]]) hc (by omega) (by simp) (by simp)) ?_
  rintro _ _ ⟨s, hsm, rfl, rfl⟩
  have hsl := hv_len hsm
  simp (disch := omega) only [↓RU, RV, RH, ↓reduceIte, reduceEqDiff, reduceCtorEq, if_pos, List.append_nil, w64, ↓RS, RG, reduceAdd, reduceMul, reduceLeDiff, ty5, tyint, tystring]
  refine CallR.ev (pick_ev (q := q2 + 1 + 1) hc (by omega) 3 (by omega) (by omega)) ?_
  rintro _ _ ⟨k2, rfl, -, hk2, rfl⟩
  have hk3 := hk2 (by omega)
  simp (disch := omega) only [↓RU, RV, RH, ↓reduceIte, reduceEqDiff, reduceCtorEq, if_pos, List.append_nil, w64, ↓RS, RG, reduceAdd, reduceMul, reduceLeDiff, ty5, tyint, tystring]
  refine CallR.pc (planSplit_pc hs2 k1 hsl (1 + k2)) rfl (.inr rfl) ?_
  simp (disch := omega) only [↓RU, RV, RH, ↓reduceIte, reduceEqDiff, reduceCtorEq, if_pos, List.append_nil, w64, ↓RS, RG, reduceAdd, reduceMul, reduceLeDiff, ty5, tyint, tystring]
  refine hK _ _ ?_;clear hK K
  refine W.seq_region fun K hK => ?_
  simp (disch := omega) only [↓RU, RV, RH, ↓reduceIte, reduceEqDiff, reduceCtorEq, if_pos, ↓RS, RG, reduceAdd, reduceMul, reduceLeDiff]
  refine hK _ _ ?_;clear hK K
  refine W.cond rfl (fun h1 => ?_) (fun h1 => ?_)
  ·try simp only [RL] at h1
   obtain ⟨ho1, ho2⟩ := splitP_ok h1
   refine W.region_k fun K hK => ?_
   simp (disch := omega) only [↓RU, RV, RH, ↓reduceIte, reduceEqDiff, reduceCtorEq, if_pos, ↓RS, RG, reduceAdd, reduceMul, reduceLeDiff]
   refine hK _ _ ?_;clear hK K
   refine XBlock.norm ?_
   refine XThen.norm ?_
   refine W.region_k fun K hK => ?_
   simp (disch := omega) only [↓RU, RV, RH, ↓reduceIte, reduceEqDiff, reduceCtorEq, if_pos, w64, ↓RS, RG, reduceAdd, reduceMul, reduceLeDiff, tyint]
   refine hK _ _ ?_;clear hK K
   refine XThen.norm ?_
   refine ⟨many - (i + 1), by omega, 1, [.ref 0 vr 0, eStrs (splitP p2 k1 s (1 + k2)).1, .int .i64 many, .int .i64 ((i + 1 : Nat) : Int)], ⟨[.arr vr 119 2 [eBy code, .int .i64 ((q2 + 1 + 1 + 1 : Nat) : Int)]], tk + 1⟩, ?_, ?_, i + 1, (splitP p2 k1 s (1 + k2)).1, q2 + 1 + 1 + 1, tk + 1, rfl, by omega, ho1, ho2.trans hl2, by omega, rfl, rfl⟩
   ·simp [-List.mapM_map, Store.frz, frzObs, frzOb, frz_eInts, frz_loc, rfz_loc, frz_int, frz_sl, frz_ints, rfz_ints, frz_strs, frz_bytes, rfz_bytes, rfz_str, rfz_bool, frz_str, frz_bool, Env.put, Env.of, argEnv, rfz_int, List.mapM_append, List.mapM_cons, frz_ref0, tk_strs, rfz_tstr]
   ·simp [-List.mapM_map, Store.frz, frzObs, frzOb, frz_eInts, frz_loc, rfz_loc, frz_int, frz_sl, frz_ints, rfz_ints, frz_strs, frz_bytes, rfz_bytes, rfz_str, rfz_bool, frz_str, frz_bool, Env.put, Env.of, argEnv, rfz_int, List.mapM_append, List.mapM_cons, frz_ref0, tk_strs, rfz_tstr]
  ·try simp only [RL] at h1
   refine W.skip ?_
   refine XBlock.norm ?_
   refine XThen.norm ?_
   refine W.region_k fun K hK => ?_
   simp (disch := omega) only [↓RU, RV, RH, ↓reduceIte, reduceEqDiff, reduceCtorEq, if_pos, w64, ↓RS, RG, reduceAdd, reduceMul, reduceLeDiff, tyint]
   refine hK _ _ ?_;clear hK K
   refine XThen.norm ?_
   refine ⟨many - (i + 1), by omega, 1, [.ref 0 vr 0, eStrs p2, .int .i64 many, .int .i64 ((i + 1 : Nat) : Int)], ⟨[.arr vr 119 2 [eBy code, .int .i64 ((q2 + 1 + 1 + 1 : Nat) : Int)]], tk + 1⟩, ?_, ?_, i + 1, p2, q2 + 1 + 1 + 1, tk + 1, rfl, by omega, hp2, hl2, by omega, rfl, rfl⟩
   ·simp [-List.mapM_map, Store.frz, frzObs, frzOb, frz_eInts, frz_loc, rfz_loc, frz_int, frz_sl, frz_ints, rfz_ints, frz_strs, frz_bytes, rfz_bytes, rfz_str, rfz_bool, frz_str, frz_bool, Env.put, Env.of, argEnv, rfz_int, List.mapM_append, List.mapM_cons, frz_ref0, tk_strs, rfz_tstr]
   ·simp [-List.mapM_map, Store.frz, frzObs, frzOb, frz_eInts, frz_loc, rfz_loc, frz_int, frz_sl, frz_ints, rfz_ints, frz_strs, frz_bytes, rfz_bytes, rfz_str, rfz_bool, frz_str, frz_bool, Env.put, Env.of, argEnv, rfz_int, List.mapM_append, List.mapM_cons, frz_ref0, tk_strs, rfz_tstr]
 ·try simp only [RL] at h
  obtain rfl : i = many := by omega
  refine W.exit ?_
  refine XThen.exit ?_
  refine XThen.exit ?_
  refine XBlock.hit ?_
  refine XThen.norm ?_
  refine W.seq_region fun K hK => ?_
  simp (disch := omega) only [↓RU, RV, RH, ↓reduceIte, reduceEqDiff, reduceCtorEq, if_pos, ↓RS, RG, reduceAdd, reduceMul, reduceLeDiff]
  refine hK _ _ ?_;clear hK K
  refine W.ret ?_
  refine BodyQ.ret rfl ?_
  exact ⟨_, p2, q2, tk, rfl, hp2, hl2, by omega, take_all⟩
theorem l91Cut_loc {code : Txt} {q vr t v1 : Nat} {R : List Ob} (hc : code.length ≤ 1048576) (hq : q ≤ 900000) {p : List Txt} (hp : planB p = true) {many : Nat} (hm : many ≤ 1000) : Ev Tryz.prog 171 [.ref 0 vr 0, .loc 1 v1 0 p.length, .int .i64 many] ⟨.arr vr 119 2 [eBy code, .int .i64 (q : Int)] :: .arr v1 9 1 (p.map .str) :: R, t⟩ fun v S => ∃ (p2 : List Txt) (q2 t2 : Nat), v = eStrs p2 ∧ planB p2 = true ∧ p2.length = p.length ∧ q2 ≤ q + 3 * many ∧ S = ⟨[.arr vr 119 2 [eBy code, .int .i64 (q2 : Int)]], t2⟩ := by
 refine Ev.of ⟨Tryz.func171, by kernel_rfl, rfl, by kernel_rfl⟩ tabOk mixed (by show 3 ≤ Tryz.f171.ntmps; decide) ?_
 refine W.seq_region fun K hK => ?_
 simp (disch := omega) only [↓RU, RV, RH, ↓reduceIte, reduceEqDiff, reduceCtorEq, if_pos, ↓RS, RG, reduceAdd, reduceMul, reduceLeDiff]
 refine hK _ _ ?_;clear hK K
 refine W.seq ?_
 refine W.seq_region fun K hK => ?_
 simp (disch := omega) only [↓RU, RV, RH, ↓reduceIte, reduceEqDiff, reduceCtorEq, if_pos, ↓RS, RG, reduceAdd, reduceMul, reduceLeDiff]
 refine hK _ _ ?_;clear hK K
 refine W.block ?_
 refine W.loopZ [0, 1, 2, 7] (fun n vs S => ∃ (i : Nat) (p2 : List Txt) (q2 tk : Nat), n = many - i ∧ i ≤ many ∧ planB p2 = true ∧ p2.length = p.length ∧ q2 ≤ q + 3 * i ∧ vs = [.ref 0 vr 0, eStrs p2, .int .i64 many, .int .i64 i] ∧ S = ⟨[.arr vr 119 2 [eBy code, .int .i64 (q2 : Int)]], tk⟩) many ?_ ?_
 ·refine ⟨1, [.ref 0 vr 0, eStrs p, .int .i64 many, .int .i64 (0 : Nat)], ⟨[.arr vr 119 2 [eBy code, .int .i64 (q : Int)]], t⟩, ?_, ?_, 0, p, q, t, rfl, by omega, hp, rfl, by omega, rfl, rfl⟩
  ·simp [-List.mapM_map, Store.frz, frzObs, frzOb, frz_eInts, frz_loc, rfz_loc, frz_int, frz_sl, frz_ints, rfz_ints, frz_strs, frz_bytes, rfz_bytes, rfz_str, rfz_bool, frz_str, frz_bool, Env.put, Env.of, argEnv, rfz_int, List.mapM_append, List.mapM_cons, frz_ref0, tk_strs, rfz_tstr]
  ·simp [-List.mapM_map, Store.frz, frzObs, frzOb, frz_eInts, frz_loc, rfz_loc, frz_int, frz_sl, frz_ints, rfz_ints, frz_strs, frz_bytes, rfz_bytes, rfz_str, rfz_bool, frz_str, frz_bool, Env.put, Env.of, argEnv, rfz_int, List.mapM_append, List.mapM_cons, frz_ref0, tk_strs, rfz_tstr]
 rintro n vs S - ⟨i, p2, q2, tk, rfl, h_i, hp2, hl2, hq2, rfl, rfl⟩
 refine W.seq ?_
 refine W.seq_region fun K hK => ?_
 simp (disch := omega) only [↓RU, RV, RH, ↓reduceIte, reduceEqDiff, reduceCtorEq, if_pos, w64, ↓RS, RG, reduceAdd, reduceMul, reduceLeDiff, tyint]
 refine hK _ _ ?_;clear hK K
 refine W.cond rfl (fun h => ?_) (fun h => ?_)
 ·try simp only [RL] at h
  have hs2 := plan_sm hp2
  have hr9 := plan_rooms9 hp2
  have hrb := l1Rooms_bound p2
  refine W.skip ?_
  refine XThen.norm ?_
  refine W.seq ?_
  refine W.block ?_
  refine W.seq_region fun K hK => ?_
  simp (disch := omega) only [↓RU, RV, RH, ↓reduceIte, reduceEqDiff, reduceCtorEq, if_pos, List.append_nil, ↓RS, RG, reduceAdd, reduceMul, reduceLeDiff]
  refine CallR.pc (l1Rooms_pc hs2) rfl (.inl rfl) ?_
  simp (disch := omega) only [↓RU, RV, RH, ↓reduceIte, reduceEqDiff, reduceCtorEq, if_pos, List.append_nil, ↓RS, RG, reduceAdd, reduceMul, reduceLeDiff]
  refine CallR.ev (pick_ev hc (by omega) (l1Rooms p2) (by omega) (by omega)) ?_
  rintro _ _ ⟨k1, rfl, -, -, rfl⟩
  simp (disch := omega) only [↓RU, RV, RH, ↓reduceIte, reduceEqDiff, reduceCtorEq, if_pos, List.append_nil, ↓RS, RG, reduceAdd, reduceMul, reduceLeDiff]
  refine hK _ _ ?_;clear hK K
  refine W.seq_region fun K hK => ?_
  simp (disch := omega) only [↓RU, RV, RH, ↓reduceIte, reduceEqDiff, reduceCtorEq, if_pos, List.append_nil, w64, ↓RS, RG, reduceAdd, reduceMul, reduceLeDiff, ty5, tyint, tystring]
  refine CallR.ev (of_ev (R := []) (l := [[104], [118]]) hc (by omega) (by simp) (by simp)) ?_
  rintro _ _ ⟨s, hsm, rfl, rfl⟩
  have hsl := hv_len hsm
  simp (disch := omega) only [↓RU, RV, RH, ↓reduceIte, reduceEqDiff, reduceCtorEq, if_pos, List.append_nil, w64, ↓RS, RG, reduceAdd, reduceMul, reduceLeDiff, ty5, tyint, tystring]
  refine CallR.ev (pick_ev (q := q2 + 1 + 1) hc (by omega) 3 (by omega) (by omega)) ?_
  rintro _ _ ⟨k2, rfl, -, hk2, rfl⟩
  have hk3 := hk2 (by omega)
  simp (disch := omega) only [↓RU, RV, RH, ↓reduceIte, reduceEqDiff, reduceCtorEq, if_pos, List.append_nil, w64, ↓RS, RG, reduceAdd, reduceMul, reduceLeDiff, ty5, tyint, tystring]
  refine CallR.pc (planSplit_pc hs2 k1 hsl (1 + k2)) rfl (.inr rfl) ?_
  simp (disch := omega) only [↓RU, RV, RH, ↓reduceIte, reduceEqDiff, reduceCtorEq, if_pos, List.append_nil, w64, ↓RS, RG, reduceAdd, reduceMul, reduceLeDiff, ty5, tyint, tystring]
  refine hK _ _ ?_;clear hK K
  refine W.seq_region fun K hK => ?_
  simp (disch := omega) only [↓RU, RV, RH, ↓reduceIte, reduceEqDiff, reduceCtorEq, if_pos, ↓RS, RG, reduceAdd, reduceMul, reduceLeDiff]
  refine hK _ _ ?_;clear hK K
  refine W.cond rfl (fun h1 => ?_) (fun h1 => ?_)
  ·try simp only [RL] at h1
   obtain ⟨ho1, ho2⟩ := splitP_ok h1
   refine W.region_k fun K hK => ?_
   simp (disch := omega) only [↓RU, RV, RH, ↓reduceIte, reduceEqDiff, reduceCtorEq, if_pos, ↓RS, RG, reduceAdd, reduceMul, reduceLeDiff]
   refine hK _ _ ?_;clear hK K
   refine XBlock.norm ?_
   refine XThen.norm ?_
   refine W.region_k fun K hK => ?_
   simp (disch := omega) only [↓RU, RV, RH, ↓reduceIte, reduceEqDiff, reduceCtorEq, if_pos, w64, ↓RS, RG, reduceAdd, reduceMul, reduceLeDiff, tyint]
   refine hK _ _ ?_;clear hK K
   refine XThen.norm ?_
   refine ⟨many - (i + 1), by omega, 1, [.ref 0 vr 0, eStrs (splitP p2 k1 s (1 + k2)).1, .int .i64 many, .int .i64 ((i + 1 : Nat) : Int)], ⟨[.arr vr 119 2 [eBy code, .int .i64 ((q2 + 1 + 1 + 1 : Nat) : Int)]], tk + 1⟩, ?_, ?_, i + 1, (splitP p2 k1 s (1 + k2)).1, q2 + 1 + 1 + 1, tk + 1, rfl, by omega, ho1, ho2.trans hl2, by omega, rfl, rfl⟩
   ·simp [-List.mapM_map, Store.frz, frzObs, frzOb, frz_eInts, frz_loc, rfz_loc, frz_int, frz_sl, frz_ints, rfz_ints, frz_strs, frz_bytes, rfz_bytes, rfz_str, rfz_bool, frz_str, frz_bool, Env.put, Env.of, argEnv, rfz_int, List.mapM_append, List.mapM_cons, frz_ref0, tk_strs, rfz_tstr]
   ·simp [-List.mapM_map, Store.frz, frzObs, frzOb, frz_eInts, frz_loc, rfz_loc, frz_int, frz_sl, frz_ints, rfz_ints, frz_strs, frz_bytes, rfz_bytes, rfz_str, rfz_bool, frz_str, frz_bool, Env.put, Env.of, argEnv, rfz_int, List.mapM_append, List.mapM_cons, frz_ref0, tk_strs, rfz_tstr]
  ·try simp only [RL] at h1
   refine W.skip ?_
   refine XBlock.norm ?_
   refine XThen.norm ?_
   refine W.region_k fun K hK => ?_
   simp (disch := omega) only [↓RU, RV, RH, ↓reduceIte, reduceEqDiff, reduceCtorEq, if_pos, w64, ↓RS, RG, reduceAdd, reduceMul, reduceLeDiff, tyint]
   refine hK _ _ ?_;clear hK K
   refine XThen.norm ?_
   refine ⟨many - (i + 1), by omega, 1, [.ref 0 vr 0, eStrs p2, .int .i64 many, .int .i64 ((i + 1 : Nat) : Int)], ⟨[.arr vr 119 2 [eBy code, .int .i64 ((q2 + 1 + 1 + 1 : Nat) : Int)]], tk + 1⟩, ?_, ?_, i + 1, p2, q2 + 1 + 1 + 1, tk + 1, rfl, by omega, hp2, hl2, by omega, rfl, rfl⟩
   ·simp [-List.mapM_map, Store.frz, frzObs, frzOb, frz_eInts, frz_loc, rfz_loc, frz_int, frz_sl, frz_ints, rfz_ints, frz_strs, frz_bytes, rfz_bytes, rfz_str, rfz_bool, frz_str, frz_bool, Env.put, Env.of, argEnv, rfz_int, List.mapM_append, List.mapM_cons, frz_ref0, tk_strs, rfz_tstr]
   ·simp [-List.mapM_map, Store.frz, frzObs, frzOb, frz_eInts, frz_loc, rfz_loc, frz_int, frz_sl, frz_ints, rfz_ints, frz_strs, frz_bytes, rfz_bytes, rfz_str, rfz_bool, frz_str, frz_bool, Env.put, Env.of, argEnv, rfz_int, List.mapM_append, List.mapM_cons, frz_ref0, tk_strs, rfz_tstr]
 ·try simp only [RL] at h
  obtain rfl : i = many := by omega
  refine W.exit ?_
  refine XThen.exit ?_
  refine XThen.exit ?_
  refine XBlock.hit ?_
  refine XThen.norm ?_
  refine W.seq_region fun K hK => ?_
  simp (disch := omega) only [↓RU, RV, RH, ↓reduceIte, reduceEqDiff, reduceCtorEq, if_pos, ↓RS, RG, reduceAdd, reduceMul, reduceLeDiff]
  refine hK _ _ ?_;clear hK K
  refine W.ret ?_
  refine BodyQ.ret rfl ?_
  exact ⟨_, p2, q2, tk, rfl, hp2, hl2, by omega, take_all⟩
theorem empty_plan {nh nw : Nat} (h1 : 1 ≤ nh) (h2 : nh ≤ 6) (w1 : 1 ≤ nw) (w2 : nw ≤ 6) : planB (List.replicate nh (List.replicate nw (97 : UInt8))) = true := by
 rcases (show nh = 1 ∨ nh = 2 ∨ nh = 3 ∨ nh = 4 ∨ nh = 5 ∨ nh = 6 by omega) with rfl | rfl | rfl | rfl | rfl | rfl <;>
 rcases (show nw = 1 ∨ nw = 2 ∨ nw = 3 ∨ nw = 4 ∨ nw = 5 ∨ nw = 6 by omega) with rfl | rfl | rfl | rfl | rfl | rfl <;> decide +kernel
def wheel3 : List Txt := [[97, 97, 98], [99, 100, 98], [99, 101, 101]]
def wheel4 : List Txt := [[97, 97, 97, 98], [99, 100, 100, 98], [99, 100, 100, 98], [99, 101, 101, 101]]
theorem wheel3_plan : planB wheel3 = true := by decide +kernel
theorem wheel4_plan : planB wheel4 = true := by decide +kernel
theorem l91Plan_ev {code : Txt} {q vr t : Nat} (hc : code.length ≤ 1048576) (hq : q ≤ 800000) {nh nw : Nat} (h1 : 1 ≤ nh) (h2 : nh ≤ 6) (w1 : 1 ≤ nw) (w2 : nw ≤ 6) : Ev Tryz.prog 143 [.ref 0 vr 0, .int .i64 nh, .int .i64 nw] ⟨[.arr vr 119 2 [eBy code, .int .i64 (q : Int)]], t⟩ fun v S => ∃ (p2 : List Txt) (q2 t2 : Nat), v = eStrs p2 ∧ planB p2 = true ∧ p2.length = nh ∧ q2 ≤ q + 100 ∧ S = ⟨[.arr vr 119 2 [eBy code, .int .i64 (q2 : Int)]], t2⟩ := by
 refine Ev.of ⟨Tryz.func143, by kernel_rfl, rfl, by kernel_rfl⟩ tabOk mixed (by show 3 ≤ Tryz.f143.ntmps; decide) ?_
 refine W.seq_region fun K hK => ?_
 simp (disch := omega) only [↓RU, RV, RH, ↓reduceIte, reduceEqDiff, reduceCtorEq, if_pos, ↓RS, RG, reduceAdd, reduceMul, reduceLeDiff]
 refine hK _ _ ?_;clear hK K
 refine W.seq ?_
 refine W.join [0, 1, 2, 17] (fun vs S => ∃ (q2 : Nat) (b : Bool), q2 ≤ q + 1 ∧ (b = true → nh = 3) ∧ vs = [.ref 0 vr 0, .int .i64 nh, .int .i64 nw, .bool b] ∧ S = ⟨[.arr vr 119 2 [eBy code, .int .i64 (q2 : Int)]], t⟩) ?_ ?_
 ·
  refine W.region_k fun K hK => ?_
  rcases hd : (((nh : Int) == 3), ((nw : Int) == 3)) with ⟨_ | _, _ | _⟩
  ·skip
   simp only [Prod.mk.injEq] at hd
   obtain ⟨hd1, hd2⟩ := hd
   simp (disch := omega) only [↓RU, RV, RH, ↓reduceIte, reduceEqDiff, reduceCtorEq, if_pos, w64, List.append_nil, ↓RS, RG, reduceAdd, reduceMul, reduceLeDiff, tyint, hd1, hd2]
   refine hK _ _ ?_;clear hK K
   refine XThen.norm ?_
   refine ⟨_, q, false, by omega, fun h9 => (by cases h9), ?_, take_all⟩
   simp [Env.put, Env.of, argEnv]
  ·skip
   simp only [Prod.mk.injEq] at hd
   obtain ⟨hd1, hd2⟩ := hd
   simp (disch := omega) only [↓RU, RV, RH, ↓reduceIte, reduceEqDiff, reduceCtorEq, if_pos, w64, List.append_nil, ↓RS, RG, reduceAdd, reduceMul, reduceLeDiff, tyint, hd1, hd2]
   refine hK _ _ ?_;clear hK K
   refine XThen.norm ?_
   refine ⟨_, q, false, by omega, fun h9 => (by cases h9), ?_, take_all⟩
   simp [Env.put, Env.of, argEnv]
  ·skip
   simp only [Prod.mk.injEq] at hd
   obtain ⟨hd1, hd2⟩ := hd
   simp (disch := omega) only [↓RU, RV, RH, ↓reduceIte, reduceEqDiff, reduceCtorEq, if_pos, w64, List.append_nil, ↓RS, RG, reduceAdd, reduceMul, reduceLeDiff, tyint, hd1, hd2]
   refine hK _ _ ?_;clear hK K
   refine XThen.norm ?_
   refine ⟨_, q, false, by omega, fun h9 => (by cases h9), ?_, take_all⟩
   simp [Env.put, Env.of, argEnv]
  ·skip
   simp only [Prod.mk.injEq] at hd
   obtain ⟨hd1, hd2⟩ := hd
   simp (disch := omega) only [↓RU, RV, RH, ↓reduceIte, reduceEqDiff, reduceCtorEq, if_pos, w64, List.append_nil, ↓RS, RG, reduceAdd, reduceMul, reduceLeDiff, tyint, hd1, hd2]
   refine CallR.ev (pick_ev (q := q) hc (by omega) 2 (by omega) (by omega)) ?_
   rintro _ _ ⟨k1, rfl, -, hk1, rfl⟩
   have hk1b := hk1 (by omega)
   simp (disch := omega) only [↓RU, RV, RH, ↓reduceIte, reduceEqDiff, reduceCtorEq, if_pos, w64, List.append_nil, ↓RS, RG, reduceAdd, reduceMul, reduceLeDiff, tyint, hd1, hd2]
   refine hK _ _ ?_;clear hK K
   refine XThen.norm ?_
   refine ⟨_, q + 1, ((k1 : Int) == 0), by omega, fun _ => (by have := beq_iff_eq.1 hd1; omega), ?_, take_all⟩
   simp [Env.put, Env.of, argEnv]
 rintro vs S - ⟨qa, b3, hqa, hb3, rfl, rfl⟩
 refine W.cond rfl (fun h3 => ?_) (fun h3 => ?_)
 ·try simp only [RL] at h3
  refine W.seq_region fun K hK => ?_
  simp (disch := omega) only [↓RU, RV, RH, ↓reduceIte, reduceEqDiff, reduceCtorEq, if_pos, List.append_nil, ↓RS, RG, reduceAdd, reduceMul, reduceLeDiff, ty5, tystring]
  refine CallR.ev (pick_ev (q := qa) hc (by omega) 2 (by omega) (by omega)) ?_
  rintro _ _ ⟨k1, rfl, -, hk1, rfl⟩
  have hk1b := hk1 (by omega)
  simp (disch := omega) only [↓RU, RV, RH, ↓reduceIte, reduceEqDiff, reduceCtorEq, if_pos, List.append_nil, ↓RS, RG, reduceAdd, reduceMul, reduceLeDiff, ty5, tystring]
  refine CallR.ev (l91Cut_loc (q := qa + 1) (R := []) hc (by omega) wheel3_plan (many := k1) (by omega)) ?_
  rintro _ _ ⟨p2, q2, t2, rfl, hp2, hl2, hq2, rfl⟩
  simp (disch := omega) only [↓RU, RV, RH, ↓reduceIte, reduceEqDiff, reduceCtorEq, if_pos, List.append_nil, ↓RS, RG, reduceAdd, reduceMul, reduceLeDiff, ty5, tystring]
  refine hK _ _ ?_;clear hK K
  refine W.ret ?_
  refine XThen.ret ?_
  refine BodyQ.ret rfl ?_
  exact ⟨_, p2, q2, t2, rfl, hp2, hl2.trans (hb3 h3).symm, by omega, take_all⟩
 ·try simp only [RL] at h3
  refine W.skip ?_
  refine XThen.norm ?_
  refine W.seq ?_
  refine W.join [0, 1, 2, 33] (fun vs S => ∃ (q2 : Nat) (b : Bool), q2 ≤ q + 2 ∧ (b = true → nh = 4) ∧ vs = [.ref 0 vr 0, .int .i64 nh, .int .i64 nw, .bool b] ∧ S = ⟨[.arr vr 119 2 [eBy code, .int .i64 (q2 : Int)]], t⟩) ?_ ?_
  ·
   refine W.region_k fun K hK => ?_
   rcases hd : (((nh : Int) == 4), ((nw : Int) == 4)) with ⟨_ | _, _ | _⟩
   ·skip
    simp only [Prod.mk.injEq] at hd
    obtain ⟨hd1, hd2⟩ := hd
    simp (disch := omega) only [↓RU, RV, RH, ↓reduceIte, reduceEqDiff, reduceCtorEq, if_pos, w64, List.append_nil, ↓RS, RG, reduceAdd, reduceMul, reduceLeDiff, tyint, hd1, hd2]
    refine hK _ _ ?_;clear hK K
    refine XThen.norm ?_
    refine ⟨_, qa, false, by omega, fun h9 => (by cases h9), ?_, take_all⟩
    simp [Env.put, Env.of, argEnv]
   ·skip
    simp only [Prod.mk.injEq] at hd
    obtain ⟨hd1, hd2⟩ := hd
    simp (disch := omega) only [↓RU, RV, RH, ↓reduceIte, reduceEqDiff, reduceCtorEq, if_pos, w64, List.append_nil, ↓RS, RG, reduceAdd, reduceMul, reduceLeDiff, tyint, hd1, hd2]
    refine hK _ _ ?_;clear hK K
    refine XThen.norm ?_
    refine ⟨_, qa, false, by omega, fun h9 => (by cases h9), ?_, take_all⟩
    simp [Env.put, Env.of, argEnv]
   ·skip
    simp only [Prod.mk.injEq] at hd
    obtain ⟨hd1, hd2⟩ := hd
    simp (disch := omega) only [↓RU, RV, RH, ↓reduceIte, reduceEqDiff, reduceCtorEq, if_pos, w64, List.append_nil, ↓RS, RG, reduceAdd, reduceMul, reduceLeDiff, tyint, hd1, hd2]
    refine hK _ _ ?_;clear hK K
    refine XThen.norm ?_
    refine ⟨_, qa, false, by omega, fun h9 => (by cases h9), ?_, take_all⟩
    simp [Env.put, Env.of, argEnv]
   ·skip
    simp only [Prod.mk.injEq] at hd
    obtain ⟨hd1, hd2⟩ := hd
    simp (disch := omega) only [↓RU, RV, RH, ↓reduceIte, reduceEqDiff, reduceCtorEq, if_pos, w64, List.append_nil, ↓RS, RG, reduceAdd, reduceMul, reduceLeDiff, tyint, hd1, hd2]
    refine CallR.ev (pick_ev (q := qa) hc (by omega) 2 (by omega) (by omega)) ?_
    rintro _ _ ⟨k1, rfl, -, hk1, rfl⟩
    have hk1b := hk1 (by omega)
    simp (disch := omega) only [↓RU, RV, RH, ↓reduceIte, reduceEqDiff, reduceCtorEq, if_pos, w64, List.append_nil, ↓RS, RG, reduceAdd, reduceMul, reduceLeDiff, tyint, hd1, hd2]
    refine hK _ _ ?_;clear hK K
    refine XThen.norm ?_
    refine ⟨_, qa + 1, ((k1 : Int) == 0), by omega, fun _ => (by have := beq_iff_eq.1 hd1; omega), ?_, take_all⟩
    simp [Env.put, Env.of, argEnv]
  rintro vs S - ⟨qb, b4, hqb, hb4, rfl, rfl⟩
  refine W.cond rfl (fun h4 => ?_) (fun h4 => ?_)
  ·try simp only [RL] at h4
   refine W.seq_region fun K hK => ?_
   simp (disch := omega) only [↓RU, RV, RH, ↓reduceIte, reduceEqDiff, reduceCtorEq, if_pos, List.append_nil, ↓RS, RG, reduceAdd, reduceMul, reduceLeDiff, ty5, tystring]
   refine CallR.ev (pick_ev (q := qb) hc (by omega) 4 (by omega) (by omega)) ?_
   rintro _ _ ⟨k2, rfl, -, hk2, rfl⟩
   have hk2b := hk2 (by omega)
   simp (disch := omega) only [↓RU, RV, RH, ↓reduceIte, reduceEqDiff, reduceCtorEq, if_pos, List.append_nil, ↓RS, RG, reduceAdd, reduceMul, reduceLeDiff, ty5, tystring]
   refine CallR.ev (l91Cut_loc (q := qb + 1) (R := []) hc (by omega) wheel4_plan (many := k2) (by omega)) ?_
   rintro _ _ ⟨p2, q2, t2, rfl, hp2, hl2, hq2, rfl⟩
   simp (disch := omega) only [↓RU, RV, RH, ↓reduceIte, reduceEqDiff, reduceCtorEq, if_pos, List.append_nil, ↓RS, RG, reduceAdd, reduceMul, reduceLeDiff, ty5, tystring]
   refine hK _ _ ?_;clear hK K
   refine W.ret ?_
   refine XThen.ret ?_
   refine BodyQ.ret rfl ?_
   exact ⟨_, p2, q2, t2, rfl, hp2, hl2.trans (hb4 h4).symm, by omega, take_all⟩
  ·try simp only [RL] at h4
   refine W.skip ?_
   refine XThen.norm ?_
   refine W.seq_region fun K hK => ?_
   simp (disch := omega) only [↓RU, RV, RH, ↓reduceIte, reduceEqDiff, reduceCtorEq, if_pos, List.append_nil, ↓RS, RG, reduceAdd, reduceMul, reduceLeDiff]
   refine CallR.pc (l91Empty_pc (nh := nh) (nw := nw) (by omega) (by omega)) rfl (.inl rfl) ?_
   simp (disch := omega) only [↓RU, RV, RH, ↓reduceIte, reduceEqDiff, reduceCtorEq, if_pos, List.append_nil, ↓RS, RG, reduceAdd, reduceMul, reduceLeDiff]
   refine CallR.ev (pick_ev (q := qb) hc (by omega) 9 (by omega) (by omega)) ?_
   rintro _ _ ⟨k3, rfl, -, hk3, rfl⟩
   have hk3b := hk3 (by omega)
   simp (disch := omega) only [↓RU, RV, RH, ↓reduceIte, reduceEqDiff, reduceCtorEq, if_pos, List.append_nil, ↓RS, RG, reduceAdd, reduceMul, reduceLeDiff]
   refine CallR.ev (l91Cut_ev (q := qb + 1) (R := []) hc (by omega) (empty_plan h1 h2 w1 w2) (many := k3) (by omega)) ?_
   rintro _ _ ⟨p2, q2, t2, rfl, hp2, hl2, hq2, rfl⟩
   simp (disch := omega) only [↓RU, RV, RH, ↓reduceIte, reduceEqDiff, reduceCtorEq, if_pos, List.append_nil, ↓RS, RG, reduceAdd, reduceMul, reduceLeDiff]
   refine hK _ _ ?_;clear hK K
   refine W.ret ?_
   refine BodyQ.ret rfl ?_
   exact ⟨_, p2, q2, t2, rfl, hp2, by simpa using hl2, by omega, take_all⟩
theorem sm_set {p : List Txt} (h : Sm p) {i : Nat} {r : Txt} (hr : r.length ≤ 1048576) : Sm (p.set i r) := by
 refine ⟨by rw [List.length_set]; exact h.1, fun x hx => ?_⟩
 rcases List.mem_or_eq_of_mem_set hx with k | rfl
 ·exact h.2 x k
 ·exact hr
theorem set_hd {p : List Txt} {x : Txt} (h : 0 < p.length) : PV.str x :: List.drop 1 (p.map PV.str) = (p.set 0 x).map .str := by cases p with | nil => simp at h | cons a p => simp
theorem one_add {k : Nat} : (1 : Int) + (k : Int) = ((1 + k : Nat) : Int) := by omega
theorem l91Some_ev {code : Txt} {q vr t : Nat} (hc : code.length ≤ 1048576) (hq : q ≤ 700000) {rows cols : Nat} (h1 : 1 ≤ rows) (h2 : rows ≤ 6) (w1 : 1 ≤ cols) (w2 : cols ≤ 6) : Ev Tryz.prog 122 [.ref 0 vr 0, .int .i64 rows, .int .i64 cols] ⟨[.arr vr 119 2 [eBy code, .int .i64 (q : Int)]], t⟩ fun v S => ∃ (p2 : List Txt) (q2 t2 : Nat), v = eStrs p2 ∧ Sm p2 ∧ p2.length ≤ 6 ∧ q2 ≤ q + 200 ∧ S = ⟨[.arr vr 119 2 [eBy code, .int .i64 (q2 : Int)]], t2⟩ := by
 refine Ev.of ⟨Tryz.func122, by kernel_rfl, rfl, by kernel_rfl⟩ tabOk mixed (by show 3 ≤ Tryz.f122.ntmps; decide) ?_
 refine W.seq_region fun K hK => ?_
 simp (disch := omega) only [↓RU, RV, RH, ↓reduceIte, reduceEqDiff, reduceCtorEq, if_pos, ↓RS, RG, reduceAdd, reduceMul, reduceLeDiff]
 refine hK _ _ ?_;clear hK K
 refine W.seq_region fun K hK => ?_
 simp (disch := omega) only [↓RU, RV, RH, ↓reduceIte, reduceEqDiff, reduceCtorEq, if_pos, List.append_nil, w64, ↓RS, RG, reduceAdd, reduceMul, reduceLeDiff, tyint]
 refine CallR.ev (pick_ev hc (by omega) (rows : Int) (by omega) (by omega)) ?_
 rintro _ _ ⟨k1, rfl, -, hk1, rfl⟩
 have hk1b := hk1 (by omega)
 simp (disch := omega) only [↓RU, RV, RH, ↓reduceIte, reduceEqDiff, reduceCtorEq, if_pos, List.append_nil, w64, ↓RS, RG, reduceAdd, reduceMul, reduceLeDiff, tyint, one_add]
 refine hK _ _ ?_;clear hK K
 refine W.seq_region fun K hK => ?_
 simp (disch := omega) only [↓RU, RV, RH, ↓reduceIte, reduceEqDiff, reduceCtorEq, if_pos, List.append_nil, w64, ↓RS, RG, reduceAdd, reduceMul, reduceLeDiff, tyint]
 refine CallR.ev (pick_ev hc (by omega) (cols : Int) (by omega) (by omega)) ?_
 rintro _ _ ⟨k2, rfl, -, hk2, rfl⟩
 have hk2b := hk2 (by omega)
 simp (disch := omega) only [↓RU, RV, RH, ↓reduceIte, reduceEqDiff, reduceCtorEq, if_pos, List.append_nil, w64, ↓RS, RG, reduceAdd, reduceMul, reduceLeDiff, tyint, one_add]
 refine CallR.ev (l91Plan_ev (q := q + 1 + 1) hc (by omega) (nh := 1 + k1) (nw := 1 + k2) (by omega) (by omega) (by omega) (by omega)) ?_
 rintro _ _ ⟨p2, q2, t2, rfl, hp2, hl2, hq2, rfl⟩
 simp (disch := omega) only [↓RU, RV, RH, ↓reduceIte, reduceEqDiff, reduceCtorEq, if_pos, List.append_nil, w64, ↓RS, RG, reduceAdd, reduceMul, reduceLeDiff, tyint]
 refine hK _ _ ?_;clear hK K
 obtain ⟨ps1, ps2, ps3⟩ := plan_small hp2
 have hsm := plan_sm hp2
 obtain ⟨nh, hnh⟩ : ∃ nh : Nat, 1 + k1 = nh := ⟨_, rfl⟩
 simp only [hnh] at hl2 ⊢
 refine W.joinZ [8] (fun vs S => ∃ (p3 : List Txt) (q3 tk : Nat), Sm p3 ∧ p3.length ≤ 6 ∧ q3 ≤ q + 200 ∧ vs = [eStrs p3] ∧ S = ⟨[.arr vr 119 2 [eBy code, .int .i64 (q3 : Int)]], tk⟩) ?_ ?_
 ·
  refine W.seq_region fun K hK => ?_
  simp (disch := omega) only [↓RU, RV, RH, ↓reduceIte, reduceEqDiff, reduceCtorEq, if_pos, List.append_nil, ↓RS, RG, reduceAdd, reduceMul, reduceLeDiff]
  refine CallR.ev (pick_ev hc (by omega) 50 (by omega) (by omega)) ?_
  rintro _ _ ⟨k3, rfl, -, hk3, rfl⟩
  simp (disch := omega) only [↓RU, RV, RH, ↓reduceIte, reduceEqDiff, reduceCtorEq, if_pos, List.append_nil, ↓RS, RG, reduceAdd, reduceMul, reduceLeDiff]
  refine hK _ _ ?_;clear hK K
  refine W.block ?_
  refine W.seq_region fun K hK => ?_
  simp (disch := omega) only [↓RU, RV, RH, ↓reduceIte, reduceEqDiff, reduceCtorEq, if_pos, w64, ↓RS, RG, reduceAdd, reduceMul, reduceLeDiff, tyint]
  refine hK _ _ ?_;clear hK K
  refine W.cond rfl (fun h0 => ?_) (fun h0 => ?_)
  ·try simp only [RL] at h0
   obtain ⟨row, hrow, hrm⟩ := get_of (show nh - 1 < p2.length by omega)
   have hr6 := (ps3 row hrm).2
   refine W.seq_region fun K hK => ?_
   simp (disch := omega) only [↓RU, RV, RH, ↓reduceIte, reduceEqDiff, reduceCtorEq, if_pos, ↓RS, RG, reduceAdd, reduceMul, reduceLeDiff, ty5, tystring]
   refine hK _ _ ?_;clear hK K
   refine W.region_k fun K hK => ?_
   simp (disch := omega) only [↓RU, RV, RH, ↓reduceIte, reduceEqDiff, reduceCtorEq, if_pos, w64, ↓RS, RG, reduceAdd, reduceMul, reduceLeDiff, ty5, tyint, tystring, toNat_pred, hrow, pStr, set_spl, set_str, cells_str, List.length_cons, List.length_nil]
   refine hK _ _ ?_;clear hK K
   refine XBlock.norm ?_
   refine XThen.norm ?_
   have hPs : Sm (p2.set (nh - 1) (row ++ [97])) := sm_set hsm (by simp; omega)
   have hPl : (p2.set (nh - 1) (row ++ [97])).length = p2.length := by simp
   generalize p2.set (nh - 1) (row ++ [97]) = P at hPs hPl ⊢
   have htk : (P.map PV.str).take p2.length = P.map .str := List.take_of_length_le (by simp [hPl])
   refine ⟨1, [eStrs P], ⟨[.arr vr 119 2 [eBy code, .int .i64 ((q2 + 1 : Nat) : Int)]], t2 + 1 + 1⟩, ?_, ?_, P, q2 + 1, t2 + 1 + 1, hPs, by omega, by omega, rfl, rfl⟩
   ·simp [-List.mapM_map, Store.frz, frzObs, frzOb, frz_eInts, frz_loc, rfz_loc, frz_int, frz_sl, frz_ints, rfz_ints, frz_strs, frz_bytes, rfz_bytes, rfz_str, rfz_bool, frz_str, frz_bool, Env.put, Env.of, argEnv, rfz_int, List.mapM_append, List.mapM_cons, frz_ref0, tk_strs, rfz_tstr, htk, hPl]
   ·simp [-List.mapM_map, Store.frz, frzObs, frzOb, frz_eInts, frz_loc, rfz_loc, frz_int, frz_sl, frz_ints, rfz_ints, frz_strs, frz_bytes, rfz_bytes, rfz_str, rfz_bool, frz_str, frz_bool, Env.put, Env.of, argEnv, rfz_int, List.mapM_append, List.mapM_cons, frz_ref0, tk_strs, rfz_tstr]
  ·try simp only [RL] at h0
   refine W.seq_region fun K hK => ?_
   simp (disch := omega) only [↓RU, RV, RH, ↓reduceIte, reduceEqDiff, reduceCtorEq, if_pos, w64, ↓RS, RG, reduceAdd, reduceMul, reduceLeDiff, tyint]
   refine hK _ _ ?_;clear hK K
   refine W.cond rfl (fun h1 => ?_) (fun h1 => ?_)
   ·try simp only [RL] at h1
    obtain ⟨row, hrow, hrm⟩ := get_of (show 0 < p2.length by omega)
    have hr6 := ps3 row hrm
    have hdl : (row.drop 1).length ≤ 6 := by rw [List.length_drop]; omega
    refine W.seq_region fun K hK => ?_
    simp (disch := omega) only [↓RU, RV, RH, ↓reduceIte, reduceEqDiff, reduceCtorEq, if_pos, ↓RS, RG, reduceAdd, reduceMul, reduceLeDiff, ty5, tystring]
    refine hK _ _ ?_;clear hK K
    refine W.region_k fun K hK => ?_
    simp (disch := omega) only [↓RU, RV, RH, ↓reduceIte, reduceEqDiff, reduceCtorEq, if_pos, Option.map_none, w64, ↓RS, RG, reduceAdd, reduceMul, reduceLeDiff, ty5, tystring, hrow, pStr, set_spl, set_str, cells_str, List.length_cons, List.length_nil, Int.toNat_zero, Int.reduceToNat, List.take_length, Nat.zero_mul, Nat.zero_add]
    refine hK _ _ ?_;clear hK K
    rw [set_hd (show 0 < p2.length by omega)]
    refine XBlock.norm ?_
    refine XThen.norm ?_
    have hPs : Sm (p2.set 0 (122 :: row.drop 1)) := sm_set hsm (by simp; omega)
    have hPl : (p2.set 0 (122 :: row.drop 1)).length = p2.length := by simp
    generalize p2.set 0 (122 :: row.drop 1) = P at hPs hPl ⊢
    have htk : (P.map PV.str).take p2.length = P.map .str := List.take_of_length_le (by simp [hPl])
    refine ⟨1, [eStrs P], ⟨[.arr vr 119 2 [eBy code, .int .i64 ((q2 + 1 : Nat) : Int)]], t2 + 1 + 1⟩, ?_, ?_, P, q2 + 1, t2 + 1 + 1, hPs, by omega, by omega, rfl, rfl⟩
    ·simp [-List.mapM_map, Store.frz, frzObs, frzOb, frz_eInts, frz_loc, rfz_loc, frz_int, frz_sl, frz_ints, rfz_ints, frz_strs, frz_bytes, rfz_bytes, rfz_str, rfz_bool, frz_str, frz_bool, Env.put, Env.of, argEnv, rfz_int, List.mapM_append, List.mapM_cons, frz_ref0, tk_strs, rfz_tstr, htk, hPl]
    ·simp [-List.mapM_map, Store.frz, frzObs, frzOb, frz_eInts, frz_loc, rfz_loc, frz_int, frz_sl, frz_ints, rfz_ints, frz_strs, frz_bytes, rfz_bytes, rfz_str, rfz_bool, frz_str, frz_bool, Env.put, Env.of, argEnv, rfz_int, List.mapM_append, List.mapM_cons, frz_ref0, tk_strs, rfz_tstr]
   ·try simp only [RL] at h1
    refine W.skip ?_
    refine XBlock.norm ?_
    refine XThen.norm ?_
    have hPs := hsm
    have hPl : p2.length = p2.length := rfl
    have htk : True := trivial
    refine ⟨1, [eStrs p2], ⟨[.arr vr 119 2 [eBy code, .int .i64 ((q2 + 1 : Nat) : Int)]], t2⟩, ?_, ?_, p2, q2 + 1, t2, hPs, by omega, by omega, rfl, rfl⟩
    ·simp [-List.mapM_map, Store.frz, frzObs, frzOb, frz_eInts, frz_loc, rfz_loc, frz_int, frz_sl, frz_ints, rfz_ints, frz_strs, frz_bytes, rfz_bytes, rfz_str, rfz_bool, frz_str, frz_bool, Env.put, Env.of, argEnv, rfz_int, List.mapM_append, List.mapM_cons, frz_ref0, tk_strs, rfz_tstr, htk, hPl]
    ·simp [-List.mapM_map, Store.frz, frzObs, frzOb, frz_eInts, frz_loc, rfz_loc, frz_int, frz_sl, frz_ints, rfz_ints, frz_strs, frz_bytes, rfz_bytes, rfz_str, rfz_bool, frz_str, frz_bool, Env.put, Env.of, argEnv, rfz_int, List.mapM_append, List.mapM_cons, frz_ref0, tk_strs, rfz_tstr]
 rintro vs S - ⟨p3, q3, tk, hs3, hl3, hq3, rfl, rfl⟩
 refine W.seq_region fun K hK => ?_
 simp (disch := omega) only [↓RU, RV, RH, ↓reduceIte, reduceEqDiff, reduceCtorEq, if_pos, ↓RS, RG, reduceAdd, reduceMul, reduceLeDiff]
 refine hK _ _ ?_;clear hK K
 refine W.ret ?_
 refine BodyQ.ret rfl ?_
 exact ⟨_, p3, q3, tk, rfl, hs3, hl3, hq3, take_all⟩
theorem l91Plain_ev {code : Txt} {q vr t : Nat} (hc : code.length ≤ 1048576) (hq : q ≤ 600000) {rows cols : Nat} (h1 : 1 ≤ rows) (h2 : rows ≤ 6) (w1 : 1 ≤ cols) (w2 : cols ≤ 6) : Ev Tryz.prog 97 [.ref 0 vr 0, .int .i64 rows, .int .i64 cols] ⟨[.arr vr 119 2 [eBy code, .int .i64 (q : Int)]], t⟩ fun v S => ∃ (p2 : List Txt) (q2 t2 : Nat), v = eStrs p2 ∧ Sm p2 ∧ p2.length ≤ 6 ∧ q2 ≤ q + 1000 ∧ S = ⟨[.arr vr 119 2 [eBy code, .int .i64 (q2 : Int)]], t2⟩ := by
 refine Ev.of ⟨Tryz.func97, by kernel_rfl, rfl, by kernel_rfl⟩ tabOk mixed (by show 3 ≤ Tryz.f97.ntmps; decide) ?_
 refine W.seq_region fun K hK => ?_
 simp (disch := omega) only [↓RU, RV, RH, ↓reduceIte, reduceEqDiff, reduceCtorEq, if_pos, ↓RS, RG, reduceAdd, reduceMul, reduceLeDiff]
 refine hK _ _ ?_;clear hK K
 refine W.seq_region fun K hK => ?_
 simp (disch := omega) only [↓RU, RV, RH, ↓reduceIte, reduceEqDiff, reduceCtorEq, if_pos, List.append_nil, ↓RS, RG, reduceAdd, reduceMul, reduceLeDiff]
 refine CallR.ev (l91Some_ev (q := q) hc (by omega) h1 h2 w1 w2) ?_
 rintro _ _ ⟨p3, q3, t3, rfl, hs3, hl3, hq3, rfl⟩
 simp (disch := omega) only [↓RU, RV, RH, ↓reduceIte, reduceEqDiff, reduceCtorEq, if_pos, List.append_nil, ↓RS, RG, reduceAdd, reduceMul, reduceLeDiff]
 refine hK _ _ ?_;clear hK K
 refine W.seq ?_
 refine W.seq_region fun K hK => ?_
 simp (disch := omega) only [↓RU, RV, RH, ↓reduceIte, reduceEqDiff, reduceCtorEq, if_pos, ↓RS, RG, reduceAdd, reduceMul, reduceLeDiff]
 refine hK _ _ ?_;clear hK K
 refine W.block ?_
 refine W.loop [0, 1, 2, 7, 8] (fun n vs S => ∃ (i : Nat) (p2 : List Txt) (q2 tk : Nat), n = 3 - i ∧ i ≤ 3 ∧ Sm p2 ∧ p2.length ≤ 6 ∧ q2 ≤ q + 200 + 200 * i ∧ vs = [.ref 0 vr 0, .int .i64 rows, .int .i64 cols, eStrs p2, .int .i64 i] ∧ S = ⟨[.arr vr 119 2 [eBy code, .int .i64 (q2 : Int)]], tk⟩) 3 ?_ ?_
 ·refine ⟨1, 0, p3, q3, t3, rfl, by omega, hs3, hl3, by omega, ?_, rfl⟩
  simp [Env.put, Env.of, argEnv]
 rintro n vs S - ⟨i, p2, q2, tk, rfl, h_i, hs2, hl2, hq2, rfl, rfl⟩
 refine W.seq ?_
 refine W.seq_region fun K hK => ?_
 by_cases hi3 : i < 3
 ·skip
  have hd : decide ((i : Int) < 3) = true := decide_eq_true (by omega)
  simp (disch := omega) only [↓RU, RV, RH, ↓reduceIte, reduceEqDiff, reduceCtorEq, if_pos, w64, List.append_nil, ↓RS, RG, reduceAdd, reduceMul, reduceLeDiff, tyint, hd]
  refine CallR.pc (sWallPlain_pc hs2) rfl (.inl rfl) ?_
  simp (disch := omega) only [↓RU, RV, RH, ↓reduceIte, reduceEqDiff, reduceCtorEq, if_pos, w64, List.append_nil, ↓RS, RG, reduceAdd, reduceMul, reduceLeDiff, tyint, hd]
  refine hK _ _ ?_;clear hK K
  refine W.cond rfl (fun h => ?_) (fun h => ?_)
  ·try simp only [RL] at h
   refine W.skip ?_
   refine XThen.norm ?_
   refine W.seq ?_
   refine W.block ?_
   refine W.region_k fun K hK => ?_
   simp (disch := omega) only [↓RU, RV, RH, ↓reduceIte, reduceEqDiff, reduceCtorEq, if_pos, List.append_nil, ↓RS, RG, reduceAdd, reduceMul, reduceLeDiff]
   refine CallR.ev (l91Some_ev (q := q2) hc (by omega) h1 h2 w1 w2) ?_
   rintro _ _ ⟨p3, q3, t3, rfl, hs3, hl3, hq3, rfl⟩
   simp (disch := omega) only [↓RU, RV, RH, ↓reduceIte, reduceEqDiff, reduceCtorEq, if_pos, List.append_nil, ↓RS, RG, reduceAdd, reduceMul, reduceLeDiff]
   refine hK _ _ ?_;clear hK K
   refine XBlock.norm ?_
   refine XThen.norm ?_
   refine W.region_k fun K hK => ?_
   simp (disch := omega) only [↓RU, RV, RH, ↓reduceIte, reduceEqDiff, reduceCtorEq, if_pos, w64, ↓RS, RG, reduceAdd, reduceMul, reduceLeDiff, tyint]
   refine hK _ _ ?_;clear hK K
   refine XThen.norm ?_
   refine ⟨3 - (i + 1), by omega, 1, i + 1, p3, q3, t3, rfl, by omega, hs3, hl3, by omega, ?_, rfl⟩
   simp [Env.put, Env.of]
  ·try simp only [RL] at h
   refine W.exit ?_
   refine XThen.exit ?_
   refine XThen.exit ?_
   refine XBlock.hit ?_
   refine XThen.norm ?_
   refine W.seq_region fun K hK => ?_
   simp (disch := omega) only [↓RU, RV, RH, ↓reduceIte, reduceEqDiff, reduceCtorEq, if_pos, ↓RS, RG, reduceAdd, reduceMul, reduceLeDiff]
   refine hK _ _ ?_;clear hK K
   refine W.ret ?_
   refine BodyQ.ret rfl ?_
   exact ⟨_, p2, q2, tk, rfl, hs2, hl2, by omega, take_all⟩
 ·skip
  have hd : decide ((i : Int) < 3) = false := decide_eq_false (by omega)
  simp (disch := omega) only [↓RU, RV, RH, ↓reduceIte, reduceEqDiff, reduceCtorEq, if_pos, w64, List.append_nil, ↓RS, RG, reduceAdd, reduceMul, reduceLeDiff, tyint, hd]
  refine hK _ _ ?_;clear hK K
  refine W.cond rfl (fun h => ?_) (fun h => ?_)
  ·try simp only [RL] at h
   exact absurd h (by simp)
  ·try simp only [RL] at h
   refine W.exit ?_
   refine XThen.exit ?_
   refine XThen.exit ?_
   refine XBlock.hit ?_
   refine XThen.norm ?_
   refine W.seq_region fun K hK => ?_
   simp (disch := omega) only [↓RU, RV, RH, ↓reduceIte, reduceEqDiff, reduceCtorEq, if_pos, ↓RS, RG, reduceAdd, reduceMul, reduceLeDiff]
   refine hK _ _ ?_;clear hK K
   refine W.ret ?_
   refine BodyQ.ret rfl ?_
   exact ⟨_, p2, q2, tk, rfl, hs2, hl2, by omega, take_all⟩
theorem tdiv39 {k : Nat} : ((k : Nat) : Int).tdiv 39 = ((k / 39 : Nat) : Int) := (Int.ofNat_tdiv k 39).symm
theorem tdiv59 {k : Nat} : ((k : Nat) : Int).tdiv 59 = ((k / 59 : Nat) : Int) := (Int.ofNat_tdiv k 59).symm
theorem tw39 : ((39 : Int) = 0) = False := by simp
theorem tw59 : ((59 : Int) = 0) = False := by simp
theorem tk_ints {l : List Int} {q : IntKind} : (l.map (PV.int q)).take l.length = l.map (.int q) := List.take_of_length_le (by simp)
theorem tk_i {l : List Int} {q : IntKind} {i : Nat} (h : l.length = i) : (l.map (PV.int q)).take i = l.map (.int q) := List.take_of_length_le (by simp [h])
theorem l92Needs_ev {code : Txt} {q vr t : Nat} (hc : code.length ≤ 1048576) (hq : q ≤ 700000) {p : List Txt} (hs : Sm p) : Ev Tryz.prog 99 [.ref 0 vr 0, eStrs p] ⟨[.arr vr 119 2 [eBy code, .int .i64 (q : Int)]], t⟩ fun v S => ∃ (l : List Int) (q2 t2 v1 : Nat), v = .loc 1 v1 0 l.length ∧ l.length ≤ 400 ∧ q2 ≤ q + 1000 ∧ S = ⟨[.arr vr 119 2 [eBy code, .int .i64 (q2 : Int)], .arr v1 3 1 (l.map (.int .i64))], t2⟩ := by
 have hrb := l1Rooms_bound p
 refine Ev.of ⟨Tryz.func99, by kernel_rfl, rfl, by kernel_rfl⟩ tabOk mixed (by show 2 ≤ Tryz.f99.ntmps; decide) ?_
 refine W.seq_region fun K hK => ?_
 simp (disch := omega) only [↓RU, RV, RH, ↓reduceIte, reduceEqDiff, reduceCtorEq, if_pos, ↓RS, RG, reduceAdd, reduceMul, reduceLeDiff]
 refine hK _ _ ?_;clear hK K
 refine W.seq_region fun K hK => ?_
 simp (disch := omega) only [↓RU, RV, RH, ↓reduceIte, reduceEqDiff, reduceCtorEq, if_pos, ↓RS, RG, reduceAdd, reduceMul, reduceLeDiff, tyLint, tyint]
 refine hK _ _ ?_;clear hK K
 refine W.seq_region fun K hK => ?_
 simp (disch := omega) only [↓RU, RV, RH, ↓reduceIte, reduceEqDiff, reduceCtorEq, if_pos, List.append_nil, w64, ↓RS, RG, reduceAdd, reduceMul, reduceLeDiff, tyint]
 refine CallR.pc (l1Rooms_pc hs) rfl (.inl rfl) ?_
 simp (disch := omega) only [↓RU, RV, RH, ↓reduceIte, reduceEqDiff, reduceCtorEq, if_pos, List.append_nil, w64, ↓RS, RG, reduceAdd, reduceMul, reduceLeDiff, tyint]
 refine CallR.ev (pick_ev (q := q) hc (by omega) 40 (by omega) (by omega)) ?_
 rintro _ _ ⟨k0, rfl, hk0z, hk0, rfl⟩
 have hk0b := hk0 (by omega)
 simp (disch := omega) only [↓RU, RV, RH, ↓reduceIte, reduceEqDiff, reduceCtorEq, if_pos, List.append_nil, w64, ↓RS, RG, reduceAdd, reduceMul, reduceLeDiff, tyint, tdiv39, tw39, tdiv59, tw59]
 refine hK _ _ ?_;clear hK K
 obtain ⟨N, hN⟩ : ∃ N : Nat, l1Rooms p + ((k0 / 39 : Nat) : Int) = N := ⟨(l1Rooms p + ((k0 / 39 : Nat) : Int)).toNat, by omega⟩
 have hN2 : N ≤ 300 := by omega
 simp only [hN]
 refine W.seq ?_
 refine W.seq_region fun K hK => ?_
 simp (disch := omega) only [↓RU, RV, RH, ↓reduceIte, reduceEqDiff, reduceCtorEq, if_pos, ↓RS, RG, reduceAdd, reduceMul, reduceLeDiff]
 refine hK _ _ ?_;clear hK K
 refine W.block ?_
 refine W.loop [0, 1, 5, 6, 7] (fun n vs S => ∃ (i q2 v1 t2 : Nat) (l : List Int), n = N - i ∧ i ≤ N ∧ l.length = i ∧ q2 ≤ q + 1 + 2 * i ∧ vs = [.ref 0 vr 0, eStrs p, .loc 1 v1 0 i, .int .i64 N, .int .i64 i] ∧ S = ⟨[.arr vr 119 2 [eBy code, .int .i64 (q2 : Int)], .arr v1 3 1 (l.map (.int .i64))], t2⟩) N ?_ ?_
 ·refine ⟨2, 0, q + 1, t, t + 1, [], rfl, by omega, rfl, by omega, ?_, rfl⟩
  simp [Env.put, Env.of, argEnv]
 rintro n vs S - ⟨i, q2, v1, t2, l, rfl, h_i, hll, hq2, rfl, rfl⟩
 refine W.seq ?_
 refine W.seq_region fun K hK => ?_
 simp (disch := omega) only [↓RU, RV, RH, ↓reduceIte, reduceEqDiff, reduceCtorEq, if_pos, w64, ↓RS, RG, reduceAdd, reduceMul, reduceLeDiff, tyint]
 refine hK _ _ ?_;clear hK K
 refine W.cond rfl (fun h => ?_) (fun h => ?_)
 ·try simp only [RL] at h
  refine W.skip ?_
  refine XThen.norm ?_
  refine W.seq ?_
  refine W.block ?_
  refine W.region_k fun K hK => ?_
  simp (disch := omega) only [↓RU, RV, RH, ↓reduceIte, reduceEqDiff, reduceCtorEq, if_pos, List.append_nil, w64, ↓RS, RG, reduceAdd, reduceMul, reduceLeDiff, tyLint, tyint, tk_i hll]
  refine CallR.ev (pick_ev (q := q2) hc (by omega) 6 (by omega) (by omega)) ?_
  rintro _ _ ⟨k1, rfl, hk1z, hk1, rfl⟩
  have hk1b := hk1 (by omega)
  simp (disch := omega) only [↓RU, RV, RH, ↓reduceIte, reduceEqDiff, reduceCtorEq, if_pos, List.append_nil, w64, ↓RS, RG, reduceAdd, reduceMul, reduceLeDiff, tyLint, tyint, tk_i hll, tdiv39, tw39, tdiv59, tw59]
  refine CallR.ev (pick_ev (q := q2 + 1) hc (by omega) 60 (by omega) (by omega)) ?_
  rintro _ _ ⟨k2, rfl, hk2z, hk2, rfl⟩
  have hk2b := hk2 (by omega)
  simp (disch := omega) only [↓RU, RV, RH, ↓reduceIte, reduceEqDiff, reduceCtorEq, if_pos, List.append_nil, w64, ↓RS, RG, reduceAdd, reduceMul, reduceLeDiff, tyLint, tyint, tk_i hll, tdiv39, tw39, tdiv59, tw59]
  refine hK _ _ ?_;clear hK K
  refine XBlock.norm ?_
  refine XThen.norm ?_
  refine W.region_k fun K hK => ?_
  simp (disch := omega) only [↓RU, RV, RH, ↓reduceIte, reduceEqDiff, reduceCtorEq, if_pos, w64, ↓RS, RG, reduceAdd, reduceMul, reduceLeDiff, tyint]
  refine hK _ _ ?_;clear hK K
  refine XThen.norm ?_
  refine ⟨N - (i + 1), by omega, 2, i + 1, q2 + 1 + 1, t2 + 1, t2 + 2, l ++ [1 + (k1 : Int) + ((k2 / 59 : Nat) : Int) * 9], rfl, by omega, by simp [hll], by omega, ?_, ?_⟩
  all_goals simp [Env.put, Env.of, take_eq, tk_le, hll, tk_i hll]
 ·try simp only [RL] at h
  obtain rfl : i = N := by omega
  refine W.exit ?_
  refine XThen.exit ?_
  refine XThen.exit ?_
  refine XBlock.hit ?_
  refine XThen.norm ?_
  refine W.seq_region fun K hK => ?_
  simp (disch := omega) only [↓RU, RV, RH, ↓reduceIte, reduceEqDiff, reduceCtorEq, if_pos, ↓RS, RG, reduceAdd, reduceMul, reduceLeDiff]
  refine hK _ _ ?_;clear hK K
  refine W.ret ?_
  refine BodyQ.ret rfl ?_
  exact ⟨_, l, q2, t2, v1, by rw [hll]; rfl, by omega, by omega, take_all⟩
theorem l92Sized_ev {code : Txt} (hc : code.length ≤ 1048576) : Ev Tryz.prog 68 [eBy code] ⟨[], 0⟩ fun v S => ∃ (p : List Txt) (ws : List Int) (t : Nat), Sm p ∧ ws.length ≤ 400 ∧ v = .tup [eStrs p, eInts ws] ∧ S = ⟨[], t⟩ := by
 refine Ev.of ⟨Tryz.func68, by kernel_rfl, rfl, by kernel_rfl⟩ tabOk mixed (by show 1 ≤ Tryz.f68.ntmps; decide) ?_
 refine W.seq_region fun K hK => ?_
 simp (disch := omega) only [↓RU, RV, RH, ↓reduceIte, reduceEqDiff, reduceCtorEq, if_pos, ↓RS, RG, reduceAdd, reduceMul, reduceLeDiff]
 refine hK _ _ ?_;clear hK K
 refine W.seq_region fun K hK => ?_
 simp (disch := omega) only [↓RU, RV, RH, ↓reduceIte, reduceEqDiff, reduceCtorEq, if_pos, List.append_nil, ↓RS, RG, reduceAdd, reduceMul, reduceLeDiff, rdO]
 refine CallR.pn (l6Open_pn hc) rfl (.inr rfl) ?_
 simp (disch := omega) only [↓RU, RV, RH, ↓reduceIte, reduceEqDiff, reduceCtorEq, if_pos, List.append_nil, ↓RS, RG, reduceAdd, reduceMul, reduceLeDiff, rdO, rdO, RN]
 refine hK _ _ ?_;clear hK K
 refine W.seq_region fun K hK => ?_
 have hc2 : (code.take 2000).length ≤ 1048576 := by rw [List.length_take]; omega
 generalize code.take 2000 = code2 at hc2 ⊢
 simp (disch := omega) only [↓RU, RV, RH, ↓reduceIte, reduceEqDiff, reduceCtorEq, if_pos, List.append_nil, ↓RS, RG, reduceAdd, reduceMul, reduceLeDiff]
 refine CallR.ev (l91Plain_ev (q := 0) (code := code2) hc2 (by omega) (rows := 5) (cols := 5) (by omega) (by omega) (by omega) (by omega)) ?_
 rintro _ _ ⟨p, q, t, rfl, hs, hl, hq, rfl⟩
 simp (disch := omega) only [↓RU, RV, RH, ↓reduceIte, reduceEqDiff, reduceCtorEq, if_pos, List.append_nil, ↓RS, RG, reduceAdd, reduceMul, reduceLeDiff]
 refine hK _ _ ?_;clear hK K
 refine W.joinZ [2, 3] (fun vs S => ∃ (ws : List Int) (tk : Nat), ws.length ≤ 400 ∧ vs = [eStrs p, eInts ws] ∧ S = ⟨[], tk⟩) ?_ ?_
 ·
  refine W.region_k fun K hK => ?_
  simp (disch := omega) only [↓RU, RV, RH, ↓reduceIte, reduceEqDiff, reduceCtorEq, if_pos, List.append_nil, ↓RS, RG, reduceAdd, reduceMul, reduceLeDiff]
  refine CallR.ev (l92Needs_ev (q := q) hc2 (by omega) hs) ?_
  rintro _ _ ⟨ws, q2, t2, v1, rfl, hwsl, hq2, rfl⟩
  simp (disch := omega) only [↓RU, RV, RH, ↓reduceIte, reduceEqDiff, reduceCtorEq, if_pos, List.append_nil, ↓RS, RG, reduceAdd, reduceMul, reduceLeDiff]
  refine hK _ _ ?_;clear hK K
  refine XThen.norm ?_
  refine ⟨0, [eStrs p, eInts ws], ⟨[], t2⟩, ?_, ?_, ws, t2, hwsl, rfl, rfl⟩
  ·simp [-List.mapM_map, Store.frz, frzObs, frzOb, frz_eInts, frz_loc, rfz_loc, frz_int, frz_sl, frz_ints, rfz_ints, frz_strs, frz_bytes, rfz_bytes, rfz_str, rfz_bool, frz_str, frz_bool, Env.put, Env.of, argEnv, rfz_int, List.mapM_append, List.mapM_cons, frz_ref0, tk_strs, rfz_tstr, tk_ints, ← frz_eInts]
  ·simp [-List.mapM_map, Store.frz, frzObs, frzOb, frz_eInts, frz_loc, rfz_loc, frz_int, frz_sl, frz_ints, rfz_ints, frz_strs, frz_bytes, rfz_bytes, rfz_str, rfz_bool, frz_str, frz_bool, Env.put, Env.of, argEnv, rfz_int, List.mapM_append, List.mapM_cons, frz_ref0, tk_strs, rfz_tstr, tk_ints]
 rintro vs S - ⟨ws, tk, hwsl, rfl, rfl⟩
 refine W.ret ?_
 refine BodyQ.ret rfl ?_
 exact ⟨0, p, ws, tk, hs, hwsl, rfl, rfl⟩
theorem l91Order_ev {code : Txt} (hc : code.length ≤ 1048576) : Ev Tryz.prog 93 [eBy code] ⟨[], 0⟩ fun v S => ∃ (p : List Txt) (t : Nat), Sm p ∧ v = eStrs p ∧ S = ⟨[], t⟩ := by
 refine Ev.of ⟨Tryz.func93, by kernel_rfl, rfl, by kernel_rfl⟩ tabOk mixed (by show 1 ≤ Tryz.f93.ntmps; decide) ?_
 refine W.seq_region fun K hK => ?_
 simp (disch := omega) only [↓RU, RV, RH, ↓reduceIte, reduceEqDiff, reduceCtorEq, if_pos, ↓RS, RG, reduceAdd, reduceMul, reduceLeDiff]
 refine hK _ _ ?_;clear hK K
 refine W.seq_region fun K hK => ?_
 simp (disch := omega) only [↓RU, RV, RH, ↓reduceIte, reduceEqDiff, reduceCtorEq, if_pos, List.append_nil, ↓RS, RG, reduceAdd, reduceMul, reduceLeDiff, rdO]
 refine CallR.pn (l6Open_pn hc) rfl (.inr rfl) ?_
 simp (disch := omega) only [↓RU, RV, RH, ↓reduceIte, reduceEqDiff, reduceCtorEq, if_pos, List.append_nil, ↓RS, RG, reduceAdd, reduceMul, reduceLeDiff, rdO, rdO, RN]
 have hc2 : (code.take 2000).length ≤ 1048576 := by rw [List.length_take]; omega
 generalize code.take 2000 = code2 at hc2 ⊢
 refine CallR.ev (l91Plain_ev (q := 0) (code := code2) hc2 (by omega) (rows := 5) (cols := 5) (by omega) (by omega) (by omega) (by omega)) ?_
 rintro _ _ ⟨p, q, t, rfl, hs, hl, hq, rfl⟩
 simp (disch := omega) only [↓RU, RV, RH, ↓reduceIte, reduceEqDiff, reduceCtorEq, if_pos, List.append_nil, ↓RS, RG, reduceAdd, reduceMul, reduceLeDiff, rdO]
 refine hK _ _ ?_;clear hK K
 refine W.ret ?_
 refine BodyQ.ret rfl ?_
 exact ⟨0, p, _, hs, rfl, rfl⟩
theorem drawOrderLong_ev {code : Txt} (hc : code.length ≤ 1048576) : Ev Tryz.prog 59 [eBy code] ⟨[], 0⟩ fun v S => ∃ (p : List Txt) (t : Nat), Sm p ∧ v = eStrs p ∧ S = ⟨[], t⟩ := by
 refine Ev.of ⟨Tryz.func59, by kernel_rfl, rfl, by kernel_rfl⟩ tabOk mixed (by show 1 ≤ Tryz.f59.ntmps; decide) ?_
 refine W.seq_region fun K hK => ?_
 simp (disch := omega) only [↓RU, RV, RH, ↓reduceIte, reduceEqDiff, reduceCtorEq, if_pos, ↓RS, RG, reduceAdd, reduceMul, reduceLeDiff]
 refine hK _ _ ?_;clear hK K
 refine W.seq_region fun K hK => ?_
 simp (disch := omega) only [↓RU, RV, RH, ↓reduceIte, reduceEqDiff, reduceCtorEq, if_pos, List.append_nil, ↓RS, RG, reduceAdd, reduceMul, reduceLeDiff]
 refine CallR.ev (l91Order_ev hc) ?_
 rintro _ _ ⟨p, t, hs, rfl, rfl⟩
 simp (disch := omega) only [↓RU, RV, RH, ↓reduceIte, reduceEqDiff, reduceCtorEq, if_pos, List.append_nil, ↓RS, RG, reduceAdd, reduceMul, reduceLeDiff]
 refine hK _ _ ?_;clear hK K
 refine W.ret ?_
 refine BodyQ.ret rfl ?_
 exact ⟨0, p, _, hs, rfl, rfl⟩

section
theorem foldl_max_ge {l : List Int} : ∀ {m : Int}, m ≤ l.foldl max m ∧ ∀ x ∈ l, x ≤ l.foldl max m := by
 induction l with
 | nil => intro m; simp
 | cons a l ih =>
  intro m
  obtain ⟨h1, h2⟩ := ih (m := max m a)
  refine ⟨by simp only [List.foldl_cons]; omega, fun x hx => ?_⟩
  simp only [List.foldl_cons]
  rcases List.mem_cons.1 hx with rfl | hx
  ·omega
  ·exact h2 x hx
theorem foldl_max_mem {l : List Int} : ∀ {m : Int}, l.foldl max m = m ∨ l.foldl max m ∈ l := by
 induction l with
 | nil => intro m; simp
 | cons a l ih =>
  intro m
  simp only [List.foldl_cons]
  rcases ih (m := max m a) with h | h
  ·rw [h]
   by_cases q : a ≤ m
   ·left; omega
   ·right; rw [show max m a = a by omega]; simp
  ·right; exact List.mem_cons_of_mem _ h
theorem maxL_ge {l : List Int} {x : Int} (h : x ∈ l) : x ≤ maxL l := by
 cases l with
 | nil => simp at h
 | cons a l =>
  obtain ⟨h1, h2⟩ := foldl_max_ge (l := l) (m := a)
  unfold maxL
  rcases List.mem_cons.1 h with rfl | h
  ·exact h1
  ·exact h2 x h
theorem maxL_mem {l : List Int} (h : l ≠ []) : maxL l ∈ l := by
 cases l with
 | nil => exact absurd rfl h
 | cons a l =>
  show l.foldl max a ∈ a :: l
  rcases foldl_max_mem (l := l) (m := a) with h | h
  ·rw [h]; simp
  ·exact List.mem_cons_of_mem _ h
section
variable {M : List (List Bool)} {ws : List Int} {n : Nat} {rk : Nat → Nat}
theorem hb_le {b : Nat} (hb : b < n) : HB M ws n b ≤ maxL (heaviest M ws n) := maxL_ge (List.mem_of_getElem? (hv_at hb))
theorem hb_is (hn : 1 ≤ n) : ∃ b, b < n ∧ HB M ws n b = maxL (heaviest M ws n) := by
 have h := maxL_mem (l := heaviest M ws n) (by intro h; have := congrArg List.length h; rw [heaviest_len] at this; simp at this; omega)
 unfold heaviest at h
 obtain ⟨b, hb, e⟩ := List.mem_map.1 h
 exact ⟨b, by simpa using hb, e⟩
theorem beg_nn (b : Nat) : 0 ≤ beg M ws n b := hvF_pos n
theorem beg_ge {a b : Nat} (ha : a < n) (h : getB M a b = true) : HB M ws n a ≤ beg M ws n b := hvF_ge ha h
theorem hvF_at {g : Nat → Int} {b : Nat} : ∀ i, hvF M g b i = 0 ∨ ∃ a, a < i ∧ getB M a b = true ∧ hvF M g b i = g a
 | 0 => .inl rfl
 | i + 1 => by
  rw [hvF_succ]
  have ih := hvF_at (g := g) (b := b) i
  cases hc : getB M i b with
  | false =>
   simp only [Bool.false_eq_true, if_false]
   rcases ih with h | ⟨a, h1, h2, h3⟩
   ·exact .inl h
   ·exact .inr ⟨a, by omega, h2, h3⟩
  | true =>
   simp only [if_true]
   by_cases q : g i ≤ hvF M g b i
   ·rw [show max (hvF M g b i) (g i) = hvF M g b i by omega]
    rcases ih with h | ⟨a, h1, h2, h3⟩
    ·exact .inl h
    ·exact .inr ⟨a, by omega, h2, h3⟩
   ·rw [show max (hvF M g b i) (g i) = g i by omega]
    exact .inr ⟨i, by omega, hc, rfl⟩
theorem beg_at (b : Nat) : beg M ws n b = 0 ∨ ∃ a, a < n ∧ getB M a b = true ∧ beg M ws n b = HB M ws n a := hvF_at n
theorem both_le (hu : Up M n rk) : ∀ k b, b < n → 100 - rk b < k → HB M ws n b + beg (revM n M) ws n b ≤ maxL (heaviest M ws n) := by
 intro k
 induction k with
 | zero => intro b _ h; omega
 | succ k ih =>
  intro b hb hk
  rcases beg_at (M := revM n M) (ws := ws) (n := n) b with h | ⟨a, ha, hab, h⟩
  ·have := hb_le (M := M) (ws := ws) hb; omega
  ·rw [revM_get ha hb] at hab
   have hrk := hu.up b a hb ha hab
   have hle := hu.le a
   have h1 := ih a ha (by omega)
   have h2 := beg_ge (ws := ws) hb hab
   have h3 := HB_beg (ws := ws) hu ha
   have h4 := HB_beg (ws := ws) (revM_up hu) ha
   omega
end
end
theorem lf_eq {p : List Txt} : leftG (gP p) p.length (w0 (readG p)) (rP p).length = lfM p := by rw [w0_read]; rfl
theorem ab_eq {p : List Txt} : aboveG (gP p) p.length (w0 (readG p)) (rP p).length = abM p := by rw [w0_read]; rfl
theorem needV_all {p : List Txt} {ws : List Int} (h : needV p [ws] = true) : Up (lfM p) (rP p).length (rkL p) ∧ Up (abM p) (rP p).length (rkA p) ∧ ws.length = (rP p).length ∧ 1 ≤ (rP p).length ∧ (rP p).length ≤ 9 ∧ NeedOk ws ∧ plainB p = true := by
 obtain ⟨-, -, h1, h2, h3, h4, h5⟩ := plan_same h
 rw [lf_eq] at h1; rw [ab_eq] at h2
 obtain ⟨k1, -, -⟩ := needV_one h
 have hok : okB p = true := by
  have h9 := k1
  unfold plainI floorI at h9
  simp only [Bool.and_eq_true] at h9
  exact h9.1.1
 have h9 := okB_rooms hok
 rw [plainI_plain] at k1
 exact ⟨h1, h2, h3, h4, h9, h5, k1⟩
theorem size_bound {p : List Txt} {ws : List Int} (h : needV p [ws] = true) : 1 ≤ maxL (heaviest (lfM p) ws (rP p).length) ∧ maxL (heaviest (lfM p) ws (rP p).length) ≤ 909 ∧ 1 ≤ maxL (heaviest (abM p) ws (rP p).length) ∧ maxL (heaviest (abM p) ws (rP p).length) ≤ 909 := by
 obtain ⟨u1, u2, l1, l2, l3, n1, hp⟩ := needV_all h
 obtain ⟨b, hb, e⟩ := hb_is (M := lfM p) (ws := ws) l2
 obtain ⟨c, hc, e2⟩ := hb_is (M := abM p) (ws := ws) l2
 have h1 := HB_bound (M := lfM p) (n := (rP p).length) n1 b
 have h2 := HB_bound (M := abM p) (n := (rP p).length) n1 c
 have h3 := HB_pos (M := lfM p) (n := (rP p).length) n1 (b := b) (by omega)
 have h4 := HB_pos (M := abM p) (n := (rP p).length) n1 (b := c) (by omega)
 omega
theorem ones_ok {n : Nat} : NeedOk (List.replicate n 1) := fun x hx => by rw [(List.mem_replicate.1 hx).2]; omega
theorem ones_need {p : List Txt} (h : plainI p = true) : needV p [List.replicate (rP p).length 1] = true := by
 unfold needV
 rw [h]
 simp [needW]
 exact .inr rfl
theorem pEq_bb {S : Store} {a b : Bool} : pEq tab S 4 (.bool a) (.bool b) = some (a == b) := rfl


theorem PN.ints0 {P : Program} {f : FuncId} {args : List PV} {l : List Int} {n : Nat} {im : Bool} (h : PN P f args (.loc 0 0 0 n) [.arr 0 3 1 (l.map (.int .i64))] im) (h1 : args.mapM (reify ⟨[], 0⟩ true 10) = some args) (hl : l.length = n) : PC P f args (eInts l) true := by
 refine PN.pc h h1 ?_
 subst hl
 simp only [up_loc, List.map_cons, List.map_nil, upOb_arr, up_ints, Nat.add_zero]
 exact reify_loc (k := 9) rfl (by simp) (mapM_int _)
theorem sortedK_pc {p : List Txt} (hv : plainI p = true) : PC Tryz.prog 85 [(.agg [eRel (lfM p), eRel (abM p)]), .bm 92 (.agg [eRel (lfM p), eRel (abM p)])] (eInts (srt p false)) true ∧ PC Tryz.prog 85 [(.agg [eRel (lfM p), eRel (abM p)]), .bm 86 (.agg [eRel (lfM p), eRel (abM p)])] (eInts (srt p true)) true := by
 have hok := (plain_okB hv).1
 have hn9 := okB_rooms hok
 have hn1 := okB_rooms1 hok
 have hlq := lfM_sq hv
 have haq := abM_sq hv
 have hp : plainB p = true := by rw [← plainI_plain]; exact hv
 obtain ⟨f, hf, hi⟩ := bf_rank hp false
 obtain ⟨g, hg, hj⟩ := bf_rank hp true
 exact ⟨PN.ints0 (sorted_pn (bf := bfK p false) hlq hn1 hn9 (fun a b ha hb => before_pc hlq haq ha hb) hf (fun z h1 h2 => srt_is hf hi h1 h2)) rfl srt_len,
  PN.ints0 (sorted_pn (bf := bfK p true) hlq hn1 hn9 (fun a b ha hb => beforeSecond_pc hlq haq ha hb) hg (fun z h1 h2 => srt_is hg hj h1 h2)) rfl srt_len⟩
theorem indexOf_pc {l : List Int} (hl : l.length < 2147483648) {x : Int} {i : Nat} (hx : l[i]? = some x) (hi : ∀ (j : Nat), j < i → l[j]? ≠ some x) : PC Tryz.prog 116 [eInts l, .int .i64 x] (.int .i64 i) true := by
 refine PC.of ⟨Tryz.func116, by kernel_rfl, rfl, by kernel_rfl⟩ tabOk mixed (by show 2 ≤ Tryz.f116.ntmps; decide) ?_
 refine W.seq_region fun K hK => ?_
 simp (disch := omega) only [↓RU, RV, RH, ↓reduceIte, reduceEqDiff, reduceCtorEq, if_pos]
 refine hK _ _ ?_;clear hK K
 refine W.seq ?_
 refine W.seq_region fun K hK => ?_
 simp (disch := omega) only [↓RU, RV, RH, ↓reduceIte, reduceEqDiff, reduceCtorEq, if_pos, tyLint, tyint]
 refine hK _ _ ?_;clear hK K
 refine W.block ?_
 refine W.loop [0, 1, 7, 8] (fun n vs S => ∃ j : Nat, n = l.length - j ∧ j ≤ l.length ∧ (j ≤ i) ∧ vs = [eInts l, .int .i64 x, .int .i64 l.length, .int .i64 j] ∧ S = ⟨[], 0⟩) (l.length) ?_ ?_
 ·refine ⟨0, 0, rfl, Nat.zero_le _, Nat.zero_le _, ?_, rfl⟩
  simp [Env.put, Env.of, argEnv]
 rintro n vs S - ⟨j, rfl, h_j, hji, rfl, rfl⟩
 refine W.seq_region fun K hK => ?_
 simp (disch := omega) only [↓RU, RV, RH, ↓reduceIte, reduceEqDiff, reduceCtorEq, if_pos, w64, tyint]
 refine hK _ _ ?_;clear hK K
 refine W.seq ?_
 refine W.cond rfl (fun h => ?_) (fun h => ?_)
 ·try simp only [RL] at h
  obtain ⟨y, hy, -⟩ := get_of (show j < l.length by omega)
  refine W.skip ?_
  refine XThen.norm ?_
  refine W.seq ?_
  refine W.block ?_
  refine W.seq_region fun K hK => ?_
  simp (disch := omega) only [↓RU, RV, RH, ↓reduceIte, reduceEqDiff, reduceCtorEq, if_pos]
  refine hK _ _ ?_;clear hK K
  refine W.seq_region fun K hK => ?_
  simp (disch := omega) only [↓RU, RV, RH, ↓reduceIte, reduceEqDiff, reduceCtorEq, if_pos, w64, tyLint, tyint, hy]
  refine hK _ _ ?_;clear hK K
  refine W.cond rfl (fun h1 => ?_) (fun h1 => ?_)
  ·try simp only [RL] at h1
   have e : x = y := by simpa using h1
   have hij : j = i := by
    refine Classical.byContradiction fun k => hi j (by omega) (by rw [hy, e])
   subst hij
   refine W.seq_region fun K hK => ?_
   simp (disch := omega) only [↓RU, RV, RH, ↓reduceIte, reduceEqDiff, reduceCtorEq, if_pos]
   refine hK _ _ ?_;clear hK K
   refine W.ret ?_
   refine XBlock.ret ?_
   refine XThen.ret ?_
   refine XThen.ret ?_
   refine XBlock.ret ?_
   refine XThen.ret ?_
   refine BodyQ.ret rfl ?_
   rfl
  ·try simp only [RL] at h1
   have hne : j ≠ i := by rintro rfl; rw [hx] at hy; cases hy; simp at h1
   refine W.skip ?_
   refine XBlock.norm ?_
   refine XThen.norm ?_
   refine W.region_k fun K hK => ?_
   simp (disch := omega) only [↓RU, RV, RH, ↓reduceIte, reduceEqDiff, reduceCtorEq, if_pos, w64, tyint]
   refine hK _ _ ?_;clear hK K
   refine XThen.norm ?_
   refine ⟨l.length - (j + 1), by omega, 0, j + 1, rfl, by omega, by have := hne; omega, ?_, rfl⟩
   simp [Env.put, Env.of]
 ·try simp only [RL] at h
  exact absurd (len_of hx) (by omega)
theorem perm_pn {p : List Txt} (hv : plainI p = true) : PN Tryz.prog 88 [(.agg [eRel (lfM p), eRel (abM p)])] (.loc 0 0 0 (rP p).length) [.arr 0 3 1 ((permV p).map (.int .i64))] false := by
 have hok := (plain_okB hv).1
 have hn9 := okB_rooms hok
 have hn1 := okB_rooms1 hok
 have hlq := lfM_sq hv
 have haq := abM_sq hv
 have hp : plainB p = true := by rw [← plainI_plain]; exact hv
 obtain ⟨hs1, hs2⟩ := sortedK_pc hv
 have hl1 := srt_len (p := p) (below := false)
 have hl2 := srt_len (p := p) (below := true)
 have hpl := permV_len (p := p)
 refine PN.of ⟨Tryz.func88, by kernel_rfl, rfl, by kernel_rfl⟩ tabOk mixed (by show 1 ≤ Tryz.f88.ntmps; decide) ?_
 refine W.seq_region fun K hK => ?_
 simp (disch := omega) only [↓RU, RV, RH, ↓reduceIte, reduceEqDiff, reduceCtorEq, if_pos, ↓RS, RG, reduceAdd, reduceMul, reduceLeDiff, ty0, ty2, tybool, ty13, ty15, ty23]
 refine hK _ _ ?_;clear hK K
 refine W.seq_region fun K hK => ?_
 simp (disch := omega) only [↓RU, RV, RH, ↓reduceIte, reduceEqDiff, reduceCtorEq, if_pos, List.append_nil, ↓RS, RG, reduceAdd, reduceMul, reduceLeDiff, ty0, ty2, tybool, ty13, ty15, ty23, pure_oa, List.isEmpty_nil, Bool.and_self]
 refine CallR.pc (hs1) rfl (.inl rfl) ?_
 simp (disch := omega) only [↓RU, RV, RH, ↓reduceIte, reduceEqDiff, reduceCtorEq, if_pos, List.append_nil, ↓RS, RG, reduceAdd, reduceMul, reduceLeDiff, ty0, ty2, tybool, ty13, ty15, ty23, pure_oa, List.isEmpty_nil, Bool.and_self]
 refine hK _ _ ?_;clear hK K
 refine W.seq_region fun K hK => ?_
 simp (disch := omega) only [↓RU, RV, RH, ↓reduceIte, reduceEqDiff, reduceCtorEq, if_pos, List.append_nil, ↓RS, RG, reduceAdd, reduceMul, reduceLeDiff, ty0, ty2, tybool, ty13, ty15, ty23, pure_oa, List.isEmpty_nil, Bool.and_self]
 refine CallR.pc (hs2) rfl (.inl rfl) ?_
 simp (disch := omega) only [↓RU, RV, RH, ↓reduceIte, reduceEqDiff, reduceCtorEq, if_pos, List.append_nil, ↓RS, RG, reduceAdd, reduceMul, reduceLeDiff, ty0, ty2, tybool, ty13, ty15, ty23, pure_oa, List.isEmpty_nil, Bool.and_self]
 refine hK _ _ ?_;clear hK K
 refine W.joinS [3, 4, 5] (fun vs S => ∃ t tk : Nat, vs = [eInts (srt p false), eInts (srt p true), .loc 0 t 0 (rP p).length] ∧ S = ⟨[.arr t 3 1 ((List.replicate (rP p).length 0).map (.int .i64))], tk⟩) ?_ ?_
 ·
  refine W.region_k fun K hK => ?_
  simp (disch := omega) only [↓RU, RV, RH, ↓reduceIte, reduceEqDiff, reduceCtorEq, if_pos, ↓RS, RG, reduceAdd, reduceMul, reduceLeDiff, tyLint, tyint, hl2, repz_int, ile_true]
  refine hK _ _ ?_;clear hK K
  refine XThen.norm ?_
  refine ⟨0, [1], [eInts (srt p false), eInts (srt p true), .loc 0 2 0 (rP p).length], ⟨[.arr 2 3 1 ((List.replicate (rP p).length 0).map (.int .i64))], 3⟩, ?_, ?_, 2, 3, rfl, rfl⟩
  ·simp [-List.mapM_map, Env.put, Env.of, argEnv, Srn_eq, rnObs_cons, rnObs_nil, rnOb_arr, rnOb_map, rn_loc, rn_ref, rn_mp, rn_int, rn_bool, rn_str, rn_ip, rn_sl, rn_nils, rn_nilp, rn_undef, rn_agg, rn_tup, rn_fn, rfq_loc, rfq_int, rfq_bool, rfq_str, rfq_sl, frOf, List.range_succ, List.mapM_append, List.mapM_cons, Store.cellsOf]
  ·simp [-List.mapM_map, Env.put, Env.of, argEnv, Srn_eq, rnObs_cons, rnObs_nil, rnOb_arr, rnOb_map, rn_loc, rn_ref, rn_mp, rn_int, rn_bool, rn_str, rn_ip, rn_sl, rn_nils, rn_nilp, rn_undef, rn_agg, rn_tup, rn_fn, rfq_loc, rfq_int, rfq_bool, rfq_str, rfq_sl, frOf, List.range_succ, List.mapM_append, List.mapM_cons, rn_rep0]
 rintro vs S - ⟨t0, tk0, rfl, rfl⟩
 refine W.seq ?_
 refine W.seq_region fun K hK => ?_
 simp (disch := omega) only [↓RU, RV, RH, ↓reduceIte, reduceEqDiff, reduceCtorEq, if_pos, ↓RS, RG, reduceAdd, reduceMul, reduceLeDiff, tyLint, tyint]
 refine hK _ _ ?_;clear hK K
 refine W.block ?_
 refine W.loop [3, 5, 19, 20, 21] (fun n vs S => ∃ i t tk : Nat, n = (rP p).length - i ∧ i ≤ (rP p).length ∧ vs = [eInts (srt p false), .loc 0 t 0 (rP p).length, eInts (srt p true), .int .i64 (rP p).length, .int .i64 i] ∧ S = ⟨[.arr t 3 1 (((permV p).take i ++ List.replicate ((rP p).length - i) 0).map (.int .i64))], tk⟩) (rP p).length ?_ ?_
 ·refine ⟨1, 0, t0, tk0, rfl, by omega, ?_, by simp [Store.take]⟩
  simp [Env.put, Env.of, argEnv, hl2]
 rintro n vs S - ⟨i, t, tk, rfl, h_i, rfl, rfl⟩
 refine W.seq_region fun K hK => ?_
 simp (disch := omega) only [↓RU, RV, RH, ↓reduceIte, reduceEqDiff, reduceCtorEq, if_pos, w64, ↓RS, RG, reduceAdd, reduceMul, reduceLeDiff, tyint]
 refine hK _ _ ?_;clear hK K
 refine W.seq ?_
 refine W.cond rfl (fun h => ?_) (fun h => ?_)
 ·try simp only [RL] at h
  obtain ⟨a, ha, ha2, hsa⟩ := srt_get (below := true) hp (show i < (rP p).length by omega)
  have hpa := permV_at hp hsa
  have hix := srt_at (below := false) hp ha
  have hin : ∀ j, j < ahK p false a → (srt p false)[j]? ≠ some (a : Int) := fun j hj k => by
   have k1 := len_of hix
   have k2 := len_of k
   rw [List.getElem?_eq_getElem k1] at hix
   rw [List.getElem?_eq_getElem k2] at k
   have := nodup_get (srt_nodup hp) k1 k2 ((Option.some.inj hix).trans (Option.some.inj k).symm)
   omega
  have hol : ((permV p).take i ++ List.replicate ((rP p).length - i) 0).length = (rP p).length := by simp [hpl]; omega
  refine W.skip ?_
  refine XThen.norm ?_
  refine W.seq ?_
  refine W.block ?_
  refine W.seq_region fun K hK => ?_
  simp (disch := omega) only [↓RU, RV, RH, ↓reduceIte, reduceEqDiff, reduceCtorEq, if_pos, ↓RS, RG, reduceAdd, reduceMul, reduceLeDiff, tyLint, tyint, hsa]
  refine hK _ _ ?_;clear hK K
  refine W.region_k fun K hK => ?_
  simp (disch := omega) only [↓RU, RV, RH, ↓reduceIte, reduceEqDiff, reduceCtorEq, if_pos, List.append_nil, ↓RS, RG, reduceAdd, reduceMul, reduceLeDiff, tyLint, tyint, set_spl, set_int, hol]
  refine CallR.pc (indexOf_pc (by omega) hix hin) rfl (.inl rfl) ?_
  simp (disch := omega) only [↓RU, RV, RH, ↓reduceIte, reduceEqDiff, reduceCtorEq, if_pos, List.append_nil, ↓RS, RG, reduceAdd, reduceMul, reduceLeDiff, tyLint, tyint, set_spl, set_int, hol]
  refine hK _ _ ?_;clear hK K
  refine XBlock.norm ?_
  refine XThen.norm ?_
  refine W.region_k fun K hK => ?_
  simp (disch := omega) only [↓RU, RV, RH, ↓reduceIte, reduceEqDiff, reduceCtorEq, if_pos, w64, ↓RS, RG, reduceAdd, reduceMul, reduceLeDiff, tyint]
  refine hK _ _ ?_;clear hK K
  refine XThen.norm ?_
  refine ⟨(rP p).length - (i + 1), by omega, 1, i + 1, t, tk, rfl, by omega, ?_, ?_⟩
  ·simp [Env.put, Env.of]
  ·rw [← hpl]; simp only [take_eq, copy_succ hpa]; rfl
 ·try simp only [RL] at h
  obtain rfl : i = (rP p).length := by omega
  rw [List.take_of_length_le (by omega), Nat.sub_self]
  simp only [List.replicate_zero, List.append_nil]
  refine W.exit ?_
  refine XThen.exit ?_
  refine XThen.exit ?_
  refine XBlock.hit ?_
  refine XThen.norm ?_
  refine W.seq_region fun K hK => ?_
  simp (disch := omega) only [↓RU, RV, RH, ↓reduceIte, reduceEqDiff, reduceCtorEq, if_pos, ↓RS, RG, reduceAdd, reduceMul, reduceLeDiff]
  refine hK _ _ ?_;clear hK K
  refine W.ret ?_
  refine BodyQ.ret rfl ?_
  exact sh_one rfl (sh_ints _)
theorem perm_pc {p : List Txt} (hv : plainI p = true) : PC Tryz.prog 88 [.agg [eRel (lfM p), eRel (abM p)]] (eInts (permV p)) true := PN.ints0 (perm_pn hv) rfl permV_len
def ifL (b : Bool) (l : List Int) : List Int := if b then l else []
theorem plainI_is {p : List Txt} {b : Bool} (h : plainI p = b) : plainB p = b := by rw [← plainI_plain]; exact h
theorem orderPerm_no {p : List Txt} (hs : Sm p) (hv : plainI p = false) : PC Tryz.prog 48 [eStrs p] (.tup [eInts [], .bool false]) false := by
 refine PC.of ⟨Tryz.func48, by kernel_rfl, rfl, by kernel_rfl⟩ tabOk mixed (by show 1 ≤ Tryz.f48.ntmps; decide) ?_
 refine W.seq_region fun K hK => ?_
 simp (disch := omega) only [↓RU, RV, RH, ↓reduceIte, reduceEqDiff, reduceCtorEq, if_pos, ↓RS, RG, reduceAdd, reduceMul, reduceLeDiff]
 refine hK _ _ ?_;clear hK K
 refine W.seq_region fun K hK => ?_
 simp (disch := omega) only [↓RU, RV, RH, ↓reduceIte, reduceEqDiff, reduceCtorEq, if_pos, List.append_nil, ↓RS, RG, reduceAdd, reduceMul, reduceLeDiff, ty0, ty2, tybool, ty13, ty15, ty23]
 refine CallR.pc (ordersOf_no hs hv) rfl (.inr rfl) ?_
 simp (disch := omega) only [↓RU, RV, RH, ↓reduceIte, reduceEqDiff, reduceCtorEq, if_pos, List.append_nil, ↓RS, RG, reduceAdd, reduceMul, reduceLeDiff, ty0, ty2, tybool, ty13, ty15, ty23]
 refine hK _ _ ?_;clear hK K
 refine W.seq ?_
 refine W.seq_region fun K hK => ?_
 simp (disch := omega) only [↓RU, RV, RH, ↓reduceIte, reduceEqDiff, reduceCtorEq, if_pos, ↓RS, RG, reduceAdd, reduceMul, reduceLeDiff]
 refine hK _ _ ?_;clear hK K
 refine W.cond rfl (fun h => ?_) (fun h => ?_)
 ·try simp only [RL] at h
  refine W.seq_region fun K hK => ?_
  simp (disch := omega) only [↓RU, RV, RH, ↓reduceIte, reduceEqDiff, reduceCtorEq, if_pos, ↓RS, RG, reduceAdd, reduceMul, reduceLeDiff]
  refine hK _ _ ?_;clear hK K
  refine W.ret ?_
  refine XThen.ret ?_
  refine BodyQ.ret rfl ?_
  rfl
 ·try simp only [RL] at h
  exact absurd h (by simp)
theorem orderPerm_yes {p : List Txt} (hs : Sm p) (hv : plainI p = true) : PC Tryz.prog 48 [eStrs p] (.tup [eInts (permV p), .bool true]) false := by
 refine PC.of ⟨Tryz.func48, by kernel_rfl, rfl, by kernel_rfl⟩ tabOk mixed (by show 1 ≤ Tryz.f48.ntmps; decide) ?_
 refine W.seq_region fun K hK => ?_
 simp (disch := omega) only [↓RU, RV, RH, ↓reduceIte, reduceEqDiff, reduceCtorEq, if_pos, ↓RS, RG, reduceAdd, reduceMul, reduceLeDiff]
 refine hK _ _ ?_;clear hK K
 refine W.seq_region fun K hK => ?_
 simp (disch := omega) only [↓RU, RV, RH, ↓reduceIte, reduceEqDiff, reduceCtorEq, if_pos, List.append_nil, ↓RS, RG, reduceAdd, reduceMul, reduceLeDiff, ty0, ty2, tybool, ty13, ty15, ty23]
 refine CallR.pc (ordersOf_yes hs hv) rfl (.inr rfl) ?_
 simp (disch := omega) only [↓RU, RV, RH, ↓reduceIte, reduceEqDiff, reduceCtorEq, if_pos, List.append_nil, ↓RS, RG, reduceAdd, reduceMul, reduceLeDiff, ty0, ty2, tybool, ty13, ty15, ty23]
 refine hK _ _ ?_;clear hK K
 refine W.seq ?_
 refine W.seq_region fun K hK => ?_
 simp (disch := omega) only [↓RU, RV, RH, ↓reduceIte, reduceEqDiff, reduceCtorEq, if_pos, ↓RS, RG, reduceAdd, reduceMul, reduceLeDiff]
 refine hK _ _ ?_;clear hK K
 refine W.cond rfl (fun h => ?_) (fun h => ?_)
 ·try simp only [RL] at h
  exact absurd h (by simp)
 ·try simp only [RL] at h
  refine W.skip ?_
  refine XThen.norm ?_
  refine W.seq_region fun K hK => ?_
  simp (disch := omega) only [↓RU, RV, RH, ↓reduceIte, reduceEqDiff, reduceCtorEq, if_pos, List.append_nil, ↓RS, RG, reduceAdd, reduceMul, reduceLeDiff, ty0, ty2, tybool, ty13, ty15, ty23]
  refine CallR.pc (perm_pc hv) rfl (.inl rfl) ?_
  simp (disch := omega) only [↓RU, RV, RH, ↓reduceIte, reduceEqDiff, reduceCtorEq, if_pos, List.append_nil, ↓RS, RG, reduceAdd, reduceMul, reduceLeDiff, ty0, ty2, tybool, ty13, ty15, ty23]
  refine hK _ _ ?_;clear hK K
  refine W.ret ?_
  refine BodyQ.ret rfl ?_
  rfl
theorem orderPerm_pc {p : List Txt} (hs : Sm p) : PC Tryz.prog 48 [eStrs p] (.tup [eInts (ifL (plainI p) (permV p)), .bool (plainI p)]) false := by
 cases hv : plainI p with
 | false => exact orderPerm_no hs hv
 | true => exact orderPerm_yes hs hv
section
def lgB (sets : List Nat) (a : Nat) (out : List Int) (b : Nat) : List Int := if bitOf sets a b then out.set a (max (getI out a) (1 + getI out b)) else out
def lgC (sets : List Nat) (a k : Nat) (out : List Int) : List Int := (List.range k).foldl (lgB sets a) (out.set a (max (getI out a) 1))
def lgA (sets : List Nat) (s : List Int × Int) (a : Nat) : List Int × Int := (lgC sets a sets.length s.1, max s.2 (getI (lgC sets a sets.length s.1) a))
def lgN (sets : List Nat) (s : List Int × Int) (_ : Nat) : List Int × Int := (List.range sets.length).foldl (lgA sets) s
def lgS (sets : List Nat) (k : Nat) : List Int × Int := (List.range k).foldl (lgN sets) (List.replicate sets.length 0, 0)
def longS (sets : List Nat) : Int := (lgS sets sets.length).2
theorem lgC_succ {sets : List Nat} {a k : Nat} {out : List Int} : lgC sets a (k + 1) out = lgB sets a (lgC sets a k out) k := by unfold lgC; rw [foldl_rg]
theorem lgS_succ {sets : List Nat} {k : Nat} : lgS sets (k + 1) = (List.range sets.length).foldl (lgA sets) (lgS sets k) := by
 unfold lgS; rw [foldl_rg]; rfl
variable {M : List (List Bool)} {ms : List Nat} {n : Nat} {rk : Nat → Nat} {ws out : List Int}
abbrev ones (n : Nat) : List Int := List.replicate n 1
theorem ones_len : (ones n).length = n := by simp
theorem ones_get {b : Nat} (hb : b < n) : getI (ones n) b = 1 := by unfold getI; rw [List.getElem?_replicate, if_pos hb]; rfl
def RB (M : List (List Bool)) (n b : Nat) : Int := HB (revM n M) (ones n) n b
theorem RB_beg (hu : Up M n rk) {b : Nat} (hb : b < n) : RB M n b = beg (revM n M) (ones n) n b + 1 := by
 unfold RB
 rw [HB_beg (revM_up hu) hb, ones_get hb]
theorem RB_ge (hu : Up M n rk) {a b : Nat} (ha : a < n) (hb : b < n) (h : getB M a b = true) : 1 + RB M n b ≤ RB M n a := by
 rw [RB_beg hu ha]
 have h1 := beg_ge (M := revM n M) (ws := ones n) (n := n) hb (by rw [revM_get hb ha]; exact h)
 unfold RB; omega
def LgOk (M : List (List Bool)) (n : Nat) (out : List Int) : Prop := out.length = n ∧ ∀ a, a < n → 0 ≤ getI out a ∧ getI out a ≤ RB M n a
theorem LgOk.set (h : LgOk M n out) {a : Nat} {v : Int} (ha : a < n) (h0 : 0 ≤ v) (h1 : v ≤ RB M n a) : LgOk M n (out.set a v) := by
 refine ⟨by simp [h.1], fun y hy => ?_⟩
 rw [getI_set (by rw [h.1]; exact ha)]
 split
 ·rename_i e; subst e; exact ⟨h0, h1⟩
 ·exact h.2 y hy
theorem lgC_ok (hs : Same n M ms) (hu : Up M n rk) {out : List Int} (h : LgOk M n out) {a : Nat} (ha : a < n) : ∀ k, k ≤ n →
  LgOk M n (lgC ms a k out) ∧ Ge n out (lgC ms a k out) ∧ 1 ≤ getI (lgC ms a k out) a ∧ (∀ b, b < k → getB M a b = true → 1 + getI out b ≤ getI (lgC ms a k out) a) := by
 intro k
 have hR := RB_beg hu ha
 have hb0 := beg_nn (M := revM n M) (ws := ones n) (n := n) a
 induction k with
 | zero =>
  intro _
  have h0 := h.2 a ha
  refine ⟨LgOk.set (M := M) h ha (by omega) (by omega), fun y hy => ?_, ?_, fun b hb => by omega⟩
  ·show getI out y ≤ getI (out.set a _) y
   rw [getI_set (by rw [h.1]; exact ha)]
   split
   ·rename_i e; subst e; omega
   ·exact Int.le_refl _
  ·show 1 ≤ getI (out.set a _) a
   rw [getI_set (by rw [h.1]; exact ha), if_pos rfl]; omega
 | succ k ih =>
  intro hk
  obtain ⟨k1, k2, k3, k4⟩ := ih (by omega)
  rw [lgC_succ]
  generalize lgC ms a k out = X at k1 k2 k3 k4
  unfold lgB
  rw [← hs.2.2 a k ha (by omega)]
  cases hM : getB M a k with
  | false =>
   refine ⟨k1, k2, k3, fun b hb hab => ?_⟩
   by_cases e : b = k
   ·subst e; rw [hM] at hab; cases hab
   ·exact k4 b (by omega) hab
  | true =>
   rw [if_pos rfl]
   have q1 := k1.2 a ha
   have q2 := k1.2 k (by omega)
   have q3 := RB_ge hu ha (show k < n by omega) hM
   have q4 : ∀ y, getI (X.set a (max (getI X a) (1 + getI X k))) y = if y = a then max (getI X a) (1 + getI X k) else getI X y := fun y => getI_set (by rw [k1.1]; exact ha)
   refine ⟨LgOk.set (M := M) k1 ha (by omega) (by omega), fun y hy => ?_, ?_, fun b hb hab => ?_⟩
   ·have := k2 y hy
    rw [q4]
    split
    ·rename_i e; subst e; omega
    ·exact this
   ·rw [q4, if_pos rfl]; omega
   ·rw [q4, if_pos rfl]
    have := k2 k (by omega)
    by_cases e : b = k
    ·subst e; omega
    ·have := k4 b (by omega) hab; omega
theorem lgA_ok (hs : Same n M ms) (hu : Up M n rk) {B : Int} (hB : ∀ a, a < n → RB M n a ≤ B) {s : List Int × Int} (h : LgOk M n s.1) (h0 : 0 ≤ s.2 ∧ s.2 ≤ B) : ∀ k, k ≤ n →
  LgOk M n ((List.range k).foldl (lgA ms) s).1 ∧ Ge n s.1 ((List.range k).foldl (lgA ms) s).1 ∧ s.2 ≤ ((List.range k).foldl (lgA ms) s).2 ∧ ((List.range k).foldl (lgA ms) s).2 ≤ B ∧
   ∀ a, a < k → (∀ b, b < n → getB M a b = true → 1 + getI s.1 b ≤ getI ((List.range k).foldl (lgA ms) s).1 a) ∧ 1 ≤ getI ((List.range k).foldl (lgA ms) s).1 a ∧
    ((∀ b, b < n → getB M a b = true → getI s.1 b = RB M n b) → RB M n a ≤ ((List.range k).foldl (lgA ms) s).2) := by
 intro k
 induction k with
 | zero => intro _; exact ⟨h, Ge.refl _, Int.le_refl _, h0.2, fun a ha => by omega⟩
 | succ k ih =>
  intro hk
  obtain ⟨k1, k2, k3, k4, k5⟩ := ih (by omega)
  rw [foldl_rg]
  generalize (List.range k).foldl (lgA ms) s = X at k1 k2 k3 k4 k5 ⊢
  obtain ⟨c1, c2, c3, c4⟩ := lgC_ok hs hu k1 (show k < n by omega) n (Nat.le_refl _)
  have hl : lgA ms X k = (lgC ms k n X.1, max X.2 (getI (lgC ms k n X.1) k)) := by unfold lgA; rw [hs.2.1]
  rw [hl]
  generalize lgC ms k n X.1 = Y at c1 c2 c3 c4
  have hk2 := (c1.2 k (by omega)).2
  have hk3 := hB k (by omega)
  refine ⟨c1, k2.trans c2, by simp only; omega, by simp only; omega, fun a ha => ?_⟩
  simp only
  by_cases e : a = k
  ·subst e
   refine ⟨fun b hb hab => ?_, c3, fun hall => ?_⟩
   ·have := c4 b hb hab
    have := k2 b hb
    omega
   ·have : RB M n a ≤ getI Y a := by
     rw [RB_beg hu (by omega)]
     rcases beg_at (M := revM n M) (ws := ones n) (n := n) a with q | ⟨b, hb, hab, q⟩
     ·omega
     ·rw [revM_get hb (by omega)] at hab
      have q1 := c4 b hb hab
      have q2 := k2 b hb
      rw [hall b hb hab] at q2
      unfold RB at q2
      omega
    omega
  ·obtain ⟨m1, m2, m3⟩ := k5 a (by omega)
   have m4 := c2 a (by omega)
   refine ⟨fun b hb hab => ?_, by omega, fun hall => ?_⟩
   ·have := m1 b hb hab; omega
   ·have := m3 hall; omega
theorem lgS_done (hs : Same n M ms) (hu : Up M n rk) {B : Int} (hB0 : 0 ≤ B) (hB : ∀ a, a < n → RB M n a ≤ B) : ∀ k, k ≤ n → LgOk M n (lgS ms k).1 ∧ 0 ≤ (lgS ms k).2 ∧ (lgS ms k).2 ≤ B ∧
  ∀ a, a < n → ahead n (fun b => 100 - rk b) a < k → getI (lgS ms k).1 a = RB M n a ∧ RB M n a ≤ (lgS ms k).2 := by
 intro k
 induction k with
 | zero =>
  intro _
  refine ⟨⟨by simp [lgS, hs.2.1], fun a ha => ?_⟩, by simp [lgS], by simpa [lgS] using hB0, fun a _ h => by omega⟩
  have h1 : getI (lgS ms 0).1 a = 0 := by simp [lgS, getI, hs.2.1, ha]
  have h2 := RB_beg hu ha
  have h3 := beg_nn (M := revM n M) (ws := ones n) (n := n) a
  rw [h1]; omega
 | succ k ih =>
  intro hk
  obtain ⟨k1, k2, k3, k4⟩ := ih (by omega)
  rw [lgS_succ, hs.2.1]
  obtain ⟨c1, c2, c3, c4, c5⟩ := lgA_ok hs hu hB k1 ⟨k2, k3⟩ n (Nat.le_refl _)
  refine ⟨c1, by omega, c4, fun a ha hc => ?_⟩
  obtain ⟨m1, m2, m3⟩ := c5 a ha
  have hall : ∀ b, b < n → getB M a b = true → getI (lgS ms k).1 b = RB M n b := fun b hb hab => by
   have hrk := hu.up a b ha hb hab
   have hle := hu.le b
   exact (k4 b hb (by have := ahead_lt (n := n) (rk := fun b => 100 - rk b) hb (show 100 - rk b < 100 - rk a by omega); omega)).1
  refine ⟨?_, m3 hall⟩
  have hup := (c1.2 a ha).2
  have : RB M n a ≤ getI ((List.range n).foldl (lgA ms) (lgS ms k)).1 a := by
   rw [RB_beg hu ha]
   rcases beg_at (M := revM n M) (ws := ones n) (n := n) a with q | ⟨b, hb, hab, q⟩
   ·omega
   ·rw [revM_get hb ha] at hab
    have q1 := m1 b hb hab
    rw [hall b hb hab] at q1
    unfold RB at q1
    omega
  omega
theorem both_le2 (hu : Up M n rk) : ∀ k b, b < n → rk b < k → HB (revM n M) ws n b + beg M ws n b ≤ maxL (heaviest (revM n M) ws n) := by
 intro k
 induction k with
 | zero => intro b _ h; omega
 | succ k ih =>
  intro b hb hk
  rcases beg_at (M := M) (ws := ws) (n := n) b with h | ⟨a, ha, hab, h⟩
  ·have := hb_le (M := revM n M) (ws := ws) hb; omega
  ·have hrk := hu.up a b ha hb hab
   have h1 := ih a ha (by omega)
   have h2 := beg_ge (M := revM n M) (ws := ws) hb (by rw [revM_get hb ha]; exact hab)
   have h3 := HB_beg (ws := ws) hu ha
   have h4 := HB_beg (ws := ws) (revM_up hu) ha
   omega
theorem max_rev (hu : Up M n rk) (hn : 1 ≤ n) (hw : ws.length = n) (hok : NeedOk ws) : maxL (heaviest (revM n M) ws n) = maxL (heaviest M ws n) := by
 apply Int.le_antisymm
 ·obtain ⟨b, hb, e⟩ := hb_is (M := revM n M) (ws := ws) hn
  have h1 := both_le (ws := ws) hu (101 - rk b) b hb (by have := hu.le b; omega)
  have h2 := HB_beg (ws := ws) (revM_up hu) hb
  have h3 := HB_beg (ws := ws) hu hb
  have h4 := beg_nn (M := M) (ws := ws) (n := n) b
  omega
 ·obtain ⟨b, hb, e⟩ := hb_is (M := M) (ws := ws) hn
  have h1 := both_le2 (ws := ws) hu (rk b + 1) b hb (by omega)
  have h2 := HB_beg (ws := ws) (revM_up hu) hb
  have h3 := HB_beg (ws := ws) hu hb
  have h4 := beg_nn (M := revM n M) (ws := ws) (n := n) b
  omega
theorem long_eq (hs : Same n M ms) (hu : Up M n rk) (hn : 1 ≤ n) : longS ms = maxL (heaviest M (ones n) n) := by
 rw [← max_rev hu hn ones_len ones_ok]
 have hB : ∀ a, a < n → RB M n a ≤ maxL (heaviest (revM n M) (ones n) n) := fun a ha => hb_le ha
 obtain ⟨b, hb, e⟩ := hb_is (M := revM n M) (ws := ones n) hn
 have h0 := RB_beg hu hb
 have h1 := beg_nn (M := revM n M) (ws := ones n) (n := n) b
 have h2 := hB b hb
 obtain ⟨-, -, k3, k4⟩ := lgS_done hs hu (by omega) hB n (Nat.le_refl _)
 unfold longS
 rw [hs.2.1]
 have := (k4 b hb (ahead_n hb)).2
 unfold RB at this
 omega
theorem long_plain {p : List Txt} (h : plainI p = true) : longS (allS p 0) = maxL (heaviest (lfM p) (ones (rP p).length) (rP p).length) ∧ longS (allS p 1) = maxL (heaviest (abM p) (ones (rP p).length) (rP p).length) := by
 have hv := ones_need h
 obtain ⟨s0, s1, u0, u1, -, hn, -⟩ := plan_same hv
 rw [lf_eq] at s0 u0
 rw [ab_eq] at s1 u1
 exact ⟨long_eq s0 u0 hn, long_eq s1 u1 hn⟩
end
theorem wu64 {x : Int} (h1 : 0 ≤ x) (h2 : x < 18446744073709551616) : IntKind.u64.wrap x = x := by
 simp [IntKind.wrap, IntKind.bits, IntKind.signed]; omega
theorem shr32 {x : Int} (h1 : 0 ≤ x) (h2 : x < 4294967296) : pShift .shr .u64 x 32 = some (.int .u64 0) := by
 have h3 : x.fdiv 4294967296 = 0 := by rw [Int.fdiv_eq_ediv_of_nonneg _ (by omega)]; omega
 show some (PV.int .u64 (x.fdiv 4294967296)) = _
 rw [h3]
theorem and32 {x : Int} (h1 : 0 ≤ x) (h2 : x < 4294967296) : IntKind.u64.wrap ((BitVec.ofInt IntKind.u64.bits x &&& BitVec.ofInt IntKind.u64.bits 4294967295).toNat : Int) = x := by
 obtain ⟨n, rfl⟩ := Int.eq_ofNat_of_zero_le h1
 have h3 : n &&& 4294967295 = n := by
  have := Nat.and_two_pow_sub_one_eq_mod n 32
  simp only [Nat.reducePow, Nat.reduceSub] at this
  rw [this]; omega
 have h4 : (BitVec.ofInt 64 (n : Int) &&& BitVec.ofInt 64 4294967295).toNat = n := by
  rw [BitVec.toNat_and]
  have e1 : (BitVec.ofInt 64 (n : Int)).toNat = n := by simp [BitVec.toNat_ofInt]; omega
  have e2 : (BitVec.ofInt 64 4294967295).toNat = 4294967295 := by decide
  rw [e1, e2, h3]
 show IntKind.u64.wrap ((BitVec.ofInt 64 (n : Int) &&& BitVec.ofInt 64 4294967295).toNat : Int) = n
 rw [h4, wu64 (by omega) (by omega)]
theorem mul64_pc {n : Nat} (hn : n ≤ 1000) : PC Tryz.prog 133 [.int .u64 1, .int .u64 n] (.tup [.int .u64 0, .int .u64 n]) true := by
 refine PC.of ⟨Tryz.func133, by kernel_rfl, rfl, by kernel_rfl⟩ tabOk mixed (by show 2 ≤ Tryz.f133.ntmps; decide) ?_
 refine W.seq_region fun K hK => ?_
 simp (disch := omega) only [↓RU, RV, RH, ↓reduceIte, reduceEqDiff, reduceCtorEq, if_pos, wu64, shr32, and32, Int.one_mul, Int.zero_mul, Int.mul_zero, Int.zero_add, Int.add_zero, Int.reduceMul, Int.reduceAdd]
 refine hK _ _ ?_;clear hK K
 refine W.seq_region fun K hK => ?_
 simp (disch := omega) only [↓RU, RV, RH, ↓reduceIte, reduceEqDiff, reduceCtorEq, if_pos, w64, ty26, wu64, shr32, and32, Int.one_mul, Int.zero_mul, Int.mul_zero, Int.zero_add, Int.add_zero, Int.reduceMul, Int.reduceAdd]
 refine hK _ _ ?_;clear hK K
 refine W.seq_region fun K hK => ?_
 simp (disch := omega) only [↓RU, RV, RH, ↓reduceIte, reduceEqDiff, reduceCtorEq, if_pos, w64, ty26, wu64, shr32, and32, Int.one_mul, Int.zero_mul, Int.mul_zero, Int.zero_add, Int.add_zero, Int.reduceMul, Int.reduceAdd]
 refine hK _ _ ?_;clear hK K
 refine W.seq_region fun K hK => ?_
 simp (disch := omega) only [↓RU, RV, RH, ↓reduceIte, reduceEqDiff, reduceCtorEq, if_pos, w64, ty26, wu64, shr32, and32, Int.one_mul, Int.zero_mul, Int.mul_zero, Int.zero_add, Int.add_zero, Int.reduceMul, Int.reduceAdd]
 refine hK _ _ ?_;clear hK K
 refine W.seq_region fun K hK => ?_
 simp (disch := omega) only [↓RU, RV, RH, ↓reduceIte, reduceEqDiff, reduceCtorEq, if_pos, w64, ty26, wu64, shr32, and32, Int.one_mul, Int.zero_mul, Int.mul_zero, Int.zero_add, Int.add_zero, Int.reduceMul, Int.reduceAdd]
 refine hK _ _ ?_;clear hK K
 refine W.seq_region fun K hK => ?_
 simp (disch := omega) only [↓RU, RV, RH, ↓reduceIte, reduceEqDiff, reduceCtorEq, if_pos, w64, ty26, wu64, shr32, and32, Int.one_mul, Int.zero_mul, Int.mul_zero, Int.zero_add, Int.add_zero, Int.reduceMul, Int.reduceAdd]
 refine hK _ _ ?_;clear hK K
 refine W.seq_region fun K hK => ?_
 simp (disch := omega) only [↓RU, RV, RH, ↓reduceIte, reduceEqDiff, reduceCtorEq, if_pos, w64, ty26, wu64, shr32, and32, Int.one_mul, Int.zero_mul, Int.mul_zero, Int.zero_add, Int.add_zero, Int.reduceMul, Int.reduceAdd]
 refine hK _ _ ?_;clear hK K
 refine W.seq_region fun K hK => ?_
 simp (disch := omega) only [↓RU, RV, RH, ↓reduceIte, reduceEqDiff, reduceCtorEq, if_pos, w64, ty26, wu64, shr32, and32, Int.one_mul, Int.zero_mul, Int.mul_zero, Int.zero_add, Int.add_zero, Int.reduceMul, Int.reduceAdd]
 refine hK _ _ ?_;clear hK K
 refine W.seq_region fun K hK => ?_
 simp (disch := omega) only [↓RU, RV, RH, ↓reduceIte, reduceEqDiff, reduceCtorEq, if_pos, w64, ty26, wu64, shr32, and32, Int.one_mul, Int.zero_mul, Int.mul_zero, Int.zero_add, Int.add_zero, Int.reduceMul, Int.reduceAdd]
 refine hK _ _ ?_;clear hK K
 refine W.seq_region fun K hK => ?_
 simp (disch := omega) only [↓RU, RV, RH, ↓reduceIte, reduceEqDiff, reduceCtorEq, if_pos, w64, ty26, wu64, shr32, and32, Int.one_mul, Int.zero_mul, Int.mul_zero, Int.zero_add, Int.add_zero, Int.reduceMul, Int.reduceAdd]
 refine hK _ _ ?_;clear hK K
 refine W.seq_region fun K hK => ?_
 simp (disch := omega) only [↓RU, RV, RH, ↓reduceIte, reduceEqDiff, reduceCtorEq, if_pos, w64, ty26, wu64, shr32, and32, Int.one_mul, Int.zero_mul, Int.mul_zero, Int.zero_add, Int.add_zero, Int.reduceMul, Int.reduceAdd]
 refine hK _ _ ?_;clear hK K
 refine W.seq_region fun K hK => ?_
 simp (disch := omega) only [↓RU, RV, RH, ↓reduceIte, reduceEqDiff, reduceCtorEq, if_pos, w64, ty26, wu64, shr32, and32, Int.one_mul, Int.zero_mul, Int.mul_zero, Int.zero_add, Int.add_zero, Int.reduceMul, Int.reduceAdd]
 refine hK _ _ ?_;clear hK K
 refine W.ret ?_
 refine BodyQ.ret rfl ?_
 rfl
theorem mulU_pc {n : Nat} (hn : n ≤ 1000) : PC Tryz.prog 110 [.int .u64 1, .int .u64 n] (.tup [.int .u64 0, .int .u64 n]) true := by
 refine PC.of ⟨Tryz.func110, by kernel_rfl, rfl, by kernel_rfl⟩ tabOk mixed (by show 2 ≤ Tryz.f110.ntmps; decide) ?_
 refine W.seq_region fun K hK => ?_
 simp (disch := omega) only [↓RU, RV, RH, ↓reduceIte, reduceEqDiff, reduceCtorEq, if_pos, wu64, shr32, and32, Int.one_mul, Int.zero_mul, Int.mul_zero, Int.zero_add, Int.add_zero, Int.reduceMul, Int.reduceAdd]
 refine hK _ _ ?_;clear hK K
 refine W.seq ?_
 refine W.cond rfl (fun h => ?_) (fun h => ?_)
 ·skip
  cases h
 ·skip
  refine W.skip ?_
  refine XThen.norm ?_
  refine W.seq_region fun K hK => ?_
  simp (disch := omega) only [↓RU, RV, RH, ↓reduceIte, reduceEqDiff, reduceCtorEq, if_pos, List.append_nil, wu64, shr32, and32, Int.one_mul, Int.zero_mul, Int.mul_zero, Int.zero_add, Int.add_zero, Int.reduceMul, Int.reduceAdd]
  refine CallR.pc (mul64_pc hn) rfl (.inl rfl) ?_
  simp (disch := omega) only [↓RU, RV, RH, ↓reduceIte, reduceEqDiff, reduceCtorEq, if_pos, List.append_nil, wu64, shr32, and32, Int.one_mul, Int.zero_mul, Int.mul_zero, Int.zero_add, Int.add_zero, Int.reduceMul, Int.reduceAdd]
  refine hK _ _ ?_;clear hK K
  refine W.seq_region fun K hK => ?_
  simp (disch := omega) only [↓RU, RV, RH, ↓reduceIte, reduceEqDiff, reduceCtorEq, if_pos, wu64, shr32, and32, Int.one_mul, Int.zero_mul, Int.mul_zero, Int.zero_add, Int.add_zero, Int.reduceMul, Int.reduceAdd]
  refine hK _ _ ?_;clear hK K
  refine W.ret ?_
  refine BodyQ.ret rfl ?_
  rfl
def oz (k m : Nat) : List Int := List.replicate k 1 ++ List.replicate m 0
theorem oz_len {k m : Nat} : (oz k m).length = k + m := by simp [oz]
theorem oz_all {k : Nat} : oz k 0 = ones k := by simp [oz]
theorem oz_pv {k m : Nat} : (oz k m).map (PV.int .i64) = List.replicate k (.int .i64 1) ++ List.replicate m (.int .i64 0) := by simp [oz]
theorem oz_one {n : Nat} (hn : 1 ≤ n) : spl ((oz 0 n).map (PV.int .i64)) 0 [PV.int .i64 1] = (oz 1 (n - 1)).map (PV.int .i64) := by
 obtain ⟨m, rfl⟩ : ∃ m, n = m + 1 := ⟨n - 1, by omega⟩
 simp [spl, oz, List.replicate_succ]
theorem oz_more {k m c : Nat} (hc : c = min m k) : spl ((oz k m).map (PV.int .i64)) k (((oz k m).map (PV.int .i64)).take c) = (oz (k + c) (m - c)).map (PV.int .i64) := by
 rw [oz_pv, oz_pv]
 have h1 : (List.replicate k (PV.int .i64 1) ++ List.replicate m (PV.int .i64 0)).take c = List.replicate c (PV.int .i64 1) := by
  rw [List.take_append_of_le_length (by simp; omega), List.take_replicate]
  congr 1; omega
 rw [h1]
 unfold spl
 rw [List.take_append_of_le_length (by simp), List.take_of_length_le (by simp), List.length_replicate, List.drop_append]
 simp only [List.length_replicate, List.drop_replicate, List.replicate_append_replicate]
 congr 2
 have : k - (k + c) = 0 := by omega
 rw [this, List.replicate_zero, List.nil_append]
 congr 1; omega
theorem repeat_pc {N : Nat} (hn1 : 1 ≤ N) (hn9 : N ≤ 1000) : PC Tryz.prog 75 [eInts [1], .int .i64 N] (eInts (ones N)) true := by
 refine PC.of ⟨Tryz.func75, by kernel_rfl, rfl, by kernel_rfl⟩ tabOk mixed (by show 2 ≤ Tryz.f75.ntmps; decide) ?_
 refine W.seq_region fun K hK => ?_
 simp (disch := omega) only [↓RU, RV, RH, ↓reduceIte, reduceEqDiff, reduceCtorEq, if_pos, ↓RS, RG, reduceAdd, reduceMul, reduceLeDiff]
 refine hK _ _ ?_;clear hK K
 refine W.seq ?_
 refine W.seq_region fun K hK => ?_
 simp (disch := omega) only [↓RU, RV, RH, ↓reduceIte, reduceEqDiff, reduceCtorEq, if_pos, w64, ↓RS, RG, reduceAdd, reduceMul, reduceLeDiff, tyint]
 refine hK _ _ ?_;clear hK K
 refine W.cond rfl (fun h0 => ?_) (fun h0 => ?_)
 ·try simp only [RL] at h0
  exfalso; omega
 ·try simp only [RL] at h0
  refine W.skip ?_
  refine XThen.norm ?_
  refine W.seq_region fun K hK => ?_
  simp (disch := omega) only [↓RU, RV, RH, ↓reduceIte, reduceEqDiff, reduceCtorEq, if_pos, w64, List.append_nil, ↓RS, RG, reduceAdd, reduceMul, reduceLeDiff, tyLint, tyint, tyuint, wu64]
  refine CallR.pc (mulU_pc hn9) rfl (.inl rfl) ?_
  simp (disch := omega) only [↓RU, RV, RH, ↓reduceIte, reduceEqDiff, reduceCtorEq, if_pos, w64, List.append_nil, ↓RS, RG, reduceAdd, reduceMul, reduceLeDiff, tyLint, tyint, tyuint, wu64]
  refine hK _ _ ?_;clear hK K
  refine W.seq ?_
  refine W.seq_region fun K hK => ?_
  have hz0 : decide ((0 : Int) > 0) = false := rfl
  have hz1 : decide ((N : Int) > 9223372036854775807) = false := decide_eq_false (by omega)
  simp (disch := omega) only [↓RU, RV, RH, ↓reduceIte, reduceEqDiff, reduceCtorEq, if_pos, w64, ↓RS, RG, reduceAdd, reduceMul, reduceLeDiff, tyuint, hz0, hz1]
  refine hK _ _ ?_;clear hK K
  refine W.cond rfl (fun h1 => ?_) (fun h1 => ?_)
  ·try simp only [RL] at h1
   exact absurd h1 (by simp)
  ·try simp only [RL] at h1
   have hm1 : min 1 N = 1 := by omega
   refine W.skip ?_
   refine XThen.norm ?_
   refine W.seq_region fun K hK => ?_
   simp (disch := omega) only [↓RU, RV, RH, ↓reduceIte, reduceEqDiff, reduceCtorEq, if_pos, w64, ↓RS, RG, reduceAdd, reduceMul, reduceLeDiff, tyLint, tyint, tyuint, repz_int, ile_true]
   refine hK _ _ ?_;clear hK K
   refine W.seq_region fun K hK => ?_
   simp (disch := omega) only [↓RU, RV, RH, ↓reduceIte, reduceEqDiff, reduceCtorEq, if_pos, ↓RS, RG, reduceAdd, reduceMul, reduceLeDiff, tyLint, tyint, hm1, List.take_succ_cons, List.take_zero, List.length_cons, List.length_nil, List.length_replicate]
   refine hK _ _ ?_;clear hK K
   refine W.seq ?_
   refine W.block ?_
   refine W.loop [7, 8] (fun n vs S => ∃ k tk : Nat, n = N - k ∧ 1 ≤ k ∧ k ≤ N ∧ vs = [.loc 0 0 0 N, .int .i64 k] ∧ S = ⟨[.arr 0 3 1 ((oz k (N - k)).map (.int .i64))], tk⟩) (N - 1) ?_ ?_
   ·refine ⟨1, 1, 1, rfl, Nat.le_refl _, hn1, ?_, ?_⟩
    ·simp [Env.put, Env.of, argEnv]
    ·rw [← oz_one hn1]; simp [take_eq, spl, oz]
   rintro n vs S - ⟨k, tk, rfl, hk1, hk2, rfl, rfl⟩
   refine W.seq ?_
   refine W.seq_region fun K hK => ?_
   simp (disch := omega) only [↓RU, RV, RH, ↓reduceIte, reduceEqDiff, reduceCtorEq, if_pos, w64, ↓RS, RG, reduceAdd, reduceMul, reduceLeDiff, tyLint, tyint]
   refine hK _ _ ?_;clear hK K
   refine W.cond rfl (fun h2 => ?_) (fun h2 => ?_)
   ·try simp only [RL] at h2
    obtain ⟨c, hc⟩ : ∃ c, min k (N - k) = c := ⟨_, rfl⟩
    have hck : min c k = c := by omega
    have hcl : min c (k + (N - k)) = c := by omega
    have hkn : k < N := by omega
    refine W.skip ?_
    refine XThen.norm ?_
    refine W.block ?_
    refine W.draw_k (by kernel_rfl) fun K hK => ?_
    simp (disch := omega) only [↓RU, RV, RH, ↓reduceIte, reduceEqDiff, reduceCtorEq, if_pos, Option.map_none, w64, ↓RS, RG, reduceAdd, reduceMul, reduceLeDiff, tyLint, tyint, oz_len, hc, List.take_take, hck, hcl, List.length_take, Nat.sub_zero]
    refine hK _ _ ?_;clear hK K
    refine XBlock.norm ?_
    refine XThen.norm ?_
    refine ⟨N - (k + c), by omega, 1, k + c, tk, rfl, by omega, by omega, ?_, ?_⟩
    ·simp [Env.put, Env.of]
    ·have e := oz_more (k := k) (m := N - k) (c := c) (by omega)
     rw [show N - k - c = N - (k + c) by omega] at e
     simp only [spl, List.length_take, List.length_map, oz_len, hcl] at e
     simp only [take_eq, List.take_succ_cons, List.take_zero, e]
   ·try simp only [RL] at h2
    obtain rfl : N = k := by omega
    refine W.exit ?_
    refine XThen.exit ?_
    refine XThen.exit ?_
    refine XBlock.hit ?_
    refine XThen.norm ?_
    refine W.seq_region fun K hK => ?_
    simp (disch := omega) only [↓RU, RV, RH, ↓reduceIte, reduceEqDiff, reduceCtorEq, if_pos, ↓RS, RG, reduceAdd, reduceMul, reduceLeDiff]
    refine hK _ _ ?_;clear hK K
    refine W.ret ?_
    refine BodyQ.ret rfl ?_
    rw [Nat.sub_self, oz_all]
    have hol := ones_len (n := N)
    exact (reify_loc (k := 9) (n := N) rfl (by simp) (mapM_int _)).trans (by rw [eInts, hol])
theorem heaviest_pc {M : List (List Bool)} {ws : List Int} {nr : Nat} {rk : Nat → Nat} (hu : Up M nr rk) (hn : nr ≤ 9) (hwl : ws.length = nr) (hw : NeedOk ws) : PC Tryz.prog 67 [eRel M, eInts ws] (eInts (heaviest M ws nr)) true := by
 refine PN.pc (heaviest_pn hu hn hwl hw) rfl ?_
 simp only [List.map_cons, List.map_nil, upOb_arr, up_loc, up_ints, Nat.add_zero]
 exact (reify_loc (k := 9) rfl (by simp [heaviest_len]) (mapM_int _)).trans (by rw [eInts, heaviest_len])
theorem orderLong_no {p : List Txt} (hs : Sm p) (hv : plainI p = false) : PC Tryz.prog 30 [eStrs p] (.tup [.int .i64 0, .int .i64 0, .bool false]) true := by
 refine PC.of ⟨Tryz.func30, by kernel_rfl, rfl, by kernel_rfl⟩ tabOk mixed (by show 1 ≤ Tryz.f30.ntmps; decide) ?_
 refine W.seq_region fun K hK => ?_
 simp (disch := omega) only [↓RU, RV, RH, ↓reduceIte, reduceEqDiff, reduceCtorEq, if_pos, ↓RS, RG, reduceAdd, reduceMul, reduceLeDiff]
 refine hK _ _ ?_;clear hK K
 refine W.seq_region fun K hK => ?_
 simp (disch := omega) only [↓RU, RV, RH, ↓reduceIte, reduceEqDiff, reduceCtorEq, if_pos, List.append_nil, ↓RS, RG, reduceAdd, reduceMul, reduceLeDiff, ty0, ty2, tybool, ty13, ty15, ty23]
 refine CallR.pc (ordersOf_no hs hv) rfl (.inr rfl) ?_
 simp (disch := omega) only [↓RU, RV, RH, ↓reduceIte, reduceEqDiff, reduceCtorEq, if_pos, List.append_nil, ↓RS, RG, reduceAdd, reduceMul, reduceLeDiff, ty0, ty2, tybool, ty13, ty15, ty23]
 refine hK _ _ ?_;clear hK K
 refine W.seq ?_
 refine W.seq_region fun K hK => ?_
 simp (disch := omega) only [↓RU, RV, RH, ↓reduceIte, reduceEqDiff, reduceCtorEq, if_pos, ↓RS, RG, reduceAdd, reduceMul, reduceLeDiff]
 refine hK _ _ ?_;clear hK K
 refine W.cond rfl (fun h => ?_) (fun h => ?_)
 ·try simp only [RL] at h
  refine W.seq_region fun K hK => ?_
  simp (disch := omega) only [↓RU, RV, RH, ↓reduceIte, reduceEqDiff, reduceCtorEq, if_pos, ↓RS, RG, reduceAdd, reduceMul, reduceLeDiff]
  refine hK _ _ ?_;clear hK K
  refine W.ret ?_
  refine XThen.ret ?_
  refine BodyQ.ret rfl ?_
  rfl
 ·try simp only [RL] at h
  exact absurd h (by simp)
theorem orderLong_yes {p : List Txt} (hs : Sm p) (hv : plainI p = true) : PC Tryz.prog 30 [eStrs p] (.tup [.int .i64 (maxL (heaviest (lfM p) (ones (rP p).length) (rP p).length)), .int .i64 (maxL (heaviest (abM p) (ones (rP p).length) (rP p).length)), .bool true]) true := by
 have hnv := ones_need hv
 obtain ⟨u1, u2, l1, l2, l3, n1, hp⟩ := needV_all hnv
 have hlq := u1.sq.1
 obtain ⟨y0, hy0, -⟩ := get_of (show 0 < (heaviest (lfM p) (ones (rP p).length) (rP p).length).length by rw [heaviest_len]; omega)
 obtain ⟨y1, hy1, -⟩ := get_of (show 0 < (heaviest (abM p) (ones (rP p).length) (rP p).length).length by rw [heaviest_len]; omega)
 have hh0 := heaviest_len (M := lfM p) (ws := ones (rP p).length) (n := (rP p).length)
 have hh1 := heaviest_len (M := abM p) (ws := ones (rP p).length) (n := (rP p).length)
 refine PC.of ⟨Tryz.func30, by kernel_rfl, rfl, by kernel_rfl⟩ tabOk mixed (by show 1 ≤ Tryz.f30.ntmps; decide) ?_
 refine W.seq_region fun K hK => ?_
 simp (disch := omega) only [↓RU, RV, RH, ↓reduceIte, reduceEqDiff, reduceCtorEq, if_pos, ↓RS, RG, reduceAdd, reduceMul, reduceLeDiff]
 refine hK _ _ ?_;clear hK K
 refine W.seq_region fun K hK => ?_
 simp (disch := omega) only [↓RU, RV, RH, ↓reduceIte, reduceEqDiff, reduceCtorEq, if_pos, List.append_nil, ↓RS, RG, reduceAdd, reduceMul, reduceLeDiff, ty0, ty2, tybool, ty13, ty15, ty23]
 refine CallR.pc (ordersOf_yes hs hv) rfl (.inr rfl) ?_
 simp (disch := omega) only [↓RU, RV, RH, ↓reduceIte, reduceEqDiff, reduceCtorEq, if_pos, List.append_nil, ↓RS, RG, reduceAdd, reduceMul, reduceLeDiff, ty0, ty2, tybool, ty13, ty15, ty23]
 refine hK _ _ ?_;clear hK K
 refine W.seq ?_
 refine W.seq_region fun K hK => ?_
 simp (disch := omega) only [↓RU, RV, RH, ↓reduceIte, reduceEqDiff, reduceCtorEq, if_pos, ↓RS, RG, reduceAdd, reduceMul, reduceLeDiff]
 refine hK _ _ ?_;clear hK K
 refine W.cond rfl (fun h => ?_) (fun h => ?_)
 ·try simp only [RL] at h
  exact absurd h (by simp)
 ·try simp only [RL] at h
  refine W.skip ?_
  refine XThen.norm ?_
  refine W.seq_region fun K hK => ?_
  simp (disch := omega) only [↓RU, RV, RH, ↓reduceIte, reduceEqDiff, reduceCtorEq, if_pos, List.append_nil, ↓RS, RG, reduceAdd, reduceMul, reduceLeDiff, ty0, ty2, tyLint, tybool, ty13, ty15, tyint, ty23, hlq]
  refine CallR.pc (repeat_pc l2 (by omega)) rfl (.inl rfl) ?_
  simp (disch := omega) only [↓RU, RV, RH, ↓reduceIte, reduceEqDiff, reduceCtorEq, if_pos, List.append_nil, ↓RS, RG, reduceAdd, reduceMul, reduceLeDiff, ty0, ty2, tyLint, tybool, ty13, ty15, tyint, ty23, hlq]
  refine hK _ _ ?_;clear hK K
  refine W.seq_draw (by kernel_rfl) fun K hK => ?_
  simp (disch := omega) only [↓RU, RV, RH, ↓reduceIte, reduceEqDiff, reduceCtorEq, if_pos, List.append_nil, ↓RS, RG, reduceAdd, reduceMul, reduceLeDiff, ty0, ty2, tybool, ty13, ty15, ty23]
  refine CallR.pc (heaviest_pc u1 l3 l1 n1) rfl (.inl rfl) ?_
  simp (disch := omega) only [↓RU, RV, RH, ↓reduceIte, reduceEqDiff, reduceCtorEq, if_pos, List.append_nil, ↓RS, RG, reduceAdd, reduceMul, reduceLeDiff, ty0, ty2, tybool, ty13, ty15, ty23]
  refine CallR.pc (max_pc hy0 (by omega)) rfl (.inl rfl) ?_
  simp (disch := omega) only [↓RU, RV, RH, ↓reduceIte, reduceEqDiff, reduceCtorEq, if_pos, List.append_nil, ↓RS, RG, reduceAdd, reduceMul, reduceLeDiff, ty0, ty2, tybool, ty13, ty15, ty23]
  refine CallR.pc (heaviest_pc u2 l3 l1 n1) rfl (.inl rfl) ?_
  simp (disch := omega) only [↓RU, RV, RH, ↓reduceIte, reduceEqDiff, reduceCtorEq, if_pos, List.append_nil, ↓RS, RG, reduceAdd, reduceMul, reduceLeDiff, ty0, ty2, tybool, ty13, ty15, ty23]
  refine CallR.pc (max_pc hy1 (by omega)) rfl (.inl rfl) ?_
  simp (disch := omega) only [↓RU, RV, RH, ↓reduceIte, reduceEqDiff, reduceCtorEq, if_pos, List.append_nil, ↓RS, RG, reduceAdd, reduceMul, reduceLeDiff, ty0, ty2, tybool, ty13, ty15, ty23]
  refine hK _ _ ?_;clear hK K
  refine W.ret ?_
  refine BodyQ.ret rfl ?_
  rfl
theorem lg_at {out : List Int} {n : Nat} (h : out.length = n) {a : Nat} (ha : a < n) : out[a]? = some (getI out a) := by
 obtain ⟨x, hx, -⟩ := get_of (show a < out.length by omega)
 rw [hx, getI_is hx]
def LgK (n : Nat) (B : Int) (out : List Int) : Prop := out.length = n ∧ ∀ a, a < n → 0 ≤ getI out a ∧ getI out a ≤ B
theorem LgK.set {n : Nat} {B : Int} {out : List Int} (h : LgK n B out) {a : Nat} {v : Int} (ha : a < n) (h0 : 0 ≤ v) (h1 : v ≤ B) : LgK n B (out.set a v) := by
 refine ⟨by simp [h.1], fun y hy => ?_⟩
 rw [getI_set (by rw [h.1]; exact ha)]
 split
 ·exact ⟨h0, h1⟩
 ·exact h.2 y hy
theorem LgK.up {n : Nat} {B C : Int} {out : List Int} (h : LgK n B out) (hBC : B ≤ C) : LgK n C out := ⟨h.1, fun y hy => by have := h.2 y hy; omega⟩
theorem LgK.lgB {sets : List Nat} {n : Nat} {B : Int} {out : List Int} (h : LgK n B out) {a b : Nat} (ha : a < n) (hb : b < n) : LgK n (B + 1) (lgB sets a out b) := by
 unfold Fw.lgB
 have h1 := h.2 a ha; have h2 := h.2 b hb
 split
 ·exact (h.up (by omega)).set ha (by omega) (by omega)
 ·exact h.up (by omega)
theorem LgK.lgC {sets : List Nat} {n : Nat} {B : Int} {out : List Int} (h : LgK n B out) (hB : 0 ≤ B) {a : Nat} (ha : a < n) : ∀ k, k ≤ n → LgK n (B + 1 + k) (lgC sets a k out) := by
 intro k
 have h1 := h.2 a ha
 induction k with
 | zero => intro _; exact (h.up (show B ≤ B + 1 + (0 : Nat) by omega)).set ha (by omega) (by omega)
 | succ k ih =>
  intro hk
  rw [lgC_succ]
  exact ((ih (by omega)).lgB ha (show k < n by omega)).up (by omega)
theorem LgK.lgA {sets : List Nat} {n : Nat} {B : Int} {s : List Int × Int} (hn : sets.length = n) (h9 : n ≤ 9) (h : LgK n B s.1) (hB : 0 ≤ B) (hs : 0 ≤ s.2 ∧ s.2 ≤ B) : ∀ k, k ≤ n → LgK n (B + 10 * k) ((List.range k).foldl (lgA sets) s).1 ∧ 0 ≤ ((List.range k).foldl (lgA sets) s).2 ∧ ((List.range k).foldl (lgA sets) s).2 ≤ B + 10 * k := by
 intro k
 induction k with
 | zero => intro _; exact ⟨h.up (by omega), hs.1, by simpa using hs.2⟩
 | succ k ih =>
  intro hk
  obtain ⟨i1, i2, i3⟩ := ih (by omega)
  rw [foldl_rg]
  generalize (List.range k).foldl (Fw.lgA sets) s = X at i1 i2 i3 ⊢
  have c := i1.lgC (sets := sets) (by omega) (show k < n by omega) n (Nat.le_refl _)
  unfold Fw.lgA
  rw [hn]
  have c2 := c.2 k (by omega)
  exact ⟨c.up (by omega), by simp only; omega, by simp only; omega⟩
theorem LgK.lgS {sets : List Nat} {n : Nat} (hn : sets.length = n) (h9 : n ≤ 9) : ∀ k, k ≤ n → LgK n (90 * k) (lgS sets k).1 ∧ 0 ≤ (lgS sets k).2 ∧ (lgS sets k).2 ≤ 90 * k := by
 intro k
 induction k with
 | zero =>
  intro _
  refine ⟨⟨by simp [Fw.lgS, hn], fun a ha => ?_⟩, by simp [Fw.lgS], by simp [Fw.lgS]⟩
  have h1 : getI (Fw.lgS sets 0).1 a = 0 := by simp [Fw.lgS, getI, hn, ha]
  rw [h1]; omega
 | succ k ih =>
  intro hk
  obtain ⟨i1, i2, i3⟩ := ih (by omega)
  rw [lgS_succ, hn]
  obtain ⟨k1, k2, k3⟩ := i1.lgA hn h9 (by omega) ⟨i2, i3⟩ n (Nat.le_refl _)
  exact ⟨k1.up (by omega), k2, by omega⟩
theorem l5Longest_pc {ms : List Nat} {N : Nat} (hm : Msk N ms) (hn9 : N ≤ 9) : PC Tryz.prog 95 [eNats ms] (.int .i64 (longS ms)) true := by
 have hml := hm.1
 refine PC.of ⟨Tryz.func95, by kernel_rfl, rfl, by kernel_rfl⟩ tabOk mixed (by show 1 ≤ Tryz.f95.ntmps; decide) ?_
 refine W.seq_region fun K hK => ?_
 simp (disch := omega) only [↓RU, RV, RH, ↓reduceIte, reduceEqDiff, reduceCtorEq, if_pos, ↓RS, RG, reduceAdd, reduceMul, reduceLeDiff]
 refine hK _ _ ?_;clear hK K
 refine W.seq_region fun K hK => ?_
 simp (disch := omega) only [↓RU, RV, RH, ↓reduceIte, reduceEqDiff, reduceCtorEq, if_pos, ↓RS, RG, reduceAdd, reduceMul, reduceLeDiff, tyLint, tyint, hml, repz_int, ile_true]
 refine hK _ _ ?_;clear hK K
 refine W.seq_region fun K hK => ?_
 simp (disch := omega) only [↓RU, RV, RH, ↓reduceIte, reduceEqDiff, reduceCtorEq, if_pos, ↓RS, RG, reduceAdd, reduceMul, reduceLeDiff]
 refine hK _ _ ?_;clear hK K
 refine W.seq ?_
 refine W.seq_region fun K hK => ?_
 simp (disch := omega) only [↓RU, RV, RH, ↓reduceIte, reduceEqDiff, reduceCtorEq, if_pos, ↓RS, RG, reduceAdd, reduceMul, reduceLeDiff]
 refine hK _ _ ?_;clear hK K
 refine W.block ?_
 refine W.loop [0, 3, 4, 5] (fun n vs S => ∃ k : Nat, n = N - k ∧ k ≤ N ∧ vs = [eNats ms, .loc 0 0 0 N, .int .i64 (lgS ms k).2, .int .i64 k] ∧ S = ⟨[.arr 0 3 1 (((lgS ms k).1).map (.int .i64))], 1⟩) N ?_ ?_
 ·refine ⟨1, 0, rfl, Nat.zero_le _, ?_, ?_⟩
  ·simp [Env.put, Env.of, argEnv, lgS, hml]
  ·simp [take_eq, lgS, hml]
 rintro n vs S - ⟨k, rfl, h_k, rfl, rfl⟩
 refine W.seq ?_
 refine W.seq_region fun K hK => ?_
 simp (disch := omega) only [↓RU, RV, RH, ↓reduceIte, reduceEqDiff, reduceCtorEq, if_pos, w64, ↓RS, RG, reduceAdd, reduceMul, reduceLeDiff, tyLint, tyint]
 refine hK _ _ ?_;clear hK K
 refine W.cond rfl (fun h0 => ?_) (fun h0 => ?_)
 ·try simp only [RL] at h0
  obtain ⟨x1, x2, x3⟩ := LgK.lgS hml hn9 k h_k
  generalize hXe : lgS ms k = X at x1 x2 x3
  refine W.skip ?_
  refine XThen.norm ?_
  refine W.seq ?_
  refine W.block ?_
  refine W.seq_region fun K hK => ?_
  simp (disch := omega) only [↓RU, RV, RH, ↓reduceIte, reduceEqDiff, reduceCtorEq, if_pos, ↓RS, RG, reduceAdd, reduceMul, reduceLeDiff]
  refine hK _ _ ?_;clear hK K
  refine W.block ?_
  refine W.loop [0, 3, 4, 5, 6] (fun n vs S => ∃ a : Nat, n = N - a ∧ a ≤ N ∧ vs = [eNats ms, .loc 0 0 0 N, .int .i64 ((List.range a).foldl (lgA ms) X).2, .int .i64 k, .int .i64 a] ∧ S = ⟨[.arr 0 3 1 ((((List.range a).foldl (lgA ms) X).1).map (.int .i64))], 1⟩) N ?_ ?_
  ·refine ⟨1, 0, rfl, Nat.zero_le _, ?_, ?_⟩
   ·simp [Env.put, Env.of, hXe]
   ·simp [take_eq, hXe]
  rintro n vs S - ⟨a, rfl, h_a, rfl, rfl⟩
  refine W.seq ?_
  refine W.seq_region fun K hK => ?_
  simp (disch := omega) only [↓RU, RV, RH, ↓reduceIte, reduceEqDiff, reduceCtorEq, if_pos, w64, ↓RS, RG, reduceAdd, reduceMul, reduceLeDiff, tyLint, tyint]
  refine hK _ _ ?_;clear hK K
  refine W.cond rfl (fun h1 => ?_) (fun h1 => ?_)
  ·try simp only [RL] at h1
   obtain ⟨y1, y2, y3⟩ := LgK.lgA hml hn9 x1 (by omega) ⟨x2, x3⟩ a h_a
   generalize hYe : (List.range a).foldl (lgA ms) X = Y at y1 y2 y3
   have ya := lg_at y1.1 (show a < N by omega)
   have yb := y1.2 a (by omega)
   have yl := y1.1
   refine W.skip ?_
   refine XThen.norm ?_
   refine W.seq ?_
   refine W.block ?_
   refine W.seq_region fun K hK => ?_
   simp (disch := omega) only [↓RU, RV, RH, ↓reduceIte, reduceEqDiff, reduceCtorEq, if_pos, ite_max, ↓RS, RG, reduceAdd, reduceMul, reduceLeDiff, tyLint, tyint, ya, yl, set_spl, set_int]
   refine hK _ _ ?_;clear hK K
   refine W.seq ?_
   refine W.seq_region fun K hK => ?_
   simp (disch := omega) only [↓RU, RV, RH, ↓reduceIte, reduceEqDiff, reduceCtorEq, if_pos, ↓RS, RG, reduceAdd, reduceMul, reduceLeDiff]
   refine hK _ _ ?_;clear hK K
   refine W.block ?_
   refine W.loop [0, 3, 4, 5, 6, 7] (fun n vs S => ∃ b : Nat, n = N - b ∧ b ≤ N ∧ vs = [eNats ms, .loc 0 0 0 N, .int .i64 Y.2, .int .i64 k, .int .i64 a, .int .i64 b] ∧ S = ⟨[.arr 0 3 1 ((lgC ms a b Y.1).map (.int .i64))], 1⟩) N ?_ ?_
   ·refine ⟨1, 0, rfl, Nat.zero_le _, ?_, ?_⟩
    ·simp [Env.put, Env.of, hYe]
    ·simp [take_eq, lgC]
   rintro n vs S - ⟨b, rfl, h_b, rfl, rfl⟩
   refine W.seq ?_
   refine W.seq_region fun K hK => ?_
   simp (disch := omega) only [↓RU, RV, RH, ↓reduceIte, reduceEqDiff, reduceCtorEq, if_pos, w64, ↓RS, RG, reduceAdd, reduceMul, reduceLeDiff, tyLint, tyint]
   refine hK _ _ ?_;clear hK K
   refine W.cond rfl (fun h2 => ?_) (fun h2 => ?_)
   ·try simp only [RL] at h2
    have zz := y1.lgC (sets := ms) (by omega) (show a < N by omega) b h_b
    generalize hZe : lgC ms a b Y.1 = Z at zz
    have za := lg_at zz.1 (show a < N by omega)
    have zb := lg_at zz.1 (show b < N by omega)
    have za2 := zz.2 a (by omega)
    have zb2 := zz.2 b (by omega)
    have zl := zz.1
    obtain ⟨ma, hma, hma5⟩ := hm.at_ (show a < N by omega)
    refine W.skip ?_
    refine XThen.norm ?_
    refine W.seq ?_
    refine W.block ?_
    refine W.seq_region fun K hK => ?_
    simp (disch := omega) only [↓RU, RV, RH, ↓reduceIte, reduceEqDiff, reduceCtorEq, if_pos, w64, ↓RS, RG, reduceAdd, reduceMul, reduceLeDiff, tyLint, tyint, hma, hml, pShr, w_bit]
    refine hK _ _ ?_;clear hK K
    refine W.cond rfl (fun h3 => ?_) (fun h3 => ?_)
    ·try simp only [RL] at h3
     refine W.draw_k (by kernel_rfl) fun K hK => ?_
     simp (disch := omega) only [↓RU, RV, RH, ↓reduceIte, reduceEqDiff, reduceCtorEq, if_pos, w64, ite_max, ↓RS, RG, reduceAdd, reduceMul, reduceLeDiff, tyLint, tyint, za, zb, zl, set_spl, set_int]
     refine hK _ _ ?_;clear hK K
     refine XBlock.norm ?_
     refine XThen.norm ?_
     refine W.region_k fun K hK => ?_
     simp (disch := omega) only [↓RU, RV, RH, ↓reduceIte, reduceEqDiff, reduceCtorEq, if_pos, w64, ↓RS, RG, reduceAdd, reduceMul, reduceLeDiff, tyint]
     refine hK _ _ ?_;clear hK K
     refine XThen.norm ?_
     refine ⟨N - (b + 1), by omega, 1, b + 1, rfl, by omega, ?_, ?_⟩
     ·simp [Env.put, Env.of]
     ·simp [take_eq, lgC_succ, lgB, bitOf_is hma, h3, hZe]
    ·try simp only [RL] at h3
     refine W.skip ?_
     refine XBlock.norm ?_
     refine XThen.norm ?_
     refine W.region_k fun K hK => ?_
     simp (disch := omega) only [↓RU, RV, RH, ↓reduceIte, reduceEqDiff, reduceCtorEq, if_pos, w64, ↓RS, RG, reduceAdd, reduceMul, reduceLeDiff, tyint]
     refine hK _ _ ?_;clear hK K
     refine XThen.norm ?_
     refine ⟨N - (b + 1), by omega, 1, b + 1, rfl, by omega, ?_, ?_⟩
     ·simp [Env.put, Env.of]
     ·simp [take_eq, lgC_succ, lgB, bitOf_is hma, h3, hZe]
   ·try simp only [RL] at h2
    obtain rfl : N = b := by omega
    have zz := y1.lgC (sets := ms) (by omega) (show a < N by omega) N (Nat.le_refl _)
    generalize hZe : lgC ms a N Y.1 = Z at zz
    have za := lg_at zz.1 (show a < N by omega)
    have za2 := zz.2 a (by omega)
    have zl := zz.1
    refine W.exit ?_
    refine XThen.exit ?_
    refine XThen.exit ?_
    refine XBlock.hit ?_
    refine XThen.norm ?_
    refine W.region_k fun K hK => ?_
    simp (disch := omega) only [↓RU, RV, RH, ↓reduceIte, reduceEqDiff, reduceCtorEq, if_pos, ite_max, ↓RS, RG, reduceAdd, reduceMul, reduceLeDiff, tyLint, tyint, za, zl]
    refine hK _ _ ?_;clear hK K
    refine XBlock.norm ?_
    refine XThen.norm ?_
    refine W.region_k fun K hK => ?_
    simp (disch := omega) only [↓RU, RV, RH, ↓reduceIte, reduceEqDiff, reduceCtorEq, if_pos, w64, ↓RS, RG, reduceAdd, reduceMul, reduceLeDiff, tyint]
    refine hK _ _ ?_;clear hK K
    refine XThen.norm ?_
    refine ⟨N - (a + 1), by omega, 1, a + 1, rfl, by omega, ?_, ?_⟩
    all_goals rw [foldl_rg, hYe, lgA, hml, hZe]
    all_goals simp [Env.put, Env.of, take_eq]
  ·try simp only [RL] at h1
   obtain rfl : N = a := by omega
   refine W.exit ?_
   refine XThen.exit ?_
   refine XThen.exit ?_
   refine XBlock.hit ?_
   refine XBlock.norm ?_
   refine XThen.norm ?_
   refine W.region_k fun K hK => ?_
   simp (disch := omega) only [↓RU, RV, RH, ↓reduceIte, reduceEqDiff, reduceCtorEq, if_pos, w64, ↓RS, RG, reduceAdd, reduceMul, reduceLeDiff, tyint]
   refine hK _ _ ?_;clear hK K
   refine XThen.norm ?_
   refine ⟨N - (k + 1), by omega, 1, k + 1, rfl, by omega, ?_, ?_⟩
   all_goals rw [lgS_succ, hml, hXe]
   all_goals simp [Env.put, Env.of, take_eq]
 ·try simp only [RL] at h0
  obtain rfl : N = k := by omega
  refine W.exit ?_
  refine XThen.exit ?_
  refine XThen.exit ?_
  refine XBlock.hit ?_
  refine XThen.norm ?_
  refine W.seq_region fun K hK => ?_
  simp (disch := omega) only [↓RU, RV, RH, ↓reduceIte, reduceEqDiff, reduceCtorEq, if_pos, ↓RS, RG, reduceAdd, reduceMul, reduceLeDiff]
  refine hK _ _ ?_;clear hK K
  refine W.ret ?_
  refine BodyQ.ret rfl ?_
  unfold longS
  rw [hml]
  rfl
def longV (p : List Txt) (kind : Int) : Int := if plainB p then longS (allS p kind) else 0
theorem longV_yes {p : List Txt} (hv : plainI p = true) : longV p 0 = maxL (heaviest (lfM p) (ones (rP p).length) (rP p).length) ∧ longV p 1 = maxL (heaviest (abM p) (ones (rP p).length) (rP p).length) := by
 have h := long_plain hv
 unfold longV
 rw [plainI_is hv, if_pos rfl, if_pos rfl]; exact h
theorem longV_no {p : List Txt} {kind : Int} (hv : plainB p = false) : longV p kind = 0 := by unfold longV; rw [hv]; rfl
theorem orderLong_pc {p : List Txt} (hs : Sm p) : PC Tryz.prog 30 [eStrs p] (.tup [.int .i64 (longV p 0), .int .i64 (longV p 1), .bool (plainB p)]) true := by
 cases hv : plainI p with
 | false =>
  have h : plainB p = false := by rw [← plainI_plain]; exact hv
  rw [longV_no h, longV_no h, h]; exact orderLong_no hs hv
 | true =>
  rw [(longV_yes hv).1, (longV_yes hv).2, plainI_is hv]; exact orderLong_yes hs hv
theorem sOrderLong_pc {p : List Txt} (hs : Sm p) : PC Tryz.prog 60 [eStrs p] (.tup [.int .i64 (longV p 0), .int .i64 (longV p 1), .bool (plainB p)]) true := by
 refine PC.of ⟨Tryz.func60, by kernel_rfl, rfl, by kernel_rfl⟩ tabOk mixed (by show 1 ≤ Tryz.f60.ntmps; decide) ?_
 refine W.seq_region fun K hK => ?_
 simp (disch := omega) only [↓RU, RV, RH, ↓reduceIte, reduceEqDiff, reduceCtorEq, if_pos, ↓RS, RG, reduceAdd, reduceMul, reduceLeDiff]
 refine hK _ _ ?_;clear hK K
 refine W.seq ?_
 refine W.seq_region fun K hK => ?_
 simp (disch := omega) only [↓RU, RV, RH, ↓reduceIte, reduceEqDiff, reduceCtorEq, if_pos, List.append_nil, ↓RS, RG, reduceAdd, reduceMul, reduceLeDiff]
 refine CallR.pc (l5Plain_pc hs) rfl (.inl rfl) ?_
 simp (disch := omega) only [↓RU, RV, RH, ↓reduceIte, reduceEqDiff, reduceCtorEq, if_pos, List.append_nil, ↓RS, RG, reduceAdd, reduceMul, reduceLeDiff]
 refine hK _ _ ?_;clear hK K
 refine W.cond rfl (fun h0 => ?_) (fun h0 => ?_)
 ·try simp only [RL] at h0
  have h : plainB p = false := by simpa using h0
  refine W.seq_region fun K hK => ?_
  simp (disch := omega) only [↓RU, RV, RH, ↓reduceIte, reduceEqDiff, reduceCtorEq, if_pos, ↓RS, RG, reduceAdd, reduceMul, reduceLeDiff]
  refine hK _ _ ?_;clear hK K
  refine W.ret ?_
  refine XThen.ret ?_
  refine BodyQ.ret rfl ?_
  rw [longV_no h, longV_no h, h]
  rfl
 ·try simp only [RL] at h0
  have h : plainB p = true := by simpa using h0
  obtain ⟨k1, k20, k3, k4, -⟩ := plain_spec h
  have k2 : l1Rooms p ≤ 9 := by omega
  have m0 := allS_msk k1 k2 0
  have m1 := allS_msk k1 k2 1
  refine W.skip ?_
  refine XThen.norm ?_
  refine W.seq_region fun K hK => ?_
  simp (disch := omega) only [↓RU, RV, RH, ↓reduceIte, reduceEqDiff, reduceCtorEq, if_pos, List.append_nil, ↓RS, RG, reduceAdd, reduceMul, reduceLeDiff]
  refine CallR.pc (l5All_pc hs k1 k2 0) rfl (.inl rfl) ?_
  simp (disch := omega) only [↓RU, RV, RH, ↓reduceIte, reduceEqDiff, reduceCtorEq, if_pos, List.append_nil, ↓RS, RG, reduceAdd, reduceMul, reduceLeDiff]
  refine CallR.pc (l5Longest_pc m0 (by omega)) rfl (.inl rfl) ?_
  simp (disch := omega) only [↓RU, RV, RH, ↓reduceIte, reduceEqDiff, reduceCtorEq, if_pos, List.append_nil, ↓RS, RG, reduceAdd, reduceMul, reduceLeDiff]
  refine CallR.pc (l5All_pc hs k1 k2 1) rfl (.inl rfl) ?_
  simp (disch := omega) only [↓RU, RV, RH, ↓reduceIte, reduceEqDiff, reduceCtorEq, if_pos, List.append_nil, ↓RS, RG, reduceAdd, reduceMul, reduceLeDiff]
  refine CallR.pc (l5Longest_pc m1 (by omega)) rfl (.inl rfl) ?_
  simp (disch := omega) only [↓RU, RV, RH, ↓reduceIte, reduceEqDiff, reduceCtorEq, if_pos, List.append_nil, ↓RS, RG, reduceAdd, reduceMul, reduceLeDiff]
  refine hK _ _ ?_;clear hK K
  refine W.ret ?_
  refine BodyQ.ret rfl ?_
  rw [longV, longV, h, if_pos rfl, if_pos rfl]
  rfl
theorem ifL_t {l : List Int} : ifL true l = l := rfl
section
variable {p : List Txt}
def rmAt (p : List Txt) (i : Nat) : Nat := ((srt p true)[i]?.getD 0).toNat
theorem rmAt_is (hp : plainB p = true) {i : Nat} (hi : i < (rP p).length) : rmAt p i < (rP p).length ∧ ahK p true (rmAt p i) = i ∧ (srt p true)[i]? = some (rmAt p i : Int) := by
 obtain ⟨a, h1, h2, h3⟩ := srt_get (below := true) hp hi
 have e : rmAt p i = a := by unfold rmAt; rw [h3]; simp
 rw [e]; exact ⟨h1, h2, h3⟩
theorem rmAt_ah (hp : plainB p = true) {a : Nat} (ha : a < (rP p).length) : rmAt p (ahK p true a) = a := by
 have h := srt_at (below := true) hp ha
 unfold rmAt; rw [h]; simp
def xI (p : List Txt) (i : Nat) : Int := ((ahK p false (rmAt p i) : Nat) : Int)
theorem xI_at (hp : plainB p = true) {i : Nat} (hi : i < (rP p).length) : (permV p)[i]? = some (xI p i) := permV_at hp (rmAt_is hp hi).2.2
theorem x_lt (hp : plainB p = true) {k i : Nat} (hk : k < i) (hi : i < (rP p).length) :
  (xI p k < xI p i → getB (lfM p) (rmAt p k) (rmAt p i) = true) ∧ (¬ xI p k < xI p i → getB (abM p) (rmAt p i) (rmAt p k) = true) := by
 obtain ⟨a1, a2, -⟩ := rmAt_is hp hi
 obtain ⟨b1, b2, -⟩ := rmAt_is hp (show k < (rP p).length by omega)
 have h2 := (ahK_iff (below := true) hp b1 a1).2 (by omega)
 have h1 := ahK_iff (below := false) hp b1 a1
 simp only [bfK, bf1, bf2, if_true, Bool.false_eq_true, if_false, Bool.or_eq_true] at h1 h2
 unfold xI
 constructor
 ·intro h
  have h3 := h1.2 (by omega)
  rcases h2 with h2 | h2
  ·exact h2
  ·rcases h3 with h3 | h3
   ·exact h3
   ·exact absurd h3 (Ab.only hp a1 b1 h2).1
 ·intro h
  rcases h2 with h2 | h2
  ·exact absurd (h1.1 (.inl h2)) (by omega)
  ·exact h2
theorem lf_before (hp : plainB p = true) {a i : Nat} (ha : a < (rP p).length) (hi : i < (rP p).length) (h : getB (lfM p) a (rmAt p i) = true) : ahK p true a < i ∧ xI p (ahK p true a) < xI p i := by
 obtain ⟨a1, a2, -⟩ := rmAt_is hp hi
 have h2 := (ahK_iff (below := true) hp ha a1).1 (by simp only [bfK, bf2, if_true, Bool.or_eq_true]; exact .inl h)
 have h1 := (ahK_iff (below := false) hp ha a1).1 (by simp only [bfK, bf1, Bool.false_eq_true, if_false, Bool.or_eq_true]; exact .inl h)
 unfold xI
 rw [rmAt_ah hp ha]
 omega
theorem ab_before (hp : plainB p = true) {b i : Nat} (hb : b < (rP p).length) (hi : i < (rP p).length) (h : getB (abM p) (rmAt p i) b = true) : ahK p true b < i ∧ ¬ xI p (ahK p true b) < xI p i := by
 obtain ⟨a1, a2, -⟩ := rmAt_is hp hi
 have h2 := (ahK_iff (below := true) hp hb a1).1 (by simp only [bfK, bf2, if_true, Bool.or_eq_true]; exact .inr h)
 have h1 := (ahK_iff (below := false) hp a1 hb).1 (by simp only [bfK, bf1, Bool.false_eq_true, if_false, Bool.or_eq_true]; exact .inr h)
 unfold xI
 rw [rmAt_ah hp hb]
 omega
def upN (p : List Txt) (i : Nat) : Int := HB (lfM p) (ones (rP p).length) (rP p).length (rmAt p i)
def dnN (p : List Txt) (i : Nat) : Int := RB (abM p) (rP p).length (rmAt p i)
def upI (p : List Txt) (i : Nat) : Nat → Int
 | 0 => 1
 | k + 1 => if xI p k < xI p i then max (upI p i k) (upN p k + 1) else upI p i k
def dnI (p : List Txt) (i : Nat) : Nat → Int
 | 0 => 1
 | k + 1 => if xI p k < xI p i then dnI p i k else max (dnI p i k) (dnN p k + 1)
theorem upI_le {i : Nat} {B : Int} (hB : 1 ≤ B) : ∀ {k : Nat}, (∀ j, j < k → xI p j < xI p i → upN p j + 1 ≤ B) → 1 ≤ upI p i k ∧ upI p i k ≤ B
 | 0, _ => ⟨Int.le_refl _, hB⟩
 | k + 1, h => by
  have ih := upI_le (i := i) hB (k := k) fun j hj => h j (by omega)
  unfold upI
  split
  ·rename_i hx
   have := h k (by omega) hx
   omega
  ·exact ih
theorem dnI_le {i : Nat} {B : Int} (hB : 1 ≤ B) : ∀ {k : Nat}, (∀ j, j < k → ¬ xI p j < xI p i → dnN p j + 1 ≤ B) → 1 ≤ dnI p i k ∧ dnI p i k ≤ B
 | 0, _ => ⟨Int.le_refl _, hB⟩
 | k + 1, h => by
  have ih := dnI_le (i := i) hB (k := k) fun j hj => h j (by omega)
  unfold dnI
  split
  ·exact ih
  ·rename_i hx
   have := h k (by omega) hx
   omega
theorem upI_ge {i j : Nat} (hx : xI p j < xI p i) : ∀ {k : Nat}, j < k → upN p j + 1 ≤ upI p i k
 | 0, h => by omega
 | k + 1, h => by
  unfold upI
  by_cases e : j = k
  ·subst e; rw [if_pos hx]; omega
  ·have := upI_ge hx (k := k) (by omega)
   split <;> omega
theorem dnI_ge {i j : Nat} (hx : ¬ xI p j < xI p i) : ∀ {k : Nat}, j < k → dnN p j + 1 ≤ dnI p i k
 | 0, h => by omega
 | k + 1, h => by
  unfold dnI
  by_cases e : j = k
  ·subst e; rw [if_neg hx]; omega
  ·have := dnI_ge hx (k := k) (by omega)
   split <;> omega
theorem plain_ups (hv : plainI p = true) : Up (lfM p) (rP p).length (rkL p) ∧ Up (abM p) (rP p).length (rkA p) ∧ 1 ≤ (rP p).length ∧ (rP p).length ≤ 9 ∧ plainB p = true := by
 obtain ⟨u1, u2, -, l2, l3, -, hp⟩ := needV_all (ones_need hv)
 exact ⟨u1, u2, l2, l3, hp⟩
theorem upI_all (hv : plainI p = true) {i : Nat} (hi : i < (rP p).length) : upI p i i = upN p i := by
 obtain ⟨u1, -, -, -, hp⟩ := plain_ups hv
 obtain ⟨a1, a2, -⟩ := rmAt_is hp hi
 have e : upN p i = beg (lfM p) (ones (rP p).length) (rP p).length (rmAt p i) + 1 := by
  unfold upN; rw [HB_beg u1 a1, ones_get a1]
 have h0 := beg_nn (M := lfM p) (ws := ones (rP p).length) (n := (rP p).length) (rmAt p i)
 have h1 := upI_le (p := p) (i := i) (B := upN p i) (by omega) (k := i) fun j hj hx => by
  have hl := (x_lt hp hj hi).1 hx
  have := beg_ge (ws := ones (rP p).length) (rmAt_is hp (show j < (rP p).length by omega)).1 hl
  have e2 : upN p j = HB (lfM p) (ones (rP p).length) (rP p).length (rmAt p j) := rfl
  omega
 have h2 : upN p i ≤ upI p i i := by
  rcases beg_at (M := lfM p) (ws := ones (rP p).length) (n := (rP p).length) (rmAt p i) with q | ⟨a, ha, hab, q⟩
  ·omega
  ·obtain ⟨k1, k2⟩ := lf_before hp ha hi hab
   have := upI_ge k2 k1
   have e2 : upN p (ahK p true a) = HB (lfM p) (ones (rP p).length) (rP p).length a := by unfold upN; rw [rmAt_ah hp ha]
   omega
 omega
theorem dnI_all (hv : plainI p = true) {i : Nat} (hi : i < (rP p).length) : dnI p i i = dnN p i := by
 obtain ⟨-, u2, -, -, hp⟩ := plain_ups hv
 obtain ⟨a1, a2, -⟩ := rmAt_is hp hi
 have e : dnN p i = beg (revM (rP p).length (abM p)) (ones (rP p).length) (rP p).length (rmAt p i) + 1 := RB_beg u2 a1
 have h0 := beg_nn (M := revM (rP p).length (abM p)) (ws := ones (rP p).length) (n := (rP p).length) (rmAt p i)
 have h1 := dnI_le (p := p) (i := i) (B := dnN p i) (by omega) (k := i) fun j hj hx => by
  have hl := (x_lt hp hj hi).2 hx
  have := RB_ge u2 a1 (rmAt_is hp (show j < (rP p).length by omega)).1 hl
  unfold dnN
  omega
 have h2 : dnN p i ≤ dnI p i i := by
  rcases beg_at (M := revM (rP p).length (abM p)) (ws := ones (rP p).length) (n := (rP p).length) (rmAt p i) with q | ⟨b, hb, hab, q⟩
  ·omega
  ·rw [revM_get hb a1] at hab
   obtain ⟨k1, k2⟩ := ab_before hp hb hi hab
   have := dnI_ge k2 k1
   have e2 : dnN p (ahK p true b) = HB (revM (rP p).length (abM p)) (ones (rP p).length) (rP p).length b := by unfold dnN; rw [rmAt_ah hp hb]; rfl
   omega
 omega
def mxF (f : Nat → Int) : Nat → Int
 | 0 => 0
 | i + 1 => max (mxF f i) (f i)
theorem mxF_le {f : Nat → Int} {B : Int} (hB : 0 ≤ B) : ∀ {n : Nat}, (∀ i, i < n → f i ≤ B) → 0 ≤ mxF f n ∧ mxF f n ≤ B
 | 0, _ => ⟨Int.le_refl _, hB⟩
 | n + 1, h => by
  have ih := mxF_le hB (n := n) fun i hi => h i (by omega)
  have := h n (by omega)
  unfold mxF; omega
theorem mxF_ge {f : Nat → Int} {i : Nat} : ∀ {n : Nat}, i < n → f i ≤ mxF f n
 | 0, h => by omega
 | n + 1, h => by
  unfold mxF
  by_cases e : i = n
  ·subst e; omega
  ·have := mxF_ge (f := f) (i := i) (n := n) (by omega); omega
theorem up_bnd (hv : plainI p = true) {i : Nat} (hi : i < (rP p).length) : 1 ≤ upN p i ∧ upN p i ≤ 909 ∧ upN p i ≤ maxL (heaviest (lfM p) (ones (rP p).length) (rP p).length) := by
 obtain ⟨u1, -, -, -, hp⟩ := plain_ups hv
 obtain ⟨a1, -, -⟩ := rmAt_is hp hi
 have e : upN p i = beg (lfM p) (ones (rP p).length) (rP p).length (rmAt p i) + 1 := by
  unfold upN; rw [HB_beg u1 a1, ones_get a1]
 have h0 := beg_nn (M := lfM p) (ws := ones (rP p).length) (n := (rP p).length) (rmAt p i)
 have h1 := hb_le (M := lfM p) (ws := ones (rP p).length) a1
 have h2 := size_bound (ones_need hv)
 have e2 : upN p i = HB (lfM p) (ones (rP p).length) (rP p).length (rmAt p i) := rfl
 unfold ones at *
 omega
theorem dn_bnd (hv : plainI p = true) {i : Nat} (hi : i < (rP p).length) : 1 ≤ dnN p i ∧ dnN p i ≤ 909 ∧ dnN p i ≤ maxL (heaviest (abM p) (ones (rP p).length) (rP p).length) := by
 obtain ⟨-, u2, l2, -, hp⟩ := plain_ups hv
 obtain ⟨a1, -, -⟩ := rmAt_is hp hi
 have e : dnN p i = beg (revM (rP p).length (abM p)) (ones (rP p).length) (rP p).length (rmAt p i) + 1 := RB_beg u2 a1
 have h0 := beg_nn (M := revM (rP p).length (abM p)) (ws := ones (rP p).length) (n := (rP p).length) (rmAt p i)
 have h1 := hb_le (M := revM (rP p).length (abM p)) (ws := ones (rP p).length) a1
 rw [max_rev u2 l2 ones_len ones_ok] at h1
 have h2 := size_bound (ones_need hv)
 have e2 : dnN p i = HB (revM (rP p).length (abM p)) (ones (rP p).length) (rP p).length (rmAt p i) := rfl
 unfold ones at *
 omega
theorem mx_up (hv : plainI p = true) : mxF (upN p) (rP p).length = maxL (heaviest (lfM p) (ones (rP p).length) (rP p).length) := by
 obtain ⟨u1, u2, l2, -, hp⟩ := plain_ups hv
 obtain ⟨b, hb, e⟩ := hb_is (M := lfM p) (ws := ones (rP p).length) l2
 have h1 := mxF_ge (f := upN p) (ahK_lt (below := true) hp hb)
 have e2 : upN p (ahK p true b) = HB (lfM p) (ones (rP p).length) (rP p).length b := by unfold upN; rw [rmAt_ah hp hb]
 have h2 := mxF_le (f := upN p) (n := (rP p).length) (B := maxL (heaviest (lfM p) (ones (rP p).length) (rP p).length)) (by have := (size_bound (ones_need hv)).1; unfold ones; omega) fun i hi => (up_bnd hv hi).2.2
 omega
theorem mx_dn (hv : plainI p = true) : mxF (dnN p) (rP p).length = maxL (heaviest (abM p) (ones (rP p).length) (rP p).length) := by
 obtain ⟨u1, u2, l2, -, hp⟩ := plain_ups hv
 have h2 := mxF_le (f := dnN p) (n := (rP p).length) (B := maxL (heaviest (abM p) (ones (rP p).length) (rP p).length)) (by have := (size_bound (ones_need hv)).2.2.1; unfold ones; omega) fun i hi => (dn_bnd hv hi).2.2
 rw [← max_rev u2 l2 ones_len ones_ok] at h2 ⊢
 obtain ⟨b, hb, e⟩ := hb_is (M := revM (rP p).length (abM p)) (ws := ones (rP p).length) l2
 have h1 := mxF_ge (f := dnN p) (ahK_lt (below := true) hp hb)
 have e2 : dnN p (ahK p true b) = HB (revM (rP p).length (abM p)) (ones (rP p).length) (rP p).length b := by unfold dnN; rw [rmAt_ah hp hb]; rfl
 omega
def stp (f : Nat → Int) (i n : Nat) : List Int := (List.range n).map fun k => if k < i then f k else 0
theorem stp_len {f : Nat → Int} {i n : Nat} : (stp f i n).length = n := by simp [stp]
theorem stp_zero {f : Nat → Int} {n : Nat} : stp f 0 n = List.replicate n 0 := by
 apply List.ext_getElem?
 intro j
 by_cases h : j < n <;> simp [stp, h]
theorem stp_set {f : Nat → Int} {i n : Nat} : (stp f i n).set i (f i) = stp f (i + 1) n := by
 apply List.ext_getElem?
 intro j
 rw [List.getElem?_set, stp_len]
 by_cases e : i = j
 ·subst e
  by_cases h : i < n <;> simp [stp, h]
 ·rw [if_neg e]
  by_cases h : j < n
  ·simp only [stp, List.getElem?_map, List.getElem?_range h, Option.map_some]
   congr 1
   by_cases h2 : j < i
   ·rw [if_pos h2, if_pos (by omega)]
   ·rw [if_neg h2, if_neg (by omega)]
  ·simp [stp, h]
theorem stp_get {f : Nat → Int} {i n k : Nat} {v : Int} (hk : k < i) (hn : k < n) : ((stp f i n).set i v)[k]? = some (f k) := by
 rw [List.getElem?_set_ne (by omega)]
 simp [stp, hn, hk]
theorem stp_here {f : Nat → Int} {i n : Nat} {v : Int} (hn : i < n) : ((stp f i n).set i v)[i]? = some v := by
 rw [List.getElem?_set_self (by rw [stp_len]; exact hn)]
end
end Fw
end Go.Proofs.YtcglmbijpjhbmaaGreat
