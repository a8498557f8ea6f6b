/- Upright cuts are where permutations fall apart: the law FnPermCut answers true for all codes. No condition. -/
import Derived.Test.YtclmfemhboogpaaGreatJ4
import Derived.Test.YtclmfemhboogpaaGreatJ5
set_option linter.all false
namespace Go.Proofs.YtclmfemhboogpaaGreat
namespace Fw
open Go
open Nat (reduceEqDiff reduceLeDiff reduceAdd reduceMul)
def slR (rows : List (List Int)) (v : Nat) : PV := match rows with | [] => .nils | _ => .loc 0 v 0 rows.length
def stR (rows : List (List Int)) (v t : Nat) : Store := match rows with | [] => ⟨[], t⟩ | _ => ⟨[.arr v 24 1 (rows.map eInts)], t⟩
theorem slR_nil {v : Nat} : slR [] v = .nils := rfl
theorem stR_nil {v t : Nat} : stR [] v t = ⟨[], t⟩ := rfl
theorem slR_ne {rows : List (List Int)} {v : Nat} (h : rows ≠ []) : slR rows v = .loc 0 v 0 rows.length := by cases rows with | nil => exact absurd rfl h | cons a l => rfl
theorem stR_ne {rows : List (List Int)} {v t : Nat} (h : rows ≠ []) : stR rows v t = ⟨[.arr v 24 1 (rows.map eInts)], t⟩ := by cases rows with | nil => exact absurd rfl h | cons a l => rfl
theorem rn_eIntss {S : Store} {k f : Nat} {sel : List Nat} (l : List (List Int)) : (l.map eInts).mapM (rn S k sel (f + 1)) = some (l.map eInts) :=
 mapM_same fun x hx => by obtain ⟨a, _, rfl⟩ := List.mem_map.1 hx; rfl
theorem reify_slR {rows : List (List Int)} {v t : Nat} : reify (stR rows v t) true 9 (slR rows v) = some (eGrid rows) := by
 by_cases h : rows = []
 ·subst h; rfl
 ·rw [slR_ne h, stR_ne h]
  exact reify_loc rfl (by simp) (mapM_ints2 _)
def rowsW (ws : List Wall) (i : Nat) : List (List Int) := (ws.take i).map encW
theorem rowsW_succ {ws : List Wall} {i : Nat} {w : Wall} (h : ws[i]? = some w) : rowsW ws (i + 1) = rowsW ws i ++ [encW w] := by simp [rowsW, tk h]
theorem rowsW_len {ws : List Wall} {i : Nat} (h : i ≤ ws.length) : (rowsW ws i).length = i := by simp [rowsW]; omega
theorem wallList_pc {p : List Txt} (hs : Sm p) (hp : plainB p = true) : PC Tryz.prog 25 [eStrs p] (.tup [eGrid (walls p), .bool true]) false := by
 obtain ⟨-, -, -, -, hg, hv, -, -⟩ := plain_dims hp
 obtain ⟨x, hx, hxy, hxr⟩ := floorOf_ex hs
 obtain rfl := hxy hv
 have hgr := planB_grid (plain_plan hp)
 have hwe := wallsG_enc hgr (fun i j hi hj => (plan_named (plain_plan hp)).cell hi hj)
 have hwl := walls_len hgr
 obtain ⟨ws, hws⟩ : ∃ ws, wallsG (gP p) p.length (hdRow p).length = ws := ⟨_, rfl⟩
 rw [hws] at hwe
 have hwl2 : ws.length ≤ 100 := by rw [← hwe, List.length_map] at hwl; omega
 refine PC.of ⟨Tryz.func25, by kernel_rfl, rfl, by kernel_rfl⟩ tabOk mixed (by show 1 ≤ Tryz.f25.ntmps; decide) ?_
 refine W.seq_region fun K hK => ?_
 simp (disch := omega) only [↓RU, RV, RH, ↓reduceIte, reduceEqDiff, reduceCtorEq, if_pos, ↓RS, RG, reduceAdd, reduceMul, reduceLeDiff]
 refine hK _ _ ?_;clear hK K
 refine W.seq_region fun K hK => ?_
 simp (disch := omega) only [↓RU, RV, RH, ↓reduceIte, reduceEqDiff, reduceCtorEq, if_pos, List.append_nil, ↓RS, RG, reduceAdd, reduceMul, reduceLeDiff, hv]
 refine CallR.pc (hx) rfl (.inr rfl) ?_
 simp (disch := omega) only [↓RU, RV, RH, ↓reduceIte, reduceEqDiff, reduceCtorEq, if_pos, List.append_nil, ↓RS, RG, reduceAdd, reduceMul, reduceLeDiff, hv]
 refine hK _ _ ?_;clear hK K
 refine W.seq ?_
 refine W.seq_region fun K hK => ?_
 simp (disch := omega) only [↓RU, RV, RH, ↓reduceIte, reduceEqDiff, reduceCtorEq, if_pos, ↓RS, RG, reduceAdd, reduceMul, reduceLeDiff]
 refine hK _ _ ?_;clear hK K
 refine W.cond rfl (fun h => ?_) (fun h => ?_)
 ·try simp only [RL] at h
  exact absurd h (by simp)
 ·try simp only [RL] at h
  refine W.skip ?_
  refine XThen.norm ?_
  refine W.seq_region fun K hK => ?_
  simp (disch := omega) only [↓RU, RV, RH, ↓reduceIte, reduceEqDiff, reduceCtorEq, if_pos, ↓RS, RG, reduceAdd, reduceMul, reduceLeDiff]
  refine hK _ _ ?_;clear hK K
  refine W.seq ?_
  refine W.seq_region fun K hK => ?_
  simp (disch := omega) only [↓RU, RV, RH, ↓reduceIte, reduceEqDiff, reduceCtorEq, if_pos, List.append_nil, ↓RS, RG, reduceAdd, reduceMul, reduceLeDiff, ty4, tybool, ty15, tyint, ty23, hws]
  refine CallR.pc (walls_pc hg (rP p)) rfl (.inl rfl) ?_
  simp (disch := omega) only [↓RU, RV, RH, ↓reduceIte, reduceEqDiff, reduceCtorEq, if_pos, List.append_nil, ↓RS, RG, reduceAdd, reduceMul, reduceLeDiff, ty4, tybool, ty15, tyint, ty23, hws]
  refine hK _ _ ?_;clear hK K
  refine W.block ?_
  refine W.loopS [6, 18, 19, 20] (fun n vs S => ∃ (i v t : Nat), n = ws.length - i ∧ i ≤ ws.length ∧ vs = [slR (rowsW ws i) v, eWalls ws, .int .i64 ws.length, .int .i64 i] ∧ S = stR (rowsW ws i) v t) ws.length ?_ ?_
  ·refine ⟨0, [], [.nils, eWalls ws, .int .i64 ws.length, .int .i64 (0 : Nat)], ⟨[], 1⟩, ?_, ?_, 0, 0, 1, rfl, Nat.zero_le _, rfl, rfl⟩
   ·simp [-List.mapM_map, Env.put, Env.of, argEnv, Srn_eq, rnObs_cons, rnObs_nil, rnOb_arr, rnOb_map, rn_loc, rn_ref, rn_mp, rn_int, rn_bool, rn_str, rn_ip, rn_sl, rn_nils, rn_nilp, rn_undef, rn_agg, rn_tup, rn_fn, rfq_loc, rfq_int, rfq_bool, rfq_str, rfq_sl, frOf, List.range_succ, List.mapM_append, List.mapM_cons]
   ·simp [-List.mapM_map, Env.put, Env.of, argEnv, Srn_eq, rnObs_cons, rnObs_nil, rnOb_arr, rnOb_map, rn_loc, rn_ref, rn_mp, rn_int, rn_bool, rn_str, rn_ip, rn_sl, rn_nils, rn_nilp, rn_undef, rn_agg, rn_tup, rn_fn, rfq_loc, rfq_int, rfq_bool, rfq_str, rfq_sl, frOf, List.range_succ, List.mapM_append, List.mapM_cons]
  rintro n vs S - ⟨i, v, t, rfl, h_i, rfl, rfl⟩
  refine W.seq_region fun K hK => ?_
  simp (disch := omega) only [↓RU, RV, RH, ↓reduceIte, reduceEqDiff, reduceCtorEq, if_pos, w64, ↓RS, RG, reduceAdd, reduceMul, reduceLeDiff, tyint]
  refine hK _ _ ?_;clear hK K
  refine W.seq ?_
  refine W.cond rfl (fun h1 => ?_) (fun h1 => ?_)
  ·try simp only [RL] at h1
   have hiw : i < ws.length := by omega
   obtain ⟨w, hw, -⟩ := get_of hiw
   have hrl := rowsW_len (Nat.le_of_lt hiw)
   have hrs := rowsW_succ hw
   refine W.skip ?_
   refine XThen.norm ?_
   refine W.seq ?_
   refine W.block ?_
   refine W.seq_region fun K hK => ?_
   by_cases hi0 : i = 0
   ·skip
    subst hi0
    have hr0 : rowsW ws 0 = [] := rfl
    rw [hr0, slR_nil, stR_nil]
    have hw4 : (wcs ws).take 4 = w.cells := by have := wcs_at hw; simpa using this
    simp (disch := omega) only [↓RU, RV, RH, ↓reduceIte, reduceEqDiff, reduceCtorEq, if_pos, ↓RS, RG, reduceAdd, reduceMul, reduceLeDiff, ty4, tybool, ty15, tyint, ty23, hw, wcs_at hw, wcs_len, Wall.cells, hw4]
    refine hK _ _ ?_;clear hK K
    refine W.seq_region fun K hK => ?_
    simp (disch := omega) only [↓RU, RV, RH, ↓reduceIte, reduceEqDiff, reduceCtorEq, if_pos, ↓RS, RG, reduceAdd, reduceMul, reduceLeDiff]
    refine hK _ _ ?_;clear hK K
    refine W.seq ?_
    refine W.seq_region fun K hK => ?_
    simp (disch := omega) only [↓RU, RV, RH, ↓reduceIte, reduceEqDiff, reduceCtorEq, if_pos, ↓RS, RG, reduceAdd, reduceMul, reduceLeDiff, tybool, ty15, tyint, ty23]
    refine hK _ _ ?_;clear hK K
    refine W.cond rfl (fun h2 => ?_) (fun h2 => ?_)
    ·try simp only [RL] at h2
     refine W.region_k fun K hK => ?_
     simp (disch := omega) only [↓RU, RV, RH, ↓reduceIte, reduceEqDiff, reduceCtorEq, if_pos, ↓RS, RG, reduceAdd, reduceMul, reduceLeDiff]
     refine hK _ _ ?_;clear hK K
     refine XThen.norm ?_
     refine W.region_k fun K hK => ?_
     simp (disch := omega) only [↓RU, RV, RH, ↓reduceIte, reduceEqDiff, reduceCtorEq, if_pos, ↓RS, RG, reduceAdd, reduceMul, reduceLeDiff, ty1, tyLint, tybool, ty15, tyint, ty23, hrl, List.length_append, List.map_append, List.map_cons, List.map_nil]
     refine hK _ _ ?_;clear hK K
     refine XBlock.norm ?_
     refine XThen.norm ?_
     refine W.region_k fun K hK => ?_
     simp (disch := omega) only [↓RU, RV, RH, ↓reduceIte, reduceEqDiff, reduceCtorEq, if_pos, w64, ↓RS, RG, reduceAdd, reduceMul, reduceLeDiff, tyint]
     refine hK _ _ ?_;clear hK K
     refine XThen.norm ?_
     rw [hr0, List.nil_append] at hrs
     have hE : encW w = [1, w.line, w.fr, w.long] := by unfold encW; rw [h2]; rfl
     refine ⟨ws.length - (0 + 1), by omega, 0, [3], [.loc 0 (t + 4) 0 1, eWalls ws, .int .i64 ws.length, .int .i64 ((0 + 1 : Nat) : Int)], ⟨[.arr (t + 4) 24 1 [eInts (encW w)]], t + 5⟩, ?_, ?_, 1, t + 4, t + 5, rfl, by omega, by rw [hrs]; rfl, by rw [hrs]; rfl⟩
     ·simp [-List.mapM_map, Env.put, Env.of, argEnv, Srn_eq, rnObs_cons, rnObs_nil, rnOb_arr, rnOb_map, rn_loc, rn_ref, rn_mp, rn_int, rn_bool, rn_str, rn_ip, rn_sl, rn_nils, rn_nilp, rn_undef, rn_agg, rn_tup, rn_fn, rfq_loc, rfq_int, rfq_bool, rfq_str, rfq_sl, frOf, List.range_succ, List.mapM_append, List.mapM_cons]
     ·simp [-List.mapM_map, Env.put, Env.of, argEnv, Srn_eq, rnObs_cons, rnObs_nil, rnOb_arr, rnOb_map, rn_loc, rn_ref, rn_mp, rn_int, rn_bool, rn_str, rn_ip, rn_sl, rn_nils, rn_nilp, rn_undef, rn_agg, rn_tup, rn_fn, rfq_loc, rfq_int, rfq_bool, rfq_str, rfq_sl, frOf, List.range_succ, List.mapM_append, List.mapM_cons, rn_eIntss, hE]
    ·try simp only [RL] at h2
     refine W.skip ?_
     refine XThen.norm ?_
     refine W.region_k fun K hK => ?_
     simp (disch := omega) only [↓RU, RV, RH, ↓reduceIte, reduceEqDiff, reduceCtorEq, if_pos, ↓RS, RG, reduceAdd, reduceMul, reduceLeDiff, ty1, tyLint, tybool, ty15, tyint, ty23, hrl, List.length_append, List.map_append, List.map_cons, List.map_nil]
     refine hK _ _ ?_;clear hK K
     refine XBlock.norm ?_
     refine XThen.norm ?_
     refine W.region_k fun K hK => ?_
     simp (disch := omega) only [↓RU, RV, RH, ↓reduceIte, reduceEqDiff, reduceCtorEq, if_pos, w64, ↓RS, RG, reduceAdd, reduceMul, reduceLeDiff, tyint]
     refine hK _ _ ?_;clear hK K
     refine XThen.norm ?_
     rw [hr0, List.nil_append] at hrs
     have hE : encW w = [0, w.line, w.fr, w.long] := by unfold encW; rw [h2]; rfl
     refine ⟨ws.length - (0 + 1), by omega, 0, [3], [.loc 0 (t + 4) 0 1, eWalls ws, .int .i64 ws.length, .int .i64 ((0 + 1 : Nat) : Int)], ⟨[.arr (t + 4) 24 1 [eInts (encW w)]], t + 5⟩, ?_, ?_, 1, t + 4, t + 5, rfl, by omega, by rw [hrs]; rfl, by rw [hrs]; rfl⟩
     ·simp [-List.mapM_map, Env.put, Env.of, argEnv, Srn_eq, rnObs_cons, rnObs_nil, rnOb_arr, rnOb_map, rn_loc, rn_ref, rn_mp, rn_int, rn_bool, rn_str, rn_ip, rn_sl, rn_nils, rn_nilp, rn_undef, rn_agg, rn_tup, rn_fn, rfq_loc, rfq_int, rfq_bool, rfq_str, rfq_sl, frOf, List.range_succ, List.mapM_append, List.mapM_cons]
     ·simp [-List.mapM_map, Env.put, Env.of, argEnv, Srn_eq, rnObs_cons, rnObs_nil, rnOb_arr, rnOb_map, rn_loc, rn_ref, rn_mp, rn_int, rn_bool, rn_str, rn_ip, rn_sl, rn_nils, rn_nilp, rn_undef, rn_agg, rn_tup, rn_fn, rfq_loc, rfq_int, rfq_bool, rfq_str, rfq_sl, frOf, List.range_succ, List.mapM_append, List.mapM_cons, rn_eIntss, hE]
   ·skip
    have hne : rowsW ws i ≠ [] := fun e => hi0 (by rw [e] at hrl; simpa using hrl.symm)
    rw [slR_ne hne, stR_ne hne, hrl]
    simp (disch := omega) only [↓RU, RV, RH, ↓reduceIte, reduceEqDiff, reduceCtorEq, if_pos, ↓RS, RG, reduceAdd, reduceMul, reduceLeDiff, ty4, tybool, ty15, tyint, ty23, hw, wcs_at hw, wcs_len, Wall.cells]
    refine hK _ _ ?_;clear hK K
    refine W.seq_region fun K hK => ?_
    simp (disch := omega) only [↓RU, RV, RH, ↓reduceIte, reduceEqDiff, reduceCtorEq, if_pos, ↓RS, RG, reduceAdd, reduceMul, reduceLeDiff]
    refine hK _ _ ?_;clear hK K
    refine W.seq ?_
    refine W.seq_region fun K hK => ?_
    simp (disch := omega) only [↓RU, RV, RH, ↓reduceIte, reduceEqDiff, reduceCtorEq, if_pos, ↓RS, RG, reduceAdd, reduceMul, reduceLeDiff, tybool, ty15, tyint, ty23]
    refine hK _ _ ?_;clear hK K
    refine W.cond rfl (fun h2 => ?_) (fun h2 => ?_)
    ·try simp only [RL] at h2
     refine W.region_k fun K hK => ?_
     simp (disch := omega) only [↓RU, RV, RH, ↓reduceIte, reduceEqDiff, reduceCtorEq, if_pos, ↓RS, RG, reduceAdd, reduceMul, reduceLeDiff]
     refine hK _ _ ?_;clear hK K
     refine XThen.norm ?_
     refine W.region_k fun K hK => ?_
     simp (disch := omega) only [↓RU, RV, RH, ↓reduceIte, reduceEqDiff, reduceCtorEq, if_pos, ↓RS, RG, reduceAdd, reduceMul, reduceLeDiff, ty1, tyLint, tybool, ty15, tyint, ty23, hrl, List.length_append, List.map_append, List.map_cons, List.map_nil]
     refine hK _ _ ?_;clear hK K
     refine XBlock.norm ?_
     refine XThen.norm ?_
     refine W.region_k fun K hK => ?_
     simp (disch := omega) only [↓RU, RV, RH, ↓reduceIte, reduceEqDiff, reduceCtorEq, if_pos, w64, ↓RS, RG, reduceAdd, reduceMul, reduceLeDiff, tyint]
     refine hK _ _ ?_;clear hK K
     refine XThen.norm ?_
     have hE : encW w = [1, w.line, w.fr, w.long] := by unfold encW; rw [h2]; rfl
     have hne2 : rowsW ws (i + 1) ≠ [] := by rw [hrs]; simp
     refine ⟨ws.length - (i + 1), by omega, 1, [], [.loc 0 (t + 3) 0 (i + 1), eWalls ws, .int .i64 ws.length, .int .i64 ((i + 1 : Nat) : Int)], ⟨[.arr (t + 3) 24 1 ((rowsW ws i).map eInts ++ [eInts (encW w)])], t + 5⟩, ?_, ?_, i + 1, t + 3, t + 5, rfl, by omega, by rw [slR_ne hne2, hrs]; simp [hrl], by rw [stR_ne hne2, hrs]; simp⟩
     ·simp [-List.mapM_map, Env.put, Env.of, argEnv, Srn_eq, rnObs_cons, rnObs_nil, rnOb_arr, rnOb_map, rn_loc, rn_ref, rn_mp, rn_int, rn_bool, rn_str, rn_ip, rn_sl, rn_nils, rn_nilp, rn_undef, rn_agg, rn_tup, rn_fn, rfq_loc, rfq_int, rfq_bool, rfq_str, rfq_sl, frOf, List.range_succ, List.mapM_append, List.mapM_cons]
     ·simp [-List.mapM_map, Env.put, Env.of, argEnv, Srn_eq, rnObs_cons, rnObs_nil, rnOb_arr, rnOb_map, rn_loc, rn_ref, rn_mp, rn_int, rn_bool, rn_str, rn_ip, rn_sl, rn_nils, rn_nilp, rn_undef, rn_agg, rn_tup, rn_fn, rfq_loc, rfq_int, rfq_bool, rfq_str, rfq_sl, frOf, List.range_succ, List.mapM_append, List.mapM_cons, rn_eIntss, hE]
    ·try simp only [RL] at h2
     refine W.skip ?_
     refine XThen.norm ?_
     refine W.region_k fun K hK => ?_
     simp (disch := omega) only [↓RU, RV, RH, ↓reduceIte, reduceEqDiff, reduceCtorEq, if_pos, ↓RS, RG, reduceAdd, reduceMul, reduceLeDiff, ty1, tyLint, tybool, ty15, tyint, ty23, hrl, List.length_append, List.map_append, List.map_cons, List.map_nil]
     refine hK _ _ ?_;clear hK K
     refine XBlock.norm ?_
     refine XThen.norm ?_
     refine W.region_k fun K hK => ?_
     simp (disch := omega) only [↓RU, RV, RH, ↓reduceIte, reduceEqDiff, reduceCtorEq, if_pos, w64, ↓RS, RG, reduceAdd, reduceMul, reduceLeDiff, tyint]
     refine hK _ _ ?_;clear hK K
     refine XThen.norm ?_
     have hE : encW w = [0, w.line, w.fr, w.long] := by unfold encW; rw [h2]; rfl
     have hne2 : rowsW ws (i + 1) ≠ [] := by rw [hrs]; simp
     refine ⟨ws.length - (i + 1), by omega, 1, [], [.loc 0 (t + 3) 0 (i + 1), eWalls ws, .int .i64 ws.length, .int .i64 ((i + 1 : Nat) : Int)], ⟨[.arr (t + 3) 24 1 ((rowsW ws i).map eInts ++ [eInts (encW w)])], t + 5⟩, ?_, ?_, i + 1, t + 3, t + 5, rfl, by omega, by rw [slR_ne hne2, hrs]; simp [hrl], by rw [stR_ne hne2, hrs]; simp⟩
     ·simp [-List.mapM_map, Env.put, Env.of, argEnv, Srn_eq, rnObs_cons, rnObs_nil, rnOb_arr, rnOb_map, rn_loc, rn_ref, rn_mp, rn_int, rn_bool, rn_str, rn_ip, rn_sl, rn_nils, rn_nilp, rn_undef, rn_agg, rn_tup, rn_fn, rfq_loc, rfq_int, rfq_bool, rfq_str, rfq_sl, frOf, List.range_succ, List.mapM_append, List.mapM_cons]
     ·simp [-List.mapM_map, Env.put, Env.of, argEnv, Srn_eq, rnObs_cons, rnObs_nil, rnOb_arr, rnOb_map, rn_loc, rn_ref, rn_mp, rn_int, rn_bool, rn_str, rn_ip, rn_sl, rn_nils, rn_nilp, rn_undef, rn_agg, rn_tup, rn_fn, rfq_loc, rfq_int, rfq_bool, rfq_str, rfq_sl, frOf, List.range_succ, List.mapM_append, List.mapM_cons, rn_eIntss, hE]
  ·try simp only [RL] at h1
   obtain rfl : i = ws.length := by omega
   refine W.exit ?_
   refine XThen.exit ?_
   refine XThen.exit ?_
   refine XBlock.hit ?_
   refine XThen.norm ?_
   refine W.seq_region fun K hK => ?_
   simp (disch := omega) only [↓RU, RV, RH, ↓reduceIte, reduceEqDiff, reduceCtorEq, if_pos, ↓RS, RG, reduceAdd, reduceMul, reduceLeDiff]
   refine hK _ _ ?_;clear hK K
   refine W.ret ?_
   refine BodyQ.ret rfl ?_
   have hra : rowsW ws ws.length = walls p := by rw [← hwe]; simp [rowsW]
   rw [hra]
   exact reify_tup2 (k := 9) reify_slR rfl
def cutTo (p : List Txt) (ws : List Wall) (i : Nat) : Bool := (ws.take i).any fun w => !w.level && decide (w.long = p.length)
theorem cutTo_succ {p : List Txt} {ws : List Wall} {i : Nat} {w : Wall} (h : ws[i]? = some w) : cutTo p ws (i + 1) = (cutTo p ws i || (!w.level && decide (w.long = p.length))) := by
 simp [cutTo, tk h, List.any_append]
theorem cut_wall {p : List Txt} (hp : plainB p = true) : cutTo p (wallsG (gP p) p.length (hdRow p).length) (wallsG (gP p) p.length (hdRow p).length).length = true ↔ ∃ k, 1 ≤ k ∧ k < (hdRow p).length ∧ Thru (cn (gP p)) p.length k := by
 have hrm := gP_room (p := p)
 have hH := (grid_small (planB_grid (plain_plan hp))).1
 unfold cutTo
 rw [List.take_length, List.any_eq_true]
 simp only [Bool.and_eq_true, Bool.not_eq_true', decide_eq_true_eq]
 constructor
 ·rintro ⟨w, hw, h1, h2⟩
  obtain ⟨line, fr, long, e, hl1, hall⟩ := wallsG_ok w hw
  rw [h1] at e hall
  have h3 : (long : Int) = p.length := by rw [← h2, e]
  have hend := (hall (fr + long - 1) (by omega) (by omega)).1
  unfold InL at hend
  simp only [Bool.false_eq_true, if_false] at hend
  refine ⟨line, hend.1, hend.2.1, fun r hr => ?_⟩
  have := (hall r (by omega) (by omega)).2
  unfold difG sidesG at this
  simp only [Bool.false_eq_true, if_false, decide_eq_true_eq] at this
  exact (hrm.ne hr (by omega) hr hend.2.1).1 this
 ·rintro ⟨k, h1, h2, ht⟩
  obtain ⟨w, hw, e1, e2, e3, e4⟩ := wallsG_cov (g := gP p) (H := p.length) (W := (hdRow p).length) (level := false) (line := k) (i1 := 0) (i2 := p.length - 1) h1 (by simpa using h2) (by omega) (by simp; omega) (fun j _ hj => by
   unfold difG sidesG
   simp only [Bool.false_eq_true, if_false, decide_eq_true_eq]
   exact (hrm.ne (by omega) (by omega) (by omega) h2).2 (ht j (by omega)))
  refine ⟨w, hw, e1, ?_⟩
  obtain ⟨line, fr, long, e, hl1, hall⟩ := wallsG_ok w hw
  rw [e1] at e hall
  have hend := (hall (fr + long - 1) (by omega) (by omega)).1
  unfold InL at hend
  simp only [Bool.false_eq_true, if_false] at hend
  rw [e] at e3 e4 ⊢
  simp only at e3 e4 ⊢
  omega
def aprt (p : List Txt) : Nat → Bool
 | 0 => false
 | i + 1 => aprt p i || decide (mxI p (i + 1) = i)
theorem aprt_iff {p : List Txt} : ∀ n, aprt p n = true ↔ ∃ i, i < n ∧ mxI p (i + 1) = i
 | 0 => by simp [aprt]
 | n + 1 => by
  unfold aprt
  rw [Bool.or_eq_true, aprt_iff n, decide_eq_true_eq]
  constructor
  ·rintro (⟨i, h1, h2⟩ | h)
   ·exact ⟨i, by omega, h2⟩
   ·exact ⟨n, by omega, h⟩
  ·rintro ⟨i, h1, h2⟩
   by_cases e : i = n
   ·subst e; exact .inr h2
   ·exact .inl ⟨i, by omega, h2⟩
theorem cut_same {p : List Txt} (hp : plainB p = true) {n : Nat} (hn : n + 1 = (rP p).length) : cutTo p (wallsG (gP p) p.length (hdRow p).length) (wallsG (gP p) p.length (hdRow p).length).length = aprt p n := by
 rw [Bool.eq_iff_iff, cut_wall hp, cut_apart hp, aprt_iff]
 constructor
 ·rintro ⟨i, h1, h2⟩; exact ⟨i, by omega, h2⟩
 ·rintro ⟨i, h1, h2⟩; exact ⟨i, by omega, h2⟩
theorem mxI_succ {p : List Txt} {i : Nat} : mxI p (i + 1) = max (mxI p i) (xI p i) := rfl
theorem permCut_law {code : Txt} (hcode : code.length ≤ 9223372036854775807) : PC Tryz.prog 5 [eBy code] (.bool true) true := by
 refine PC.of ⟨Tryz.func5, by kernel_rfl, rfl, by kernel_rfl⟩ tabOk mixed (by show 1 ≤ Tryz.f5.ntmps; decide) ?_
 refine W.seq_region fun K hK => ?_
 simp (disch := omega) only [↓RU, RV, RH, ↓reduceIte, reduceEqDiff, reduceCtorEq, if_pos, ↓RS, RG, reduceAdd, reduceMul, reduceLeDiff]
 refine hK _ _ ?_;clear hK K
 refine W.seq ?_
 refine W.seq_region fun K hK => ?_
 simp (disch := omega) only [↓RU, RV, RH, ↓reduceIte, reduceEqDiff, reduceCtorEq, if_pos, w64, ↓RS, RG, reduceAdd, reduceMul, reduceLeDiff, ty6, tyint, ty26]
 refine hK _ _ ?_;clear hK K
 refine W.cond rfl (fun h0 => ?_) (fun h0 => ?_)
 ·try simp only [RL] at h0
  refine W.seq_region fun K hK => ?_
  simp (disch := omega) only [↓RU, RV, RH, ↓reduceIte, reduceEqDiff, reduceCtorEq, if_pos, ↓RS, RG, reduceAdd, reduceMul, reduceLeDiff]
  refine hK _ _ ?_;clear hK K
  refine W.ret ?_
  refine XThen.ret ?_
  refine BodyQ.ret rfl ?_
  rfl
 ·try simp only [RL] at h0
  have hcl : code.length ≤ 1048576 := by omega
  refine W.skip ?_
  refine XThen.norm ?_
  refine W.seq_region fun K hK => ?_
  simp (disch := omega) only [↓RU, RV, RH, ↓reduceIte, reduceEqDiff, reduceCtorEq, if_pos, List.append_nil, ↓RS, RG, reduceAdd, reduceMul, reduceLeDiff]
  refine CallR.ev (drawOrderPerm_ev hcl) ?_
  rintro _ _ ⟨p, t, hs, rfl, rfl⟩
  simp (disch := omega) only [↓RU, RV, RH, ↓reduceIte, reduceEqDiff, reduceCtorEq, if_pos, List.append_nil, ↓RS, RG, reduceAdd, reduceMul, reduceLeDiff]
  refine hK _ _ ?_;clear hK K
  have hI : plainB p = plainI p := plainI_plain.symm
  refine W.seq_region fun K hK => ?_
  simp (disch := omega) only [↓RU, RV, RH, ↓reduceIte, reduceEqDiff, reduceCtorEq, if_pos, List.append_nil, ↓RS, RG, reduceAdd, reduceMul, reduceLeDiff]
  refine CallR.pc (orderPerm_pc hs) rfl (.inr rfl) ?_
  simp (disch := omega) only [↓RU, RV, RH, ↓reduceIte, reduceEqDiff, reduceCtorEq, if_pos, List.append_nil, ↓RS, RG, reduceAdd, reduceMul, reduceLeDiff]
  refine hK _ _ ?_;clear hK K
  refine W.seq_region fun K hK => ?_
  simp (disch := omega) only [↓RU, RV, RH, ↓reduceIte, reduceEqDiff, reduceCtorEq, if_pos, List.append_nil, ↓RS, RG, reduceAdd, reduceMul, reduceLeDiff]
  refine CallR.pc (sOrderPerm_pc hs) rfl (.inr rfl) ?_
  simp (disch := omega) only [↓RU, RV, RH, ↓reduceIte, reduceEqDiff, reduceCtorEq, if_pos, List.append_nil, ↓RS, RG, reduceAdd, reduceMul, reduceLeDiff]
  refine hK _ _ ?_;clear hK K
  rw [hI]
  refine W.seq ?_
  refine W.seq_region fun K hK => ?_
  cases hv : plainI p
  ·skip
   simp (disch := omega) only [↓RU, RV, RH, ↓reduceIte, reduceEqDiff, reduceCtorEq, if_pos, w64, List.append_nil, ↓RS, RG, reduceAdd, reduceMul, reduceLeDiff, tybool, pEq_bb, Option.map_some, bne_self_eq_false, beq_self_eq_true, Bool.not_true, Bool.not_false, decide_true, hv, ifL_f]
   refine CallR.pc (sameInts_pc (p := ([] : List Int)) (q := ([] : List Int)) (by simp) (by simp)) rfl (.inl rfl) ?_
   simp (disch := omega) only [↓RU, RV, RH, ↓reduceIte, reduceEqDiff, reduceCtorEq, if_pos, w64, List.append_nil, ↓RS, RG, reduceAdd, reduceMul, reduceLeDiff, tybool, pEq_bb, Option.map_some, bne_self_eq_false, beq_self_eq_true, Bool.not_true, Bool.not_false, decide_true, hv, ifL_f]
   refine hK _ _ ?_;clear hK K
   refine W.cond rfl (fun h1 => ?_) (fun h1 => ?_)
   ·try simp only [RL] at h1
    refine W.seq_region fun K hK => ?_
    simp (disch := omega) only [↓RU, RV, RH, ↓reduceIte, reduceEqDiff, reduceCtorEq, if_pos, w64, List.append_nil, ↓RS, RG, reduceAdd, reduceMul, reduceLeDiff, tybool, pEq_bb, Option.map_some, bne_self_eq_false, beq_self_eq_true, Bool.not_true, Bool.not_false, decide_true]
    refine CallR.pc (sameInts_pc (p := ([] : List Int)) (q := ([] : List Int)) (by simp) (by simp)) rfl (.inl rfl) ?_
    simp (disch := omega) only [↓RU, RV, RH, ↓reduceIte, reduceEqDiff, reduceCtorEq, if_pos, w64, List.append_nil, ↓RS, RG, reduceAdd, reduceMul, reduceLeDiff, tybool, pEq_bb, Option.map_some, bne_self_eq_false, beq_self_eq_true, Bool.not_true, Bool.not_false, decide_true]
    refine hK _ _ ?_;clear hK K
    refine W.ret ?_
    refine XThen.ret ?_
    refine BodyQ.ret rfl ?_
    rfl
   ·try simp only [RL] at h1
    exact absurd h1 (by simp)
  ·skip
   have hsl : (permV p).length ≤ 9 := by rw [permV_len]; exact okB_rooms (plain_okB hv).1
   simp (disch := omega) only [↓RU, RV, RH, ↓reduceIte, reduceEqDiff, reduceCtorEq, if_pos, w64, List.append_nil, ↓RS, RG, reduceAdd, reduceMul, reduceLeDiff, tybool, pEq_bb, Option.map_some, bne_self_eq_false, beq_self_eq_true, Bool.not_true, Bool.not_false, decide_true, hv, ifL_t]
   refine CallR.pc (sameInts_pc (p := permV p) (q := permV p) (by omega) (by omega)) rfl (.inl rfl) ?_
   simp (disch := omega) only [↓RU, RV, RH, ↓reduceIte, reduceEqDiff, reduceCtorEq, if_pos, w64, List.append_nil, ↓RS, RG, reduceAdd, reduceMul, reduceLeDiff, tybool, pEq_bb, Option.map_some, bne_self_eq_false, beq_self_eq_true, Bool.not_true, Bool.not_false, decide_true, hv, ifL_t]
   refine hK _ _ ?_;clear hK K
   refine W.cond rfl (fun h1 => ?_) (fun h1 => ?_)
   ·try simp only [RL] at h1
    exact absurd h1 (by simp)
   ·try simp only [RL] at h1
    have hp := plainI_is hv
    have hpl := permV_len (p := p)
    have hn1 := okB_rooms1 (plain_okB hv).1
    have hn9 := okB_rooms (plain_okB hv).1
    have hgr := planB_grid (plain_plan hp)
    have hsm := grid_small hgr
    have hwe := wallsG_enc hgr (fun i j hi hj => (plan_named (plain_plan hp)).cell hi hj)
    have hwl := walls_len hgr
    obtain ⟨m, hm⟩ : ∃ m, m + 1 = (rP p).length := ⟨(rP p).length - 1, by omega⟩
    have hcs := cut_same hp hm
    obtain ⟨ws, hws⟩ : ∃ ws, wallsG (gP p) p.length (hdRow p).length = ws := ⟨_, rfl⟩
    rw [hws] at hwe hcs
    have hwl3 : (walls p).length = ws.length := by rw [← hwe, List.length_map]
    refine W.skip ?_
    refine XThen.norm ?_
    refine W.seq_region fun K hK => ?_
    simp (disch := omega) only [↓RU, RV, RH, ↓reduceIte, reduceEqDiff, reduceCtorEq, if_pos, List.append_nil, ↓RS, RG, reduceAdd, reduceMul, reduceLeDiff]
    refine CallR.pc (wallList_pc hs hp) rfl (.inr rfl) ?_
    simp (disch := omega) only [↓RU, RV, RH, ↓reduceIte, reduceEqDiff, reduceCtorEq, if_pos, List.append_nil, ↓RS, RG, reduceAdd, reduceMul, reduceLeDiff]
    refine hK _ _ ?_;clear hK K
    refine W.seq_region fun K hK => ?_
    simp (disch := omega) only [↓RU, RV, RH, ↓reduceIte, reduceEqDiff, reduceCtorEq, if_pos, ↓RS, RG, reduceAdd, reduceMul, reduceLeDiff]
    refine hK _ _ ?_;clear hK K
    refine W.seq ?_
    refine W.seq_region fun K hK => ?_
    simp (disch := omega) only [↓RU, RV, RH, ↓reduceIte, reduceEqDiff, reduceCtorEq, if_pos, ↓RS, RG, reduceAdd, reduceMul, reduceLeDiff]
    refine hK _ _ ?_;clear hK K
    refine W.block ?_
    refine W.loop [3, 4, 8, 9, 10, 11] (fun n vs S => ∃ i tk : Nat, n = ws.length - i ∧ i ≤ ws.length ∧ vs = [eStrs p, eInts (permV p), eGrid (walls p), .bool true, .bool (cutTo p ws i), .int .i64 i] ∧ S = ⟨[], tk⟩) ws.length ?_ ?_
    ·refine ⟨0, 0, t, rfl, Nat.zero_le _, ?_, rfl⟩
     simp [Env.put, Env.of, argEnv, cutTo]
    rintro n vs S - ⟨i, tk, rfl, h_i, rfl, rfl⟩
    refine W.seq ?_
    refine W.seq_region fun K hK => ?_
    simp (disch := omega) only [↓RU, RV, RH, ↓reduceIte, reduceEqDiff, reduceCtorEq, if_pos, w64, ↓RS, RG, reduceAdd, reduceMul, reduceLeDiff, ty1, tyLint, tyint, hwl3]
    refine hK _ _ ?_;clear hK K
    refine W.cond rfl (fun h2 => ?_) (fun h2 => ?_)
    ·try simp only [RL] at h2
     obtain ⟨w, hw, -⟩ := get_of (show i < ws.length by omega)
     have hwi : (walls p)[i]? = some (encW w) := by rw [← hwe]; simp [hw]
     have e0 : (encW w)[0]? = some (kk w.level) := rfl
     have e3 : (encW w)[3]? = some w.long := rfl
     have el : (encW w).length = 4 := rfl
     refine W.skip ?_
     refine XThen.norm ?_
     refine W.seq ?_
     refine W.block ?_
     refine W.region_k fun K hK => ?_
     rcases hO : (cutTo p ws i, w.level, decide (w.long = (p.length : Int))) with ⟨_ | _, _ | _, _ | _⟩
     ·skip
      simp only [Prod.mk.injEq] at hO
      obtain ⟨k1, k2, k3⟩ := hO
      have k4 : (w.long == (p.length : Int)) = decide (w.long = (p.length : Int)) := by by_cases e : w.long = p.length <;> simp [e]
      rw [k3] at k4
      rw [k2] at e0
      have e01 : kk false = 0 := rfl
      rw [e01] at e0
      simp (disch := omega) only [↓RU, RV, RH, ↓reduceIte, reduceEqDiff, reduceCtorEq, if_pos, w64, ↓RS, RG, reduceAdd, reduceMul, reduceLeDiff, ty1, tyLint, ty5, tyint, tystring, k1, k2, k4, hwi, hwl3, e0, e3, el, Int.toNat_zero, Int.reduceToNat, Nat.zero_mul, show ((0 : Int) == 0) = true from rfl]
      refine hK _ _ ?_;clear hK K
      refine XBlock.norm ?_
      refine XThen.norm ?_
      refine W.region_k fun K hK => ?_
      simp (disch := omega) only [↓RU, RV, RH, ↓reduceIte, reduceEqDiff, reduceCtorEq, if_pos, w64, ↓RS, RG, reduceAdd, reduceMul, reduceLeDiff, tyint]
      refine hK _ _ ?_;clear hK K
      refine XThen.norm ?_
      refine ⟨ws.length - (i + 1), by omega, 0, i + 1, tk, rfl, by omega, ?_, rfl⟩
      simp [Env.put, Env.of, cutTo_succ hw, k1, k2, k3]
     ·skip
      simp only [Prod.mk.injEq] at hO
      obtain ⟨k1, k2, k3⟩ := hO
      have k4 : (w.long == (p.length : Int)) = decide (w.long = (p.length : Int)) := by by_cases e : w.long = p.length <;> simp [e]
      rw [k3] at k4
      rw [k2] at e0
      have e01 : kk false = 0 := rfl
      rw [e01] at e0
      simp (disch := omega) only [↓RU, RV, RH, ↓reduceIte, reduceEqDiff, reduceCtorEq, if_pos, w64, ↓RS, RG, reduceAdd, reduceMul, reduceLeDiff, ty1, tyLint, ty5, tyint, tystring, k1, k2, k4, hwi, hwl3, e0, e3, el, Int.toNat_zero, Int.reduceToNat, Nat.zero_mul, show ((0 : Int) == 0) = true from rfl]
      refine hK _ _ ?_;clear hK K
      refine XBlock.norm ?_
      refine XThen.norm ?_
      refine W.region_k fun K hK => ?_
      simp (disch := omega) only [↓RU, RV, RH, ↓reduceIte, reduceEqDiff, reduceCtorEq, if_pos, w64, ↓RS, RG, reduceAdd, reduceMul, reduceLeDiff, tyint]
      refine hK _ _ ?_;clear hK K
      refine XThen.norm ?_
      refine ⟨ws.length - (i + 1), by omega, 0, i + 1, tk, rfl, by omega, ?_, rfl⟩
      simp [Env.put, Env.of, cutTo_succ hw, k1, k2, k3]
     ·skip
      simp only [Prod.mk.injEq] at hO
      obtain ⟨k1, k2, k3⟩ := hO
      have k4 : (w.long == (p.length : Int)) = decide (w.long = (p.length : Int)) := by by_cases e : w.long = p.length <;> simp [e]
      rw [k3] at k4
      rw [k2] at e0
      have e01 : kk true = 1 := rfl
      rw [e01] at e0
      simp (disch := omega) only [↓RU, RV, RH, ↓reduceIte, reduceEqDiff, reduceCtorEq, if_pos, w64, ↓RS, RG, reduceAdd, reduceMul, reduceLeDiff, ty1, tyLint, ty5, tyint, tystring, k1, k2, k4, hwi, hwl3, e0, e3, el, Int.toNat_zero, Int.reduceToNat, Nat.zero_mul, show ((1 : Int) == 0) = false from rfl]
      refine hK _ _ ?_;clear hK K
      refine XBlock.norm ?_
      refine XThen.norm ?_
      refine W.region_k fun K hK => ?_
      simp (disch := omega) only [↓RU, RV, RH, ↓reduceIte, reduceEqDiff, reduceCtorEq, if_pos, w64, ↓RS, RG, reduceAdd, reduceMul, reduceLeDiff, tyint]
      refine hK _ _ ?_;clear hK K
      refine XThen.norm ?_
      refine ⟨ws.length - (i + 1), by omega, 0, i + 1, tk, rfl, by omega, ?_, rfl⟩
      simp [Env.put, Env.of, cutTo_succ hw, k1, k2, k3]
     ·skip
      simp only [Prod.mk.injEq] at hO
      obtain ⟨k1, k2, k3⟩ := hO
      have k4 : (w.long == (p.length : Int)) = decide (w.long = (p.length : Int)) := by by_cases e : w.long = p.length <;> simp [e]
      rw [k3] at k4
      rw [k2] at e0
      have e01 : kk true = 1 := rfl
      rw [e01] at e0
      simp (disch := omega) only [↓RU, RV, RH, ↓reduceIte, reduceEqDiff, reduceCtorEq, if_pos, w64, ↓RS, RG, reduceAdd, reduceMul, reduceLeDiff, ty1, tyLint, ty5, tyint, tystring, k1, k2, k4, hwi, hwl3, e0, e3, el, Int.toNat_zero, Int.reduceToNat, Nat.zero_mul, show ((1 : Int) == 0) = false from rfl]
      refine hK _ _ ?_;clear hK K
      refine XBlock.norm ?_
      refine XThen.norm ?_
      refine W.region_k fun K hK => ?_
      simp (disch := omega) only [↓RU, RV, RH, ↓reduceIte, reduceEqDiff, reduceCtorEq, if_pos, w64, ↓RS, RG, reduceAdd, reduceMul, reduceLeDiff, tyint]
      refine hK _ _ ?_;clear hK K
      refine XThen.norm ?_
      refine ⟨ws.length - (i + 1), by omega, 0, i + 1, tk, rfl, by omega, ?_, rfl⟩
      simp [Env.put, Env.of, cutTo_succ hw, k1, k2, k3]
     ·skip
      simp only [Prod.mk.injEq] at hO
      obtain ⟨k1, k2, k3⟩ := hO
      have k4 : (w.long == (p.length : Int)) = decide (w.long = (p.length : Int)) := by by_cases e : w.long = p.length <;> simp [e]
      rw [k3] at k4
      rw [k2] at e0
      have e01 : kk false = 0 := rfl
      rw [e01] at e0
      simp (disch := omega) only [↓RU, RV, RH, ↓reduceIte, reduceEqDiff, reduceCtorEq, if_pos, w64, ↓RS, RG, reduceAdd, reduceMul, reduceLeDiff, ty1, tyLint, ty5, tyint, tystring, k1, k2, k4, hwi, hwl3, e0, e3, el, Int.toNat_zero, Int.reduceToNat, Nat.zero_mul, show ((0 : Int) == 0) = true from rfl]
      refine hK _ _ ?_;clear hK K
      refine XBlock.norm ?_
      refine XThen.norm ?_
      refine W.region_k fun K hK => ?_
      simp (disch := omega) only [↓RU, RV, RH, ↓reduceIte, reduceEqDiff, reduceCtorEq, if_pos, w64, ↓RS, RG, reduceAdd, reduceMul, reduceLeDiff, tyint]
      refine hK _ _ ?_;clear hK K
      refine XThen.norm ?_
      refine ⟨ws.length - (i + 1), by omega, 0, i + 1, tk, rfl, by omega, ?_, rfl⟩
      simp [Env.put, Env.of, cutTo_succ hw, k1, k2, k3]
     ·skip
      simp only [Prod.mk.injEq] at hO
      obtain ⟨k1, k2, k3⟩ := hO
      have k4 : (w.long == (p.length : Int)) = decide (w.long = (p.length : Int)) := by by_cases e : w.long = p.length <;> simp [e]
      rw [k3] at k4
      rw [k2] at e0
      have e01 : kk false = 0 := rfl
      rw [e01] at e0
      simp (disch := omega) only [↓RU, RV, RH, ↓reduceIte, reduceEqDiff, reduceCtorEq, if_pos, w64, ↓RS, RG, reduceAdd, reduceMul, reduceLeDiff, ty1, tyLint, ty5, tyint, tystring, k1, k2, k4, hwi, hwl3, e0, e3, el, Int.toNat_zero, Int.reduceToNat, Nat.zero_mul, show ((0 : Int) == 0) = true from rfl]
      refine hK _ _ ?_;clear hK K
      refine XBlock.norm ?_
      refine XThen.norm ?_
      refine W.region_k fun K hK => ?_
      simp (disch := omega) only [↓RU, RV, RH, ↓reduceIte, reduceEqDiff, reduceCtorEq, if_pos, w64, ↓RS, RG, reduceAdd, reduceMul, reduceLeDiff, tyint]
      refine hK _ _ ?_;clear hK K
      refine XThen.norm ?_
      refine ⟨ws.length - (i + 1), by omega, 0, i + 1, tk, rfl, by omega, ?_, rfl⟩
      simp [Env.put, Env.of, cutTo_succ hw, k1, k2, k3]
     ·skip
      simp only [Prod.mk.injEq] at hO
      obtain ⟨k1, k2, k3⟩ := hO
      have k4 : (w.long == (p.length : Int)) = decide (w.long = (p.length : Int)) := by by_cases e : w.long = p.length <;> simp [e]
      rw [k3] at k4
      rw [k2] at e0
      have e01 : kk true = 1 := rfl
      rw [e01] at e0
      simp (disch := omega) only [↓RU, RV, RH, ↓reduceIte, reduceEqDiff, reduceCtorEq, if_pos, w64, ↓RS, RG, reduceAdd, reduceMul, reduceLeDiff, ty1, tyLint, ty5, tyint, tystring, k1, k2, k4, hwi, hwl3, e0, e3, el, Int.toNat_zero, Int.reduceToNat, Nat.zero_mul, show ((1 : Int) == 0) = false from rfl]
      refine hK _ _ ?_;clear hK K
      refine XBlock.norm ?_
      refine XThen.norm ?_
      refine W.region_k fun K hK => ?_
      simp (disch := omega) only [↓RU, RV, RH, ↓reduceIte, reduceEqDiff, reduceCtorEq, if_pos, w64, ↓RS, RG, reduceAdd, reduceMul, reduceLeDiff, tyint]
      refine hK _ _ ?_;clear hK K
      refine XThen.norm ?_
      refine ⟨ws.length - (i + 1), by omega, 0, i + 1, tk, rfl, by omega, ?_, rfl⟩
      simp [Env.put, Env.of, cutTo_succ hw, k1, k2, k3]
     ·skip
      simp only [Prod.mk.injEq] at hO
      obtain ⟨k1, k2, k3⟩ := hO
      have k4 : (w.long == (p.length : Int)) = decide (w.long = (p.length : Int)) := by by_cases e : w.long = p.length <;> simp [e]
      rw [k3] at k4
      rw [k2] at e0
      have e01 : kk true = 1 := rfl
      rw [e01] at e0
      simp (disch := omega) only [↓RU, RV, RH, ↓reduceIte, reduceEqDiff, reduceCtorEq, if_pos, w64, ↓RS, RG, reduceAdd, reduceMul, reduceLeDiff, ty1, tyLint, ty5, tyint, tystring, k1, k2, k4, hwi, hwl3, e0, e3, el, Int.toNat_zero, Int.reduceToNat, Nat.zero_mul, show ((1 : Int) == 0) = false from rfl]
      refine hK _ _ ?_;clear hK K
      refine XBlock.norm ?_
      refine XThen.norm ?_
      refine W.region_k fun K hK => ?_
      simp (disch := omega) only [↓RU, RV, RH, ↓reduceIte, reduceEqDiff, reduceCtorEq, if_pos, w64, ↓RS, RG, reduceAdd, reduceMul, reduceLeDiff, tyint]
      refine hK _ _ ?_;clear hK K
      refine XThen.norm ?_
      refine ⟨ws.length - (i + 1), by omega, 0, i + 1, tk, rfl, by omega, ?_, rfl⟩
      simp [Env.put, Env.of, cutTo_succ hw, k1, k2, k3]
    ·try simp only [RL] at h2
     obtain rfl : i = ws.length := by omega
     refine W.exit ?_
     refine XThen.exit ?_
     refine XThen.exit ?_
     refine XBlock.hit ?_
     refine XThen.norm ?_
     refine W.seq_region fun K hK => ?_
     simp (disch := omega) only [↓RU, RV, RH, ↓reduceIte, reduceEqDiff, reduceCtorEq, if_pos, ↓RS, RG, reduceAdd, reduceMul, reduceLeDiff]
     refine hK _ _ ?_;clear hK K
     refine W.seq_region fun K hK => ?_
     simp (disch := omega) only [↓RU, RV, RH, ↓reduceIte, reduceEqDiff, reduceCtorEq, if_pos, ↓RS, RG, reduceAdd, reduceMul, reduceLeDiff]
     refine hK _ _ ?_;clear hK K
     refine W.seq ?_
     refine W.seq_region fun K hK => ?_
     simp (disch := omega) only [↓RU, RV, RH, ↓reduceIte, reduceEqDiff, reduceCtorEq, if_pos, ↓RS, RG, reduceAdd, reduceMul, reduceLeDiff]
     refine hK _ _ ?_;clear hK K
     refine W.block ?_
     refine W.loop [4, 9, 10, 12, 13, 14] (fun n vs S => ∃ i tk : Nat, n = m - i ∧ i ≤ m ∧ vs = [eInts (permV p), .bool true, .bool (aprt p m), .bool (aprt p i), .int .i64 (mxI p i), .int .i64 i] ∧ S = ⟨[], tk⟩) m ?_ ?_
     ·refine ⟨0, 0, tk, rfl, Nat.zero_le _, ?_, rfl⟩
      simp [Env.put, Env.of, argEnv, aprt, mxI, hcs]
     rintro n vs S - ⟨i, tk, rfl, h_i, rfl, rfl⟩
     refine W.seq ?_
     refine W.seq_region fun K hK => ?_
     simp (disch := omega) only [↓RU, RV, RH, ↓reduceIte, reduceEqDiff, reduceCtorEq, if_pos, w64, ↓RS, RG, reduceAdd, reduceMul, reduceLeDiff, tyLint, tyint, hpl]
     refine hK _ _ ?_;clear hK K
     refine W.cond rfl (fun h3 => ?_) (fun h3 => ?_)
     ·try simp only [RL] at h3
      have him : i < m := by omega
      have hxi := xI_at hp (show i < (rP p).length by omega)
      have hb1 := mxI_bnd hp (show i ≤ (rP p).length by omega)
      have hb2 := mxI_bnd hp (show i + 1 ≤ (rP p).length by omega)
      rw [mxI_succ] at hb2
      refine W.skip ?_
      refine XThen.norm ?_
      refine W.seq ?_
      refine W.block ?_
      refine W.seq_region fun K hK => ?_
      simp (disch := omega) only [↓RU, RV, RH, ↓reduceIte, reduceEqDiff, reduceCtorEq, if_pos, ite_max, ↓RS, RG, reduceAdd, reduceMul, reduceLeDiff, tyLint, tyint, hxi, hpl]
      refine hK _ _ ?_;clear hK K
      refine W.region_k fun K hK => ?_
      rcases hO : (aprt p i, decide (max (mxI p i) (xI p i) = (i : Int))) with ⟨_ | _, _ | _⟩
      ·skip
       simp only [Prod.mk.injEq] at hO
       obtain ⟨k1, k3⟩ := hO
       have k4 : (max (mxI p i) (xI p i) == (i : Int)) = decide (max (mxI p i) (xI p i) = (i : Int)) := by by_cases e : max (mxI p i) (xI p i) = (i : Int) <;> simp [e]
       rw [k3] at k4
       simp (disch := omega) only [↓RU, RV, RH, ↓reduceIte, reduceEqDiff, reduceCtorEq, if_pos, w64, ↓RS, RG, reduceAdd, reduceMul, reduceLeDiff, tyint, k1, k4]
       refine hK _ _ ?_;clear hK K
       refine XBlock.norm ?_
       refine XThen.norm ?_
       refine W.region_k fun K hK => ?_
       simp (disch := omega) only [↓RU, RV, RH, ↓reduceIte, reduceEqDiff, reduceCtorEq, if_pos, w64, ↓RS, RG, reduceAdd, reduceMul, reduceLeDiff, tyint]
       refine hK _ _ ?_;clear hK K
       refine XThen.norm ?_
       refine ⟨m - (i + 1), by omega, 0, i + 1, tk, rfl, by omega, ?_, rfl⟩
       simp [Env.put, Env.of, mxI_succ, aprt, k1, k4] <;> exact k3
      ·skip
       simp only [Prod.mk.injEq] at hO
       obtain ⟨k1, k3⟩ := hO
       have k4 : (max (mxI p i) (xI p i) == (i : Int)) = decide (max (mxI p i) (xI p i) = (i : Int)) := by by_cases e : max (mxI p i) (xI p i) = (i : Int) <;> simp [e]
       rw [k3] at k4
       simp (disch := omega) only [↓RU, RV, RH, ↓reduceIte, reduceEqDiff, reduceCtorEq, if_pos, w64, ↓RS, RG, reduceAdd, reduceMul, reduceLeDiff, tyint, k1, k4]
       refine hK _ _ ?_;clear hK K
       refine XBlock.norm ?_
       refine XThen.norm ?_
       refine W.region_k fun K hK => ?_
       simp (disch := omega) only [↓RU, RV, RH, ↓reduceIte, reduceEqDiff, reduceCtorEq, if_pos, w64, ↓RS, RG, reduceAdd, reduceMul, reduceLeDiff, tyint]
       refine hK _ _ ?_;clear hK K
       refine XThen.norm ?_
       refine ⟨m - (i + 1), by omega, 0, i + 1, tk, rfl, by omega, ?_, rfl⟩
       simp [Env.put, Env.of, mxI_succ, aprt, k1, k4] <;> exact k3
      ·skip
       simp only [Prod.mk.injEq] at hO
       obtain ⟨k1, k3⟩ := hO
       have k4 : (max (mxI p i) (xI p i) == (i : Int)) = decide (max (mxI p i) (xI p i) = (i : Int)) := by by_cases e : max (mxI p i) (xI p i) = (i : Int) <;> simp [e]
       rw [k3] at k4
       simp (disch := omega) only [↓RU, RV, RH, ↓reduceIte, reduceEqDiff, reduceCtorEq, if_pos, w64, ↓RS, RG, reduceAdd, reduceMul, reduceLeDiff, tyint, k1, k4]
       refine hK _ _ ?_;clear hK K
       refine XBlock.norm ?_
       refine XThen.norm ?_
       refine W.region_k fun K hK => ?_
       simp (disch := omega) only [↓RU, RV, RH, ↓reduceIte, reduceEqDiff, reduceCtorEq, if_pos, w64, ↓RS, RG, reduceAdd, reduceMul, reduceLeDiff, tyint]
       refine hK _ _ ?_;clear hK K
       refine XThen.norm ?_
       refine ⟨m - (i + 1), by omega, 0, i + 1, tk, rfl, by omega, ?_, rfl⟩
       simp [Env.put, Env.of, mxI_succ, aprt, k1, k4] <;> exact k3
      ·skip
       simp only [Prod.mk.injEq] at hO
       obtain ⟨k1, k3⟩ := hO
       have k4 : (max (mxI p i) (xI p i) == (i : Int)) = decide (max (mxI p i) (xI p i) = (i : Int)) := by by_cases e : max (mxI p i) (xI p i) = (i : Int) <;> simp [e]
       rw [k3] at k4
       simp (disch := omega) only [↓RU, RV, RH, ↓reduceIte, reduceEqDiff, reduceCtorEq, if_pos, w64, ↓RS, RG, reduceAdd, reduceMul, reduceLeDiff, tyint, k1, k4]
       refine hK _ _ ?_;clear hK K
       refine XBlock.norm ?_
       refine XThen.norm ?_
       refine W.region_k fun K hK => ?_
       simp (disch := omega) only [↓RU, RV, RH, ↓reduceIte, reduceEqDiff, reduceCtorEq, if_pos, w64, ↓RS, RG, reduceAdd, reduceMul, reduceLeDiff, tyint]
       refine hK _ _ ?_;clear hK K
       refine XThen.norm ?_
       refine ⟨m - (i + 1), by omega, 0, i + 1, tk, rfl, by omega, ?_, rfl⟩
       simp [Env.put, Env.of, mxI_succ, aprt, k1, k4] <;> exact k3
     ·try simp only [RL] at h3
      obtain rfl : i = m := by omega
      refine W.exit ?_
      refine XThen.exit ?_
      refine XThen.exit ?_
      refine XBlock.hit ?_
      refine XThen.norm ?_
      refine W.seq_region fun K hK => ?_
      simp (disch := omega) only [↓RU, RV, RH, ↓reduceIte, reduceEqDiff, reduceCtorEq, if_pos, w64, ↓RS, RG, reduceAdd, reduceMul, reduceLeDiff, tybool, pEq_bb, Option.map_some, bne_self_eq_false, beq_self_eq_true, Bool.not_true, Bool.not_false, decide_true]
      refine hK _ _ ?_;clear hK K
      refine W.ret ?_
      refine BodyQ.ret rfl ?_
      rfl
end Fw
end Go.Proofs.YtclmfemhboogpaaGreat
namespace Go.Proofs.YtclmfemhboogpaaGreat
open Go Go.ChangeShapes Go.WideShapes Go.ChangeAt Go.RowKit Fw
theorem Tryz.ownRmc : ownKnob Tryz.prog.godebug = none := by kernel_rfl
theorem Tryz.laidOutRmc : laidOutB Tryz.prog = true := by kernel_rfl
set_option maxRecDepth 100000 in
theorem rmc_lifted (os : Os) (started : os.Started) (H : Type) (enc : TypeId × Value → H) :
  ReturnsInHanded {} Tryz.checked os 5 .any (Rows.fnPermCutSpec.pre6 enc Tryz.prog Tryz.f5 Rows.fnPermCutRow.domain false) (Rows.fnPermCutSpec.post enc Tryz.prog Tryz.f5 false true false false) := by
 refine returnsInHanded_of_change (C := Tryz.checked) Tryz.ownRmc started (by kernel_rfl) Tryz.func5
  (ChangeSpec.witness6 (enc := enc) (C := Tryz.checked) false ⟨#[], #[.slice none 0 0], []⟩ 8 (by kernel_rfl) (by kernel_rfl) (by kernel_rfl) (by kernel_rfl)) ?_
 intro W base args ds gs before hval0 hW hcnd _
 have hval : ∀ (j : Nat) t v, Tryz.f5.params[j]? = some t → args[j]? = some v → Value.okWide Tryz.prog W .any base t v := hval0
 have hW' := hW
 obtain ⟨p, q, hA0, hV, rfl, hfz, hnd⟩ := hW
 have hA : DataW.TrodAll enc Tryz.prog W 0 (fun _ => true) true Tryz.f5.params.toList args.toList ds p := hA0
 rw [Tryz.params5] at hA hval
 obtain ⟨v0, d0, rfl, rfl, h0⟩ := trodAll_one hA
 obtain ⟨rfl, rfl⟩ := trodVars_none hV
 obtain ⟨l0, i0, b0⟩ := vi_bytes (hval 0 _ v0 rfl rfl) h0
 have hlt : ∀ x ∈ p, x.block < W.heap.size := fun x hx => hW'.lt x (by simp [hx])
 refine ((permCut_law b0).run (fun b => b < W.heap.size) W #[v0] (fun _ h => h) rfl ?_).mono ?_
 ·rintro (_ | i) p c hp hc
  ·cases hp; cases hc; exact i0
  ·simp at hp
 ·rintro e W' ⟨cv, rfl, hB, hr⟩
  have hcv : cv = .bool true := by cases hr; rfl
  subst hcv
  have t0 := Below.trod Tryz.laidOutRmc (by kernel_rfl) (of_decide_eq_true (by kernel_rfl)) h0 hB fun x hx => hlt x (by simp [hx])
  refine ⟨_, rfl, _, _, _, [], p, [], hW', ?_, ?_, ?_, hB.frame _, fun h => by cases h⟩
  ·exact trodAll_mk1 (shut_bool Tryz.underlying4 true)
  ·rw [Tryz.params5]; exact trodAll_mk1 t0
  ·trivial
theorem rmc_holds : Rows.FnPermCutSaid :=
 OpenClaim.holds_of_wide 5 Tryz.f5 rfl rfl rfl rfl rfl rfl rfl ⟨rfl, rfl, rfl, rfl, rfl⟩ rfl rfl rfl rfl rfl (by kernel_rfl) Tryz.func5 (by kernel_rfl)
  (of_decide_eq_true (by kernel_rfl)) (by unfold Func.isWrapper; first | (rw [if_pos (by decide +kernel)]; kernel_rfl) | (rw [if_neg (by decide +kernel)]; exact ⟨rfl, rfl⟩))
  (fun os started H enc _ => rmc_lifted os started H enc)
end Go.Proofs.YtclmfemhboogpaaGreat
