/- Parts of the framework and of the proof: Orders of the program, gone through; Heaviest sums, gone through; Sort, gone through; Points of the program, gone through; The text of a plan of the program, gone through; The numbering of rooms by the program, gone through; Grids of the program, gone through; Plans of the program, gone through; Reading plans, gone through; Sizes by the program, gone through; The two closures of relations are the same; The heaviest sums and the least sizes are the same; The program's walls and orders are the specification's; The program's direct orders are the specification's; Sums and counts of cells; The least rectangle around cells, by the program. -/
import Derived.Test.YtmhcknpjgikgmaaJ3
import Derived.Test.YtmhcknpjgikgmaaJ2
set_option linter.all false
/-! Orders of the program, gone through. -/
namespace Go.Proofs.Ytmhcknpjgikgmaa
namespace Fw
open Go

theorem closeL_ev {nr tk : Nat} (Y : Lay nr) {o2 o3 : Ob} {R : List Ob} {L A : List (List Bool)} (hL : Sq nr L) (hn : nr ≤ 9) :
    Ev Try.prog 88 [.loc Y.pL Y.vL 0 nr] ⟨Y.f o2 o3 R L A, tk⟩ fun v S => v = .tup [] ∧ S = ⟨Y.f o2 o3 R (closeM L) A, tk⟩ := by
  obtain ⟨F, R', hp, hF⟩ := Y.splL (o2 := o2) (o3 := o3) (R := R) (L := L) (A := A)
  rw [hp, hF L rfl, hF (closeM L) (by rw [hL.1, hL.close.1])]
  exact close_ev hL hn
theorem closeA_ev {nr tk : Nat} (Y : Lay nr) {o2 o3 : Ob} {R : List Ob} {L A : List (List Bool)} (hL : L.length = nr) (hA : Sq nr A) (hn : nr ≤ 9) :
    Ev Try.prog 88 [.loc Y.pA Y.vA 0 nr] ⟨Y.f o2 o3 R L A, tk⟩ fun v S => v = .tup [] ∧ S = ⟨Y.f o2 o3 R L (closeM A), tk⟩ := by
  obtain ⟨F, R', hp, hF⟩ := Y.splA (o2 := o2) (o3 := o3) (R := R) (L := L) (A := A) hL
  rw [hp, hF A rfl, hF (closeM A) (by rw [hA.1, hA.close.1])]
  exact close_ev hA hn

theorem orders_pc {g : List (List Int)} {nh nw nr : Nat} (hg : GW g nh nw) {rs : List Rect} (hr : rs.length = nr) (hn : nr ≤ 9) (hrm : RmOk g nh nw nr) : PC Try.prog 54 [eFloor g rs] (.agg [eRel (leftG g nh nw nr), eRel (aboveG g nh nw nr)]) true := by
  have hwsl := wsI_len (g := g) (nh := nh) (nw := nw) (i := 2) hg.2.2.2.1 hg.2.2.2.2.2
  rw [show wsI g nh nw 2 = wallsG g nh nw from rfl] at hwsl
  refine PC.of ⟨Try.func54, by kernel_rfl, rfl, by kernel_rfl⟩ tabOk mixed (by show 1 ≤ Try.f54.ntmps; decide) ?_
  refine W.seq_region fun K hK => ?_
  simp (disch := omega) only [↓RU, RV, RH, ↓reduceIte, Nat.reduceEqDiff, reduceCtorEq, if_pos, ↓RS, RG, Nat.reduceAdd, Nat.reduceMul, Nat.reduceLeDiff, tyLLbool, tyLbool, tybool, tyimpl_orders, tyimpl_relation, tystruct_left_impl_relation_above_impl_relation_]
  refine hK _ _ ?_
  clear hK K
  refine W.join [0, 2, 3] (fun vs S => ∃ (Y : Lay nr) (tk : Nat), vs = [eFloor g rs, .ref 0 0 0, .ref Y.p3 Y.v3 0] ∧ S = ⟨Y.f (.arr 0 64 2 [.nils, .nils]) (.arr Y.v3 64 2 [.loc Y.pL Y.vL 0 nr, .loc Y.pA Y.vA 0 nr]) [] (emptyM nr) (emptyM nr), tk⟩) ?_ ?_
  ·
    refine W.region_mk (r1 := [_, _, _, _, _, _, _, _, _, _, _, _, _]) (r2 := [_]) 13 64 3 [0, 1, 2, 3, 4, 6, 7, 8, 9, 10, 5, 11, 12] [14] [7, 8, 9, 10] [some 20, some 21, some 22, some 23] (by kernel_rfl) (by kernel_rfl) (by kernel_rfl) rfl rfl fun K hK => ?_
    refine eRunM_f rfl rfl ?_
    simp (disch := omega) only [↓RU, RV, RH, ↓reduceIte, Nat.reduceEqDiff, reduceCtorEq, if_pos, List.append_nil, ↓RS, RG, Nat.reduceAdd, Nat.reduceMul, Nat.reduceLeDiff, tyLLbool, tyLLint, tyLbool, tyLimpl_rect, tyLint, tybool, tyimpl_floor, tyimpl_grid, tyimpl_orders, tyimpl_rect, tyimpl_relation, tyint, tystruct_cells_impl_grid_rooms_Limpl_rect_, tystruct_left_impl_relation_above_impl_relation_, tystruct_row_int_col_int_high_int_wide_int_, hr, up_rel, relObs_len, emptyM_len, gEnd, setEnd, gMid1, sMid1]
    refine eRunM_f rfl rfl ?_
    simp (disch := omega) only [↓RU, RV, RH, ↓reduceIte, Nat.reduceEqDiff, reduceCtorEq, if_pos, List.append_nil, ↓RS, RG, Nat.reduceAdd, Nat.reduceMul, Nat.reduceLeDiff, tyLLbool, tyLLint, tyLbool, tyLimpl_rect, tyLint, tybool, tyimpl_floor, tyimpl_grid, tyimpl_orders, tyimpl_rect, tyimpl_relation, tyint, tystruct_cells_impl_grid_rooms_Limpl_rect_, tystruct_left_impl_relation_above_impl_relation_, tystruct_row_int_col_int_high_int_wide_int_, hr, up_rel, relObs_len, emptyM_len, gEnd, setEnd, gMid1, sMid1]
    refine eRunM_f rfl rfl ?_
    simp (disch := omega) only [↓RU, RV, RH, ↓reduceIte, Nat.reduceEqDiff, reduceCtorEq, if_pos, List.append_nil, ↓RS, RG, Nat.reduceAdd, Nat.reduceMul, Nat.reduceLeDiff, tyLLbool, tyLLint, tyLbool, tyLimpl_rect, tyLint, tybool, tyimpl_floor, tyimpl_grid, tyimpl_orders, tyimpl_rect, tyimpl_relation, tyint, tystruct_cells_impl_grid_rooms_Limpl_rect_, tystruct_left_impl_relation_above_impl_relation_, tystruct_row_int_col_int_high_int_wide_int_, hr, up_rel, relObs_len, emptyM_len, gEnd, setEnd, gMid1, sMid1]
    refine eRunM_f rfl rfl ?_
    simp (disch := omega) only [↓RU, RV, RH, ↓reduceIte, Nat.reduceEqDiff, reduceCtorEq, if_pos, List.append_nil, ↓RS, RG, Nat.reduceAdd, Nat.reduceMul, Nat.reduceLeDiff, tyLLbool, tyLLint, tyLbool, tyLimpl_rect, tyLint, tybool, tyimpl_floor, tyimpl_grid, tyimpl_orders, tyimpl_rect, tyimpl_relation, tyint, tystruct_cells_impl_grid_rooms_Limpl_rect_, tystruct_left_impl_relation_above_impl_relation_, tystruct_row_int_col_int_high_int_wide_int_, hr, up_rel, relObs_len, emptyM_len, gEnd, setEnd, gMid1, sMid1]
    refine eRunM_f rfl rfl ?_
    simp (disch := omega) only [↓RU, RV, RH, ↓reduceIte, Nat.reduceEqDiff, reduceCtorEq, if_pos, List.append_nil, ↓RS, RG, Nat.reduceAdd, Nat.reduceMul, Nat.reduceLeDiff, tyLLbool, tyLLint, tyLbool, tyLimpl_rect, tyLint, tybool, tyimpl_floor, tyimpl_grid, tyimpl_orders, tyimpl_rect, tyimpl_relation, tyint, tystruct_cells_impl_grid_rooms_Limpl_rect_, tystruct_left_impl_relation_above_impl_relation_, tystruct_row_int_col_int_high_int_wide_int_, hr, up_rel, relObs_len, emptyM_len, gEnd, setEnd, gMid1, sMid1]
    refine eRunM_f rfl rfl ?_
    simp (disch := omega) only [↓RU, RV, RH, ↓reduceIte, Nat.reduceEqDiff, reduceCtorEq, if_pos, List.append_nil, ↓RS, RG, Nat.reduceAdd, Nat.reduceMul, Nat.reduceLeDiff, tyLLbool, tyLLint, tyLbool, tyLimpl_rect, tyLint, tybool, tyimpl_floor, tyimpl_grid, tyimpl_orders, tyimpl_rect, tyimpl_relation, tyint, tystruct_cells_impl_grid_rooms_Limpl_rect_, tystruct_left_impl_relation_above_impl_relation_, tystruct_row_int_col_int_high_int_wide_int_, hr, up_rel, relObs_len, emptyM_len, gEnd, setEnd, gMid1, sMid1]
    refine eRunM_pend rfl rfl rfl (fun S' => rfl) ?_
    refine eRunM_pend rfl rfl rfl (fun S' => rfl) ?_
    refine eRunM_pend rfl rfl rfl (fun S' => rfl) ?_
    refine eRunM_pend rfl rfl rfl (fun S' => rfl) ?_
    refine eRunM_eff rfl (by decide) ?_ ?_
    · simp (disch := omega) only [↓RU, RV, RH, ↓reduceIte, Nat.reduceEqDiff, reduceCtorEq, if_pos, List.append_nil, ↓RS, RG, Nat.reduceAdd, Nat.reduceMul, Nat.reduceLeDiff, tyLLbool, tyLLint, tyLbool, tyLimpl_rect, tyLint, tybool, tyimpl_floor, tyimpl_grid, tyimpl_orders, tyimpl_rect, tyimpl_relation, tyint, tystruct_cells_impl_grid_rooms_Limpl_rect_, tystruct_left_impl_relation_above_impl_relation_, tystruct_row_int_col_int_high_int_wide_int_, hr, up_rel, relObs_len, emptyM_len, gEnd, setEnd, gMid1, sMid1]
      refine CallR.pn (emptyRel_pn hn) rfl (.inl rfl) ?_
      simp (disch := omega) only [↓RU, RV, RH, ↓reduceIte, Nat.reduceEqDiff, reduceCtorEq, if_pos, List.append_nil, ↓RS, RG, Nat.reduceAdd, Nat.reduceMul, Nat.reduceLeDiff, tyLLbool, tyLLint, tyLbool, tyLimpl_rect, tyLint, tybool, tyimpl_floor, tyimpl_grid, tyimpl_orders, tyimpl_rect, tyimpl_relation, tyint, tystruct_cells_impl_grid_rooms_Limpl_rect_, tystruct_left_impl_relation_above_impl_relation_, tystruct_row_int_col_int_high_int_wide_int_, hr, up_rel, relObs_len, emptyM_len, gEnd, setEnd, gMid1, sMid1, RN]
      refine CallR.pn (emptyRel_pn hn) rfl (.inl rfl) ?_
      simp (disch := omega) only [↓RU, RV, RH, ↓reduceIte, Nat.reduceEqDiff, reduceCtorEq, if_pos, List.append_nil, ↓RS, RG, Nat.reduceAdd, Nat.reduceMul, Nat.reduceLeDiff, tyLLbool, tyLLint, tyLbool, tyLimpl_rect, tyLint, tybool, tyimpl_floor, tyimpl_grid, tyimpl_orders, tyimpl_rect, tyimpl_relation, tyint, tystruct_cells_impl_grid_rooms_Limpl_rect_, tystruct_left_impl_relation_above_impl_relation_, tystruct_row_int_col_int_high_int_wide_int_, hr, up_rel, relObs_len, emptyM_len, gEnd, setEnd, gMid1, sMid1, RN]
      refine hK _ _ ?_
      clear hK K
      refine XThen.norm ?_
      refine ⟨_, lay1 nr, 4, ?_, take_all_of ?_⟩
      · simp [Env.put, Env.of, argEnv, lay1, relObs_len, emptyM_len]; try omega
      · simp [lay1, relObs_len, emptyM_len]
    · simp (disch := omega) only [↓RU, RV, RH, ↓reduceIte, Nat.reduceEqDiff, reduceCtorEq, if_pos, List.append_nil, ↓RS, RG, Nat.reduceAdd, Nat.reduceMul, Nat.reduceLeDiff, tyLLbool, tyLLint, tyLbool, tyLimpl_rect, tyLint, tybool, tyimpl_floor, tyimpl_grid, tyimpl_orders, tyimpl_rect, tyimpl_relation, tyint, tystruct_cells_impl_grid_rooms_Limpl_rect_, tystruct_left_impl_relation_above_impl_relation_, tystruct_row_int_col_int_high_int_wide_int_, hr, up_rel, relObs_len, emptyM_len, gEnd, setEnd, gMid1, sMid1]
      refine CallR.pn (emptyRel_pn hn) rfl (.inl rfl) ?_
      simp (disch := omega) only [↓RU, RV, RH, ↓reduceIte, Nat.reduceEqDiff, reduceCtorEq, if_pos, List.append_nil, ↓RS, RG, Nat.reduceAdd, Nat.reduceMul, Nat.reduceLeDiff, tyLLbool, tyLLint, tyLbool, tyLimpl_rect, tyLint, tybool, tyimpl_floor, tyimpl_grid, tyimpl_orders, tyimpl_rect, tyimpl_relation, tyint, tystruct_cells_impl_grid_rooms_Limpl_rect_, tystruct_left_impl_relation_above_impl_relation_, tystruct_row_int_col_int_high_int_wide_int_, hr, up_rel, relObs_len, emptyM_len, gEnd, setEnd, gMid1, sMid1, RN]
      refine eRunM_eff rfl (by decide) ?_ ?_
      · simp (disch := omega) only [↓RU, RV, RH, ↓reduceIte, Nat.reduceEqDiff, reduceCtorEq, if_pos, List.append_nil, ↓RS, RG, Nat.reduceAdd, Nat.reduceMul, Nat.reduceLeDiff, tyLLbool, tyLLint, tyLbool, tyLimpl_rect, tyLint, tybool, tyimpl_floor, tyimpl_grid, tyimpl_orders, tyimpl_rect, tyimpl_relation, tyint, tystruct_cells_impl_grid_rooms_Limpl_rect_, tystruct_left_impl_relation_above_impl_relation_, tystruct_row_int_col_int_high_int_wide_int_, hr, up_rel, relObs_len, emptyM_len, gEnd, setEnd, gMid1, sMid1]
        refine CallR.pn (emptyRel_pn hn) rfl (.inl rfl) ?_
        simp (disch := omega) only [↓RU, RV, RH, ↓reduceIte, Nat.reduceEqDiff, reduceCtorEq, if_pos, List.append_nil, ↓RS, RG, Nat.reduceAdd, Nat.reduceMul, Nat.reduceLeDiff, tyLLbool, tyLLint, tyLbool, tyLimpl_rect, tyLint, tybool, tyimpl_floor, tyimpl_grid, tyimpl_orders, tyimpl_rect, tyimpl_relation, tyint, tystruct_cells_impl_grid_rooms_Limpl_rect_, tystruct_left_impl_relation_above_impl_relation_, tystruct_row_int_col_int_high_int_wide_int_, hr, up_rel, relObs_len, emptyM_len, gEnd, setEnd, gMid1, sMid1, RN]
        refine hK _ _ ?_
        clear hK K
        refine XThen.norm ?_
        refine ⟨_, lay2 nr, 4, ?_, take_all_of ?_⟩
        · simp [Env.put, Env.of, argEnv, lay2, relObs_len, emptyM_len]; try omega
        · simp [lay2, relObs_len, emptyM_len]
      · simp (disch := omega) only [↓RU, RV, RH, ↓reduceIte, Nat.reduceEqDiff, reduceCtorEq, if_pos, List.append_nil, ↓RS, RG, Nat.reduceAdd, Nat.reduceMul, Nat.reduceLeDiff, tyLLbool, tyLLint, tyLbool, tyLimpl_rect, tyLint, tybool, tyimpl_floor, tyimpl_grid, tyimpl_orders, tyimpl_rect, tyimpl_relation, tyint, tystruct_cells_impl_grid_rooms_Limpl_rect_, tystruct_left_impl_relation_above_impl_relation_, tystruct_row_int_col_int_high_int_wide_int_, hr, up_rel, relObs_len, emptyM_len, gEnd, setEnd, gMid1, sMid1]
        refine CallR.pn (emptyRel_pn hn) rfl (.inl rfl) ?_
        simp (disch := omega) only [↓RU, RV, RH, ↓reduceIte, Nat.reduceEqDiff, reduceCtorEq, if_pos, List.append_nil, ↓RS, RG, Nat.reduceAdd, Nat.reduceMul, Nat.reduceLeDiff, tyLLbool, tyLLint, tyLbool, tyLimpl_rect, tyLint, tybool, tyimpl_floor, tyimpl_grid, tyimpl_orders, tyimpl_rect, tyimpl_relation, tyint, tystruct_cells_impl_grid_rooms_Limpl_rect_, tystruct_left_impl_relation_above_impl_relation_, tystruct_row_int_col_int_high_int_wide_int_, hr, up_rel, relObs_len, emptyM_len, gEnd, setEnd, gMid1, sMid1, RN]
        refine eRunM_f rfl rfl ?_
        simp (disch := omega) only [↓RU, RV, RH, ↓reduceIte, Nat.reduceEqDiff, reduceCtorEq, if_pos, List.append_nil, ↓RS, RG, Nat.reduceAdd, Nat.reduceMul, Nat.reduceLeDiff, tyLLbool, tyLLint, tyLbool, tyLimpl_rect, tyLint, tybool, tyimpl_floor, tyimpl_grid, tyimpl_orders, tyimpl_rect, tyimpl_relation, tyint, tystruct_cells_impl_grid_rooms_Limpl_rect_, tystruct_left_impl_relation_above_impl_relation_, tystruct_row_int_col_int_high_int_wide_int_, hr, up_rel, relObs_len, emptyM_len, gEnd, setEnd, gMid1, sMid1, RN]
        refine ⟨by decide, ?_⟩
        simp (disch := omega) only [↓RU, RV, RH, ↓reduceIte, Nat.reduceEqDiff, reduceCtorEq, if_pos, List.append_nil, ↓RS, RG, Nat.reduceAdd, Nat.reduceMul, Nat.reduceLeDiff, tyLLbool, tyLLint, tyLbool, tyLimpl_rect, tyLint, tybool, tyimpl_floor, tyimpl_grid, tyimpl_orders, tyimpl_rect, tyimpl_relation, tyint, tystruct_cells_impl_grid_rooms_Limpl_rect_, tystruct_left_impl_relation_above_impl_relation_, tystruct_row_int_col_int_high_int_wide_int_, hr, up_rel, relObs_len, emptyM_len, gEnd, setEnd, gMid1, sMid1, RN]
        refine hK _ _ ?_
        clear hK K
        refine XThen.norm ?_
        refine ⟨_, lay3 nr, 4, ?_, take_all_of ?_⟩
        · simp [Env.put, Env.of, argEnv, lay3, relObs_len, emptyM_len]; try omega
        · simp [lay3, relObs_len, emptyM_len]
  rintro vs S - ⟨Y, tk, rfl, rfl⟩
  refine W.seq ?_
  refine W.seq_region fun K hK => ?_
  simp (disch := omega) only [↓RU, RV, RH, ↓reduceIte, Nat.reduceEqDiff, reduceCtorEq, if_pos, List.append_nil, ↓RS, RG, Nat.reduceAdd, Nat.reduceMul, Nat.reduceLeDiff, tyLimpl_wall, tybool, tyimpl_wall, tyint, tystruct_level_bool_line_int_from_int_long_int_, gEnd, setEnd]
  refine CallR.pc (walls_pc hg rs) rfl (.inl rfl) ?_
  simp (disch := omega) only [↓RU, RV, RH, ↓reduceIte, Nat.reduceEqDiff, reduceCtorEq, if_pos, List.append_nil, ↓RS, RG, Nat.reduceAdd, Nat.reduceMul, Nat.reduceLeDiff, tyLimpl_wall, tybool, tyimpl_wall, tyint, tystruct_level_bool_line_int_from_int_long_int_, gEnd, setEnd]
  refine hK _ _ ?_
  clear hK K
  refine W.block ?_
  refine W.loop [0, 2, 3, 27, 28, 29] (fun n vs S => ∃ i tk : Nat, n = (wallsG g nh nw).length - i ∧ i ≤ (wallsG g nh nw).length ∧ vs = [eFloor g rs, .ref 0 0 0, .ref Y.p3 Y.v3 0, eWalls (wallsG g nh nw), .int .i64 (wallsG g nh nw).length, .int .i64 i] ∧ S = ⟨Y.f (.arr 0 64 2 [.nils, .nils]) (.arr Y.v3 64 2 [.loc Y.pL Y.vL 0 nr, .loc Y.pA Y.vA 0 nr]) [] (((wallsG g nh nw).take i).foldl (ordW g) (emptyM nr, emptyM nr)).1 (((wallsG g nh nw).take i).foldl (ordW g) (emptyM nr, emptyM nr)).2, tk⟩) (wallsG g nh nw).length ?_ ?_
  · refine ⟨_, 0, tk, rfl, by omega, ?_, take_all_of rfl⟩
    simp [Env.put, Env.of, argEnv]
  rintro n vs S - ⟨i, tk, rfl, h_i, rfl, rfl⟩
  refine W.seq_region fun K hK => ?_
  simp (disch := omega) only [↓RU, RV, RH, ↓reduceIte, Nat.reduceEqDiff, reduceCtorEq, if_pos, w64, ↓RS, RG, Nat.reduceAdd, Nat.reduceMul, Nat.reduceLeDiff, tyint]
  refine hK _ _ ?_
  clear hK K
  refine W.seq ?_
  refine W.cond rfl (fun h => ?_) (fun h => ?_)
  · try simp only [RL] at h
    obtain ⟨w, hw, hwm⟩ := get_of (show i < (wallsG g nh nw).length by omega)
    obtain ⟨hL, hA⟩ := ordTo_sq hrm (ws := (wallsG g nh nw).take i) (fun w hw => wallsG_ok w (List.mem_of_mem_take hw)) (M := (emptyM nr, emptyM nr)) (emptyM_sq nr) (emptyM_sq nr)
    generalize hMe : (((wallsG g nh nw).take i).foldl (ordW g) (emptyM nr, emptyM nr)) = M at hL hA
    obtain ⟨ln, fr, lg, hwe, hlg, hin⟩ := wallsG_ok w hwm
    obtain ⟨lv, wl, wf, wg⟩ := w
    simp only [Wall.mk.injEq, true_and] at hwe hin
    obtain ⟨rfl, rfl, rfl⟩ := hwe
    have hsr := sidesOf_rooms hrm (wallsG_ok _ hwm)
    obtain ⟨hLl, -⟩ := id hL
    obtain ⟨hAl, -⟩ := id hA
    refine W.skip ?_
    refine XThen.norm ?_
    refine W.seq ?_
    refine W.block ?_
    refine W.seq_region fun K hK => ?_
    simp (disch := omega) only [↓RU, RV, RH, ↓reduceIte, Nat.reduceEqDiff, reduceCtorEq, if_pos, ↓RS, RG, Nat.reduceAdd, Nat.reduceMul, Nat.reduceLeDiff, tyLimpl_wall, tybool, tyimpl_wall, tyint, tystruct_level_bool_line_int_from_int_long_int_, hMe, hw, wcs_at hw, wcs_len, Y.app, Y.len hLl hAl, Y.get4 hLl hAl, Y.set4 hLl hAl, Wall.cells]
    refine hK _ _ ?_
    clear hK K
    refine W.seq_region fun K hK => ?_
    simp (disch := omega) only [↓RU, RV, RH, ↓reduceIte, Nat.reduceEqDiff, reduceCtorEq, if_pos, ↓RS, RG, Nat.reduceAdd, Nat.reduceMul, Nat.reduceLeDiff, tyLLbool, tyLbool, tybool, tyimpl_orders, tyimpl_relation, tystruct_left_impl_relation_above_impl_relation_, Y.get3 hLl hAl]
    refine hK _ _ ?_
    clear hK K
    refine W.join [0, 2, 3, 27, 28, 29, 5, 6] (fun vs S => vs = [eFloor g rs, .ref 0 0 0, .ref Y.p3 Y.v3 0, eWalls (wallsG g nh nw), .int .i64 (wallsG g nh nw).length, .int .i64 i, .ref (2 * nr + 4) tk 0, (if lv then .loc Y.pA Y.vA 0 nr else .loc Y.pL Y.vL 0 nr)] ∧ S = ⟨Y.f (.arr 0 64 2 [.nils, .nils]) (.arr Y.v3 64 2 [.loc Y.pL Y.vL 0 nr, .loc Y.pA Y.vA 0 nr]) [.arr tk 98 4 [.bool lv, .int .i64 ln, .int .i64 fr, .int .i64 lg]] M.1 M.2, tk + 1⟩) ?_ ?_
    ·
      refine W.seq_region fun K hK => ?_
      simp (disch := omega) only [↓RU, RV, RH, ↓reduceIte, Nat.reduceEqDiff, reduceCtorEq, if_pos, ↓RS, RG, Nat.reduceAdd, Nat.reduceMul, Nat.reduceLeDiff, tybool, tyimpl_wall, tyint, tystruct_level_bool_line_int_from_int_long_int_, Y.get4 hLl hAl]
      refine hK _ _ ?_
      clear hK K
      refine W.cond rfl (fun h1 => ?_) (fun h1 => ?_)
      · try simp only [RL] at h1
        refine W.region_k fun K hK => ?_
        simp (disch := omega) only [↓RU, RV, RH, ↓reduceIte, Nat.reduceEqDiff, reduceCtorEq, if_pos, ↓RS, RG, Nat.reduceAdd, Nat.reduceMul, Nat.reduceLeDiff, tyLLbool, tyLbool, tybool, tyimpl_orders, tyimpl_relation, tystruct_left_impl_relation_above_impl_relation_, Y.get3 hLl hAl]
        refine hK _ _ ?_
        clear hK K
        refine XThen.norm ?_
        refine ⟨_, ?_, take_all⟩
        simp [Env.put, Env.of, h1]
      · try simp only [RL] at h1
        refine W.skip ?_
        refine XThen.norm ?_
        refine ⟨_, ?_, take_all⟩
        simp [Env.put, Env.of, h1]
    rintro vs S - ⟨rfl, rfl⟩
    refine W.seq_region fun K hK => ?_
    simp (disch := omega) only [↓RU, RV, RH, ↓reduceIte, Nat.reduceEqDiff, reduceCtorEq, if_pos, List.append_nil, ↓RS, RG, Nat.reduceAdd, Nat.reduceMul, Nat.reduceLeDiff, tybool, tyimpl_wall, tyint, tystruct_level_bool_line_int_from_int_long_int_, Y.get4 hLl hAl]
    refine CallR.pc (along_pc hg rs hlg fun j a b => (hin j a b).1) rfl (.inl rfl) ?_
    simp (disch := omega) only [↓RU, RV, RH, ↓reduceIte, Nat.reduceEqDiff, reduceCtorEq, if_pos, List.append_nil, ↓RS, RG, Nat.reduceAdd, Nat.reduceMul, Nat.reduceLeDiff, tybool, tyimpl_wall, tyint, tystruct_level_bool_line_int_from_int_long_int_, Y.get4 hLl hAl]
    refine hK _ _ ?_
    clear hK K
    have hs1 : ddp (alongG g lv ln fr lg).1 = (sidesOf g ⟨lv, ln, fr, lg⟩).1 := by simp [sidesOf]
    have hs2 : ddp (alongG g lv ln fr lg).2 = (sidesOf g ⟨lv, ln, fr, lg⟩).2 := by simp [sidesOf]
    rw [hs1, hs2]
    obtain ⟨hsr1, hsr2⟩ := hsr
    have hsl := sidesOf_len hg (wallsG_ok _ hwm)
    generalize hasE : (sidesOf g ⟨lv, ln, fr, lg⟩).1 = av at hsr1 hsl
    generalize hbsE : (sidesOf g ⟨lv, ln, fr, lg⟩).2 = bv at hsr2 hsl
    refine W.seq_region fun K hK => ?_
    simp (disch := omega) only [↓RU, RV, RH, ↓reduceIte, Nat.reduceEqDiff, reduceCtorEq, if_pos, ↓RS, RG, Nat.reduceAdd, Nat.reduceMul, Nat.reduceLeDiff, tyLint, tyint]
    refine hK _ _ ?_
    clear hK K
    refine W.block ?_
    refine W.loop [0, 2, 3, 27, 28, 29, 6, 8, 45, 46, 47] (fun n vs S => ∃ x tk : Nat, n = av.length - x ∧ x ≤ av.length ∧ vs = [eFloor g rs, .ref 0 0 0, .ref Y.p3 Y.v3 0, eWalls (wallsG g nh nw), .int .i64 (wallsG g nh nw).length, .int .i64 i, (if lv then .loc Y.pA Y.vA 0 nr else .loc Y.pL Y.vL 0 nr), eInts bv, eInts av, .int .i64 av.length, .int .i64 x] ∧ S = ⟨Y.f (.arr 0 64 2 [.nils, .nils]) (.arr Y.v3 64 2 [.loc Y.pL Y.vL 0 nr, .loc Y.pA Y.vA 0 nr]) [] (selM lv M (relW (baseM lv M) (av.take x) bv)).1 (selM lv M (relW (baseM lv M) (av.take x) bv)).2, tk⟩) av.length ?_ ?_
    · refine ⟨2 * nr + 4, 0, tk + 1, rfl, by omega, ?_, ?_⟩
      · simp [Env.put, Env.of]
      · rw [Y.take hLl hAl, List.take_zero]; rw [show relW (baseM lv M) [] bv = baseM lv M from rfl, selM_base]
    rintro n vs S - ⟨x, tk, rfl, h_x, rfl, rfl⟩
    refine W.seq_region fun K hK => ?_
    simp (disch := omega) only [↓RU, RV, RH, ↓reduceIte, Nat.reduceEqDiff, reduceCtorEq, if_pos, w64, ↓RS, RG, Nat.reduceAdd, Nat.reduceMul, Nat.reduceLeDiff, tyint]
    refine hK _ _ ?_
    clear hK K
    refine W.seq ?_
    refine W.cond rfl (fun h2 => ?_) (fun h2 => ?_)
    · try simp only [RL] at h2
      obtain ⟨a, ha, ham⟩ := get_of (show x < av.length by omega)
      have hab := hsr1 a ham
      have hX : Sq nr (relW (baseM lv M) (av.take x) bv) := Sq.relW (fun a ha => by have := hsr1 a (List.mem_of_mem_take ha); omega) (baseM_sq hL hA)
      generalize hXe : relW (baseM lv M) (av.take x) bv = X at hX
      have hasl2 := hsl.1
      have hbsl2 := hsl.2
      refine W.skip ?_
      refine XThen.norm ?_
      refine W.seq ?_
      refine W.block ?_
      refine W.seq_region fun K hK => ?_
      simp (disch := omega) only [↓RU, RV, RH, ↓reduceIte, Nat.reduceEqDiff, reduceCtorEq, if_pos, ↓RS, RG, Nat.reduceAdd, Nat.reduceMul, Nat.reduceLeDiff, tyLint, tyint, ha]
      refine hK _ _ ?_
      clear hK K
      refine W.seq_region fun K hK => ?_
      simp (disch := omega) only [↓RU, RV, RH, ↓reduceIte, Nat.reduceEqDiff, reduceCtorEq, if_pos, ↓RS, RG, Nat.reduceAdd, Nat.reduceMul, Nat.reduceLeDiff, tyLint, tyint]
      refine hK _ _ ?_
      clear hK K
      refine W.block ?_
      refine W.loop [0, 2, 3, 27, 28, 29, 6, 8, 45, 46, 47, 10, 51, 52, 53] (fun n vs S => ∃ y tk : Nat, n = bv.length - y ∧ y ≤ bv.length ∧ vs = [eFloor g rs, .ref 0 0 0, .ref Y.p3 Y.v3 0, eWalls (wallsG g nh nw), .int .i64 (wallsG g nh nw).length, .int .i64 i, (if lv then .loc Y.pA Y.vA 0 nr else .loc Y.pL Y.vL 0 nr), eInts bv, eInts av, .int .i64 av.length, .int .i64 x, .int .i64 a, eInts bv, .int .i64 bv.length, .int .i64 y] ∧ S = ⟨Y.f (.arr 0 64 2 [.nils, .nils]) (.arr Y.v3 64 2 [.loc Y.pL Y.vL 0 nr, .loc Y.pA Y.vA 0 nr]) [] (selM lv M (relB a (bv.take y) X)).1 (selM lv M (relB a (bv.take y) X)).2, tk⟩) bv.length ?_ ?_
      · refine ⟨_, 0, tk, rfl, by omega, ?_, take_all_of ?_⟩
        · simp [Env.put, Env.of]
        · rfl
      rintro n vs S - ⟨y, tk, rfl, h_y, rfl, rfl⟩
      refine W.seq_region fun K hK => ?_
      simp (disch := omega) only [↓RU, RV, RH, ↓reduceIte, Nat.reduceEqDiff, reduceCtorEq, if_pos, w64, ↓RS, RG, Nat.reduceAdd, Nat.reduceMul, Nat.reduceLeDiff, tyint]
      refine hK _ _ ?_
      clear hK K
      refine W.seq ?_
      refine W.cond rfl (fun h3 => ?_) (fun h3 => ?_)
      · try simp only [RL] at h3
        obtain ⟨b, hb, hbm⟩ := get_of (show y < bv.length by omega)
        have hbb := hsr2 b hbm
        have hZ : Sq nr (relB a (bv.take y) X) := hX.relB (by omega)
        generalize hZe : relB a (bv.take y) X = Z at hZ
        obtain ⟨a, rfl⟩ : ∃ a2 : Nat, a = a2 := ⟨a.toNat, by omega⟩
        obtain ⟨b, rfl⟩ : ∃ b2 : Nat, b = b2 := ⟨b.toNat, by omega⟩
        obtain ⟨row, hrow, hrl, -⟩ := hZ.at_ (show a < nr by omega) (show b < nr by omega)
        have hZl := hZ.1
        refine W.skip ?_
        refine XThen.norm ?_
        refine W.seq ?_
        refine W.block ?_
        refine W.seq_region fun K hK => ?_
        simp (disch := omega) only [↓RU, RV, RH, ↓reduceIte, Nat.reduceEqDiff, reduceCtorEq, if_pos, ↓RS, RG, Nat.reduceAdd, Nat.reduceMul, Nat.reduceLeDiff, tyLint, tyint, hb]
        refine hK _ _ ?_
        clear hK K
        refine W.region_k fun K hK => ?_
        cases lv
        · skip
          simp only [selM, Bool.false_eq_true, if_false]
          try rw [hZe]
          simp (disch := omega) only [↓RU, RV, RH, ↓reduceIte, Nat.reduceEqDiff, reduceCtorEq, if_pos, ↓RS, RG, Nat.reduceAdd, Nat.reduceMul, Nat.reduceLeDiff, tyLLbool, tyLbool, tybool, tyimpl_relation, Y.getL hZl, Y.getLr hrow, rg_get, hrl, set_spl, set_bool, Y.setL hZl]
          refine hK _ _ ?_
          clear hK K
          refine XBlock.norm ?_
          refine XThen.norm ?_
          refine W.region_k fun K hK => ?_
          simp (disch := omega) only [↓RU, RV, RH, ↓reduceIte, Nat.reduceEqDiff, reduceCtorEq, if_pos, w64, ↓RS, RG, Nat.reduceAdd, Nat.reduceMul, Nat.reduceLeDiff, tyint]
          refine hK _ _ ?_
          clear hK K
          refine XThen.norm ?_
          refine ⟨bv.length - (y + 1), by omega, _, y + 1, tk, rfl, by omega, ?_, take_all_of ?_⟩
          · simp [Env.put, Env.of]
          · rw [relB_tk hb, hZe, Int.toNat_natCast, Int.toNat_natCast, setB_is hrow]; rfl
        · skip
          simp only [selM, if_true]
          try rw [hZe]
          simp (disch := omega) only [↓RU, RV, RH, ↓reduceIte, Nat.reduceEqDiff, reduceCtorEq, if_pos, ↓RS, RG, Nat.reduceAdd, Nat.reduceMul, Nat.reduceLeDiff, tyLLbool, tyLbool, tybool, tyimpl_relation, Y.getA hLl hZl, Y.getAr hLl hrow, rg_get, hrl, set_spl, set_bool, Y.setA hLl hZl]
          refine hK _ _ ?_
          clear hK K
          refine XBlock.norm ?_
          refine XThen.norm ?_
          refine W.region_k fun K hK => ?_
          simp (disch := omega) only [↓RU, RV, RH, ↓reduceIte, Nat.reduceEqDiff, reduceCtorEq, if_pos, w64, ↓RS, RG, Nat.reduceAdd, Nat.reduceMul, Nat.reduceLeDiff, tyint]
          refine hK _ _ ?_
          clear hK K
          refine XThen.norm ?_
          refine ⟨bv.length - (y + 1), by omega, _, y + 1, tk, rfl, by omega, ?_, take_all_of ?_⟩
          · simp [Env.put, Env.of]
          · rw [relB_tk hb, hZe, Int.toNat_natCast, Int.toNat_natCast, setB_is hrow]; rfl
      · try simp only [RL] at h3
        obtain rfl : y = bv.length := by omega
        rw [List.take_length]
        refine W.exit ?_
        refine XThen.exit ?_
        refine XThen.exit ?_
        refine XBlock.hit ?_
        refine XBlock.norm ?_
        refine XThen.norm ?_
        refine W.region_k fun K hK => ?_
        simp (disch := omega) only [↓RU, RV, RH, ↓reduceIte, Nat.reduceEqDiff, reduceCtorEq, if_pos, w64, ↓RS, RG, Nat.reduceAdd, Nat.reduceMul, Nat.reduceLeDiff, tyint]
        refine hK _ _ ?_
        clear hK K
        refine XThen.norm ?_
        refine ⟨av.length - (x + 1), by omega, _, x + 1, tk, rfl, by omega, ?_, take_all_of ?_⟩
        · simp [Env.put, Env.of]
        · rw [relW_tk ha, hXe]
    · try simp only [RL] at h2
      obtain rfl : x = av.length := by omega
      refine W.exit ?_
      refine XThen.exit ?_
      refine XThen.exit ?_
      refine XBlock.hit ?_
      refine XBlock.norm ?_
      refine XThen.norm ?_
      refine W.region_k fun K hK => ?_
      simp (disch := omega) only [↓RU, RV, RH, ↓reduceIte, Nat.reduceEqDiff, reduceCtorEq, if_pos, w64, ↓RS, RG, Nat.reduceAdd, Nat.reduceMul, Nat.reduceLeDiff, tyint]
      refine hK _ _ ?_
      clear hK K
      refine XThen.norm ?_
      refine ⟨(wallsG g nh nw).length - (i + 1), by omega, _, i + 1, tk, rfl, by omega, ?_, take_all_of ?_⟩
      · simp [Env.put, Env.of]
      · rw [foldl_tk hw, hMe, ordW_sel, List.take_length, hasE, hbsE]
  · try simp only [RL] at h
    obtain rfl : i = (wallsG g nh nw).length := by omega
    rw [List.take_length]
    have hLA := ordTo_sq hrm (ws := wallsG g nh nw) wallsG_ok (M := (emptyM nr, emptyM nr)) (emptyM_sq nr) (emptyM_sq nr)
    rw [show (wallsG g nh nw).foldl (ordW g) (emptyM nr, emptyM nr) = ordM g nh nw nr from rfl] at hLA ⊢
    obtain ⟨hL, hA⟩ := hLA
    have hLl := hL.1
    have hAl := hA.1
    have hLc := hL.close
    have hAc := hA.close
    have hLcl := hLc.1
    have hAcl := hAc.1
    refine W.exit ?_
    refine XThen.exit ?_
    refine XThen.exit ?_
    refine XBlock.hit ?_
    refine XThen.norm ?_
    refine W.seq_region fun K hK => ?_
    simp (disch := omega) only [↓RU, RV, RH, ↓reduceIte, Nat.reduceEqDiff, reduceCtorEq, if_pos, List.append_nil, ↓RS, RG, Nat.reduceAdd, Nat.reduceMul, Nat.reduceLeDiff, tyLLbool, tyLbool, tybool, tyimpl_orders, tyimpl_relation, tystruct_left_impl_relation_above_impl_relation_, Y.get3 hLl hAl]
    refine CallR.ev (closeL_ev Y hL hn) ?_
    rintro _ _ ⟨rfl, rfl⟩
    simp (disch := omega) only [↓RU, RV, RH, ↓reduceIte, Nat.reduceEqDiff, reduceCtorEq, if_pos, List.append_nil, ↓RS, RG, Nat.reduceAdd, Nat.reduceMul, Nat.reduceLeDiff, tyLLbool, tyLbool, tybool, tyimpl_orders, tyimpl_relation, tystruct_left_impl_relation_above_impl_relation_, Y.get3 hLl hAl]
    refine hK _ _ ?_
    clear hK K
    refine W.seq_region fun K hK => ?_
    simp (disch := omega) only [↓RU, RV, RH, ↓reduceIte, Nat.reduceEqDiff, reduceCtorEq, if_pos, List.append_nil, ↓RS, RG, Nat.reduceAdd, Nat.reduceMul, Nat.reduceLeDiff, tyLLbool, tyLbool, tybool, tyimpl_orders, tyimpl_relation, tystruct_left_impl_relation_above_impl_relation_, Y.get3 hLcl hAl]
    refine CallR.ev (closeA_ev Y hLcl hA hn) ?_
    rintro _ _ ⟨rfl, rfl⟩
    simp (disch := omega) only [↓RU, RV, RH, ↓reduceIte, Nat.reduceEqDiff, reduceCtorEq, if_pos, List.append_nil, ↓RS, RG, Nat.reduceAdd, Nat.reduceMul, Nat.reduceLeDiff, tyLLbool, tyLbool, tybool, tyimpl_orders, tyimpl_relation, tystruct_left_impl_relation_above_impl_relation_, Y.get3 hLcl hAl]
    refine hK _ _ ?_
    clear hK K
    refine W.seq_region fun K hK => ?_
    simp (disch := omega) only [↓RU, RV, RH, ↓reduceIte, Nat.reduceEqDiff, reduceCtorEq, if_pos, ↓RS, RG, Nat.reduceAdd, Nat.reduceMul, Nat.reduceLeDiff, tyLLbool, tyLbool, tybool, tyimpl_orders, tyimpl_relation, tystruct_left_impl_relation_above_impl_relation_, Y.get3 hLcl hAcl, Y.get0, Y.set0]
    refine hK _ _ ?_
    clear hK K
    refine W.ret ?_
    refine BodyQ.ret (v := .agg [.loc Y.pL Y.vL 0 nr, .loc Y.pA Y.vA 0 nr]) (by simp only [resPV, resList, show Try.f54.results.toList = [.cell 2 64] from rfl, resOne, Env.put, Env.of, Nat.reduceEqDiff, ↓reduceIte, pLoad_ref, co_eq, Y.get0]; rfl) ?_
    exact reify_agg2 (reify_rel (f := 6) hLc (Y.getL hLcl) fun a row h => Y.getLr h) (reify_rel (f := 6) hAc (Y.getA hLcl hAcl) fun a row h => Y.getAr hLcl h)

end Fw
end Go.Proofs.Ytmhcknpjgikgmaa

/-! Heaviest sums, gone through. -/
namespace Go.Proofs.Ytmhcknpjgikgmaa
namespace Fw
open Go

theorem heavy1_ev {M : List (List Bool)} {ws out : List Int} {nr : Nat} {rk : Nat → Nat} (hu : Up M nr rk) (hn : nr ≤ 9) (hwl : ws.length = nr) (hw : NeedOk ws) {b : Nat} (hb : b < nr) (hmo : Memo M ws nr out)
    (ih : ∀ a, a < nr → rk a < rk b → ∀ out0, Memo M ws nr out0 → Ev Try.prog 89 [.int .i64 (a : Nat), .ref 3 3 0, .ref 0 0 0, .ref 4 4 0, .ref 1 1 0] ⟨[.arr 0 62 1 [eRel M], .arr 1 30 1 [eInts ws], .arr 2 3 1 ((out0).map (.int .i64)), .arr 3 30 1 [.loc 2 2 0 nr], .arr 4 87 1 [.fn 89 [.ref 3 3 0, .ref 0 0 0, .ref 4 4 0, .ref 1 1 0]]], 5⟩ (fun v S => v = .int .i64 (HB M ws nr a) ∧ ∃ out2, Memo M ws nr out2 ∧ Keep out0 out2 ∧ out2[a]? = some (HB M ws nr a) ∧ S = ⟨[.arr 0 62 1 [eRel M], .arr 1 30 1 [eInts ws], .arr 2 3 1 ((out2).map (.int .i64)), .arr 3 30 1 [.loc 2 2 0 nr], .arr 4 87 1 [.fn 89 [.ref 3 3 0, .ref 0 0 0, .ref 4 4 0, .ref 1 1 0]]], 5⟩)) : Ev Try.prog 89 [.int .i64 (b : Nat), .ref 3 3 0, .ref 0 0 0, .ref 4 4 0, .ref 1 1 0] ⟨[.arr 0 62 1 [eRel M], .arr 1 30 1 [eInts ws], .arr 2 3 1 ((out).map (.int .i64)), .arr 3 30 1 [.loc 2 2 0 nr], .arr 4 87 1 [.fn 89 [.ref 3 3 0, .ref 0 0 0, .ref 4 4 0, .ref 1 1 0]]], 5⟩ fun v S => v = .int .i64 (HB M ws nr b) ∧ ∃ out2, Memo M ws nr out2 ∧ Keep out out2 ∧ out2[b]? = some (HB M ws nr b) ∧ S = ⟨[.arr 0 62 1 [eRel M], .arr 1 30 1 [eInts ws], .arr 2 3 1 ((out2).map (.int .i64)), .arr 3 30 1 [.loc 2 2 0 nr], .arr 4 87 1 [.fn 89 [.ref 3 3 0, .ref 0 0 0, .ref 4 4 0, .ref 1 1 0]]], 5⟩ := by
  obtain ⟨x0, hx0, hx0c⟩ := hmo.at_ hb
  have hml := hmo.1
  have hsq := hu.sq.1
  have hHb := HB_bound (M := M) (n := nr) hw b
  have hHp := HB_pos (M := M) (n := nr) hw (b := b) (by omega)
  have hHe := HB_eq (ws := ws) hu hb
  obtain ⟨wb, hwb, hwbm⟩ := get_of (show b < ws.length by omega)
  have hwb1 := hw wb hwbm
  rw [getI_is hwb] at hHe
  refine Ev.of ⟨Try.func89, by kernel_rfl, rfl, by kernel_rfl⟩ tabOk mixed (by show 5 ≤ Try.f89.ntmps; decide) ?_
  refine W.seq_region fun K hK => ?_
  simp (disch := omega) only [↓RU, RV, RH, ↓reduceIte, Nat.reduceEqDiff, reduceCtorEq, if_pos, ↓RS, RG, Nat.reduceAdd, Nat.reduceMul, Nat.reduceLeDiff]
  refine hK _ _ ?_
  clear hK K
  refine W.seq ?_
  refine W.seq_region fun K hK => ?_
  simp (disch := omega) only [↓RU, RV, RH, ↓reduceIte, Nat.reduceEqDiff, reduceCtorEq, if_pos, w64, ↓RS, RG, Nat.reduceAdd, Nat.reduceMul, Nat.reduceLeDiff, tyLint, tyint, hx0]
  refine hK _ _ ?_
  clear hK K
  refine W.cond rfl (fun h0 => ?_) (fun h0 => ?_)
  · try simp only [RL] at h0
    subst h0
    refine W.seq_region fun K hK => ?_
    simp (disch := omega) only [↓RU, RV, RH, ↓reduceIte, Nat.reduceEqDiff, reduceCtorEq, if_pos, ↓RS, RG, Nat.reduceAdd, Nat.reduceMul, Nat.reduceLeDiff]
    refine hK _ _ ?_
    clear hK K
    refine W.seq ?_
    refine W.seq_region fun K hK => ?_
    simp (disch := omega) only [↓RU, RV, RH, ↓reduceIte, Nat.reduceEqDiff, reduceCtorEq, if_pos, ↓RS, RG, Nat.reduceAdd, Nat.reduceMul, Nat.reduceLeDiff, tyLLbool, tyLbool, tybool, tyimpl_relation, hsq]
    refine hK _ _ ?_
    clear hK K
    refine W.block ?_
    refine W.loop [0, 1, 2, 3, 4, 7, 15, 16] (fun n vs S => ∃ (a : Nat) (out1 : List Int), n = nr - a ∧ a ≤ nr ∧ Memo M ws nr out1 ∧ Keep out out1 ∧ vs = [.int .i64 (b : Nat), .ref 3 3 0, .ref 0 0 0, .ref 4 4 0, .ref 1 1 0, .int .i64 (hvF M (HB M ws nr) b a), .int .i64 nr, .int .i64 a] ∧ S = ⟨[.arr 0 62 1 [eRel M], .arr 1 30 1 [eInts ws], .arr 2 3 1 ((out1).map (.int .i64)), .arr 3 30 1 [.loc 2 2 0 nr], .arr 4 87 1 [.fn 89 [.ref 3 3 0, .ref 0 0 0, .ref 4 4 0, .ref 1 1 0]]], 5⟩) nr ?_ ?_
    · refine ⟨5, 0, out, rfl, by omega, hmo, Keep.refl _, ?_, rfl⟩
      simp [Env.put, Env.of, argEnv, hvF, hsq]
    rintro n vs S - ⟨a, out1, rfl, h_a, hm1, hk1, rfl, rfl⟩
    refine W.seq_region fun K hK => ?_
    simp (disch := omega) only [↓RU, RV, RH, ↓reduceIte, Nat.reduceEqDiff, reduceCtorEq, if_pos, w64, ↓RS, RG, Nat.reduceAdd, Nat.reduceMul, Nat.reduceLeDiff, tyint]
    refine hK _ _ ?_
    clear hK K
    refine W.seq ?_
    refine W.cond rfl (fun h1 => ?_) (fun h1 => ?_)
    · try simp only [RL] at h1
      have hal : a < nr := by omega
      have hF := hvF_bound (M := M) (g := HB M ws nr) (b := b) (B := 909) (by omega) (i := a) fun a _ _ => (HB_bound hw a).2
      have hHa := HB_bound (M := M) (n := nr) hw a
      obtain ⟨row, hrow, hrl, hrb⟩ := hu.sq.at_ hal hb
      refine W.skip ?_
      refine XThen.norm ?_
      refine W.seq ?_
      refine W.block ?_
      refine W.seq_region fun K hK => ?_
      simp (disch := omega) only [↓RU, RV, RH, ↓reduceIte, Nat.reduceEqDiff, reduceCtorEq, if_pos, ↓RS, RG, Nat.reduceAdd, Nat.reduceMul, Nat.reduceLeDiff]
      refine hK _ _ ?_
      clear hK K
      refine W.seq_region fun K hK => ?_
      simp (disch := omega) only [↓RU, RV, RH, ↓reduceIte, Nat.reduceEqDiff, reduceCtorEq, if_pos, ↓RS, RG, Nat.reduceAdd, Nat.reduceMul, Nat.reduceLeDiff, tyLLbool, tyLbool, tybool, tyimpl_relation, hrow, hrb, hrl]
      refine hK _ _ ?_
      clear hK K
      refine W.cond rfl (fun h2 => ?_) (fun h2 => ?_)
      · try simp only [RL] at h2
        have hrk := hu.up a b hal hb h2
        refine W.region_k fun K hK => ?_
        simp (disch := omega) only [↓RU, RV, RH, ↓reduceIte, Nat.reduceEqDiff, reduceCtorEq, if_pos, List.append_nil, ite_max, ↓RS, RG, Nat.reduceAdd, Nat.reduceMul, Nat.reduceLeDiff, tyfunc_int_int, tyint]
        refine CallR.ev (ih a hal hrk out1 hm1) ?_
        rintro _ _ ⟨rfl, out2, hm2, hk2, ho2, rfl⟩
        simp (disch := omega) only [↓RU, RV, RH, ↓reduceIte, Nat.reduceEqDiff, reduceCtorEq, if_pos, List.append_nil, ite_max, ↓RS, RG, Nat.reduceAdd, Nat.reduceMul, Nat.reduceLeDiff, tyfunc_int_int, tyint]
        refine hK _ _ ?_
        clear hK K
        refine XBlock.norm ?_
        refine XThen.norm ?_
        refine W.region_k fun K hK => ?_
        simp (disch := omega) only [↓RU, RV, RH, ↓reduceIte, Nat.reduceEqDiff, reduceCtorEq, if_pos, w64, ↓RS, RG, Nat.reduceAdd, Nat.reduceMul, Nat.reduceLeDiff, tyint]
        refine hK _ _ ?_
        clear hK K
        refine XThen.norm ?_
        refine ⟨nr - (a + 1), by omega, 5, a + 1, out2, rfl, by omega, hm2, hk1.trans hk2, ?_, rfl⟩
        simp [Env.put, Env.of, hvF_succ, h2]
      · try simp only [RL] at h2
        refine W.skip ?_
        refine XBlock.norm ?_
        refine XThen.norm ?_
        refine W.region_k fun K hK => ?_
        simp (disch := omega) only [↓RU, RV, RH, ↓reduceIte, Nat.reduceEqDiff, reduceCtorEq, if_pos, w64, ↓RS, RG, Nat.reduceAdd, Nat.reduceMul, Nat.reduceLeDiff, tyint]
        refine hK _ _ ?_
        clear hK K
        refine XThen.norm ?_
        refine ⟨nr - (a + 1), by omega, 5, a + 1, out1, rfl, by omega, hm1, hk1, ?_, rfl⟩
        simp [Env.put, Env.of, hvF_succ, h2]
    · try simp only [RL] at h1
      obtain rfl : nr = a := by omega
      have hF := hvF_bound (M := M) (g := HB M ws nr) (b := b) (B := 909) (by omega) (i := nr) fun a _ _ => (HB_bound hw a).2
      have hm1l := hm1.1
      have hset : (out1.set b (HB M ws nr b))[b]? = some (HB M ws nr b) := by rw [List.getElem?_set, if_pos rfl, if_pos (by omega)]
      refine W.exit ?_
      refine XThen.exit ?_
      refine XThen.exit ?_
      refine XBlock.hit ?_
      refine XThen.norm ?_
      refine W.draw_k (by kernel_rfl) fun K hK => ?_
      simp (disch := omega) only [↓RU, RV, RH, ↓reduceIte, Nat.reduceEqDiff, reduceCtorEq, if_pos, w64, ↓RS, RG, Nat.reduceAdd, Nat.reduceMul, Nat.reduceLeDiff, tyLint, tyint, hwb, hm1l, set_spl, set_int, ← hHe]
      refine hK _ _ ?_
      clear hK K
      refine XThen.norm ?_
      refine W.seq_region fun K hK => ?_
      simp (disch := omega) only [↓RU, RV, RH, ↓reduceIte, Nat.reduceEqDiff, reduceCtorEq, if_pos, ↓RS, RG, Nat.reduceAdd, Nat.reduceMul, Nat.reduceLeDiff, tyLint, tyint, hset]
      refine hK _ _ ?_
      clear hK K
      refine W.ret ?_
      refine BodyQ.ret rfl ?_
      exact ⟨5, rfl, _, hm1.set, hk1.trans hm1.keep, hset, rfl⟩
  · try simp only [RL] at h0
    obtain rfl := hx0c.resolve_left h0
    have hset := hx0
    refine W.skip ?_
    refine XThen.norm ?_
    refine W.seq_region fun K hK => ?_
    simp (disch := omega) only [↓RU, RV, RH, ↓reduceIte, Nat.reduceEqDiff, reduceCtorEq, if_pos, ↓RS, RG, Nat.reduceAdd, Nat.reduceMul, Nat.reduceLeDiff, tyLint, tyint, hset]
    refine hK _ _ ?_
    clear hK K
    refine W.ret ?_
    refine BodyQ.ret rfl ?_
    exact ⟨5, rfl, _, hmo, Keep.refl _, hx0, rfl⟩

theorem heavy_ev {M : List (List Bool)} {ws : List Int} {nr : Nat} {rk : Nat → Nat} (hu : Up M nr rk) (hn : nr ≤ 9) (hwl : ws.length = nr) (hw : NeedOk ws) : ∀ (k b : Nat), rk b < k → b < nr → ∀ out, Memo M ws nr out → Ev Try.prog 89 [.int .i64 (b : Nat), .ref 3 3 0, .ref 0 0 0, .ref 4 4 0, .ref 1 1 0] ⟨[.arr 0 62 1 [eRel M], .arr 1 30 1 [eInts ws], .arr 2 3 1 ((out).map (.int .i64)), .arr 3 30 1 [.loc 2 2 0 nr], .arr 4 87 1 [.fn 89 [.ref 3 3 0, .ref 0 0 0, .ref 4 4 0, .ref 1 1 0]]], 5⟩ (fun v S => v = .int .i64 (HB M ws nr b) ∧ ∃ out2, Memo M ws nr out2 ∧ Keep out out2 ∧ out2[b]? = some (HB M ws nr b) ∧ S = ⟨[.arr 0 62 1 [eRel M], .arr 1 30 1 [eInts ws], .arr 2 3 1 ((out2).map (.int .i64)), .arr 3 30 1 [.loc 2 2 0 nr], .arr 4 87 1 [.fn 89 [.ref 3 3 0, .ref 0 0 0, .ref 4 4 0, .ref 1 1 0]]], 5⟩)
  | 0, b, h, _, _, _ => by omega
  | k + 1, b, h, hb, out, hm => heavy1_ev hu hn hwl hw hb hm fun a ha hr out0 h0 => heavy_ev hu hn hwl hw k a (by omega) ha out0 h0

theorem heaviest_pn {M : List (List Bool)} {ws : List Int} {nr : Nat} {rk : Nat → Nat} (hu : Up M nr rk) (hn : nr ≤ 9) (hwl : ws.length = nr) (hw : NeedOk ws) : PN Try.prog 55 [eRel M, eInts ws] (.loc 0 0 0 nr) [.arr 0 3 1 ((heaviest M ws nr).map (.int .i64))] false := by
  have hsq := hu.sq.1
  refine PN.of ⟨Try.func55, by kernel_rfl, rfl, by kernel_rfl⟩ tabOk mixed (by show 2 ≤ Try.f55.ntmps; decide) ?_
  refine W.seq_region fun K hK => ?_
  simp (disch := omega) only [↓RU, RV, RH, ↓reduceIte, Nat.reduceEqDiff, reduceCtorEq, if_pos, ↓RS, RG, Nat.reduceAdd, Nat.reduceMul, Nat.reduceLeDiff, tyLLbool, tyLbool, tyLint, tybool, tyimpl_relation, tyint]
  refine hK _ _ ?_
  clear hK K
  refine W.seq_region fun K hK => ?_
  simp (disch := omega) only [↓RU, RV, RH, ↓reduceIte, Nat.reduceEqDiff, reduceCtorEq, if_pos, ↓RS, RG, Nat.reduceAdd, Nat.reduceMul, Nat.reduceLeDiff, tyLLbool, tyLbool, tyLint, tybool, tyimpl_relation, tyint, hsq, repz_int, ile_true]
  refine hK _ _ ?_
  clear hK K
  refine W.seq_region fun K hK => ?_
  simp (disch := omega) only [↓RU, RV, RH, ↓reduceIte, Nat.reduceEqDiff, reduceCtorEq, if_pos, ↓RS, RG, Nat.reduceAdd, Nat.reduceMul, Nat.reduceLeDiff, tyfunc_int_int]
  refine hK _ _ ?_
  clear hK K
  refine W.seq_region fun K hK => ?_
  simp (disch := omega) only [↓RU, RV, RH, ↓reduceIte, Nat.reduceEqDiff, reduceCtorEq, if_pos, ↓RS, RG, Nat.reduceAdd, Nat.reduceMul, Nat.reduceLeDiff, tyfunc_int_int, cells_fn, ic_fn]
  refine hK _ _ ?_
  clear hK K
  refine W.seq ?_
  refine W.seq_region fun K hK => ?_
  simp (disch := omega) only [↓RU, RV, RH, ↓reduceIte, Nat.reduceEqDiff, reduceCtorEq, if_pos, ↓RS, RG, Nat.reduceAdd, Nat.reduceMul, Nat.reduceLeDiff, tyLLbool, tyLbool, tybool, tyimpl_relation, hsq]
  refine hK _ _ ?_
  clear hK K
  refine W.block ?_
  refine W.loop [5, 6, 13, 14] (fun n vs S => ∃ (b : Nat) (out : List Int), n = nr - b ∧ b ≤ nr ∧ Memo M ws nr out ∧ (∀ c, c < b → out[c]? = some (HB M ws nr c)) ∧ vs = [.ref 3 3 0, .ref 4 4 0, .int .i64 nr, .int .i64 b] ∧ S = ⟨[.arr 0 62 1 [eRel M], .arr 1 30 1 [eInts ws], .arr 2 3 1 ((out).map (.int .i64)), .arr 3 30 1 [.loc 2 2 0 nr], .arr 4 87 1 [.fn 89 [.ref 3 3 0, .ref 0 0 0, .ref 4 4 0, .ref 1 1 0]]], 5⟩) nr ?_ ?_
  · refine ⟨5, 0, List.replicate nr 0, rfl, by omega, memo_zero, fun c h => absurd h (by omega), ?_, ?_⟩
    · simp [Env.put, Env.of, argEnv, hsq]
    · simp [take_eq, spl, hsq]
  rintro n vs S - ⟨b, out, rfl, h_b, hm, hdone, rfl, rfl⟩
  refine W.seq_region fun K hK => ?_
  simp (disch := omega) only [↓RU, RV, RH, ↓reduceIte, Nat.reduceEqDiff, reduceCtorEq, if_pos, w64, ↓RS, RG, Nat.reduceAdd, Nat.reduceMul, Nat.reduceLeDiff, tyint]
  refine hK _ _ ?_
  clear hK K
  refine W.seq ?_
  refine W.cond rfl (fun h => ?_) (fun h => ?_)
  · try simp only [RL] at h
    have hbn : b < nr := by omega
    refine W.skip ?_
    refine XThen.norm ?_
    refine W.seq ?_
    refine W.block ?_
    refine W.seq_region fun K hK => ?_
    simp (disch := omega) only [↓RU, RV, RH, ↓reduceIte, Nat.reduceEqDiff, reduceCtorEq, if_pos, ↓RS, RG, Nat.reduceAdd, Nat.reduceMul, Nat.reduceLeDiff]
    refine hK _ _ ?_
    clear hK K
    refine W.region_k fun K hK => ?_
    simp (disch := omega) only [↓RU, RV, RH, ↓reduceIte, Nat.reduceEqDiff, reduceCtorEq, if_pos, List.append_nil, ↓RS, RG, Nat.reduceAdd, Nat.reduceMul, Nat.reduceLeDiff, tyfunc_int_int]
    refine CallR.ev (heavy_ev hu hn hwl hw (rk b + 1) b (by omega) hbn out hm) ?_
    rintro _ _ ⟨rfl, out2, hm2, hk2, ho2, rfl⟩
    simp (disch := omega) only [↓RU, RV, RH, ↓reduceIte, Nat.reduceEqDiff, reduceCtorEq, if_pos, List.append_nil, ↓RS, RG, Nat.reduceAdd, Nat.reduceMul, Nat.reduceLeDiff, tyfunc_int_int]
    refine hK _ _ ?_
    clear hK K
    refine XBlock.norm ?_
    refine XThen.norm ?_
    refine W.region_k fun K hK => ?_
    simp (disch := omega) only [↓RU, RV, RH, ↓reduceIte, Nat.reduceEqDiff, reduceCtorEq, if_pos, w64, ↓RS, RG, Nat.reduceAdd, Nat.reduceMul, Nat.reduceLeDiff, tyint]
    refine hK _ _ ?_
    clear hK K
    refine XThen.norm ?_
    refine ⟨nr - (b + 1), by omega, 5, b + 1, out2, rfl, by omega, hm2, ?_, ?_, rfl⟩
    · intro c hc
      by_cases e : c = b
      · subst e; exact ho2
      · have h1 := hdone c (by omega)
        exact hk2 c _ h1 (by have := HB_pos (M := M) (n := nr) hw (b := c) (by omega); omega)
    · simp [Env.put, Env.of]
  · try simp only [RL] at h
    obtain rfl : nr = b := by omega
    obtain rfl := memo_all hm hdone
    refine W.exit ?_
    refine XThen.exit ?_
    refine XThen.exit ?_
    refine XBlock.hit ?_
    refine XThen.norm ?_
    refine W.joinS [4] (fun vs S => ∃ v t : Nat, vs = [.loc 0 v 0 nr] ∧ S = ⟨[.arr v 3 1 ((heaviest M ws nr).map (.int .i64))], t⟩) ?_ ?_
    ·
      refine W.region_k fun K hK => ?_
      simp (disch := omega) only [↓RU, RV, RH, ↓reduceIte, Nat.reduceEqDiff, reduceCtorEq, if_pos, ↓RS, RG, Nat.reduceAdd, Nat.reduceMul, Nat.reduceLeDiff, tyLint, tyint]
      refine hK _ _ ?_
      clear hK K
      refine XThen.norm ?_
      refine ⟨0, [2], [.loc 0 5 0 nr], ⟨[.arr 5 3 1 ((heaviest M ws nr).map (.int .i64))], 6⟩, ?_, ?_, 5, 6, rfl, rfl⟩
      · simp [-List.mapM_map, Env.put, Env.of, argEnv, Srn_eq, rnObs_cons, rnObs_nil, rnOb_arr, rnOb_map, rn_loc, rn_ref, rn_mp, rn_int, rn_bool, rn_str, rn_ip, rn_sl, rn_nils, rn_nilp, rn_undef, rn_agg, rn_tup, rn_fn, rfq_loc, rfq_int, rfq_bool, rfq_str, rfq_sl, frOf, List.range_succ, List.mapM_append, List.mapM_cons]
      · simp [-List.mapM_map, Env.put, Env.of, argEnv, Srn_eq, rnObs_cons, rnObs_nil, rnOb_arr, rnOb_map, rn_loc, rn_ref, rn_mp, rn_int, rn_bool, rn_str, rn_ip, rn_sl, rn_nils, rn_nilp, rn_undef, rn_agg, rn_tup, rn_fn, rfq_loc, rfq_int, rfq_bool, rfq_str, rfq_sl, frOf, List.range_succ, List.mapM_append, List.mapM_cons, rn_ints]
    rintro vs S - ⟨v, t, rfl, rfl⟩
    refine W.ret ?_
    refine BodyQ.ret rfl ?_
    exact sh_one rfl (sh_ints _)

theorem max_pc {l : List Int} {x0 : Int} (h0 : l[0]? = some x0) (hl : l.length < 2147483648) : PC Try.prog 60 [eInts l] (.int .i64 (maxL l)) true := by
  have hl0 := len_of h0
  refine PC.of ⟨Try.func60, by kernel_rfl, rfl, by kernel_rfl⟩ tabOk mixed (by show 1 ≤ Try.f60.ntmps; decide) ?_
  refine W.seq_region fun K hK => ?_
  simp (disch := omega) only [↓RU, RV, RH, ↓reduceIte, Nat.reduceEqDiff, reduceCtorEq, if_pos]
  refine hK _ _ ?_
  clear hK K
  refine W.seq ?_
  refine W.seq_region fun K hK => ?_
  simp (disch := omega) only [↓RU, RV, RH, ↓reduceIte, Nat.reduceEqDiff, reduceCtorEq, if_pos, w64, tyLint, tyint]
  refine hK _ _ ?_
  clear hK K
  refine W.cond rfl (fun h => ?_) (fun h => ?_)
  · try simp only [RL] at h
    exfalso; omega
  · try simp only [RL] at h
    refine W.skip ?_
    refine XThen.norm ?_
    refine W.seq_region fun K hK => ?_
    simp (disch := omega) only [↓RU, RV, RH, ↓reduceIte, Nat.reduceEqDiff, reduceCtorEq, if_pos, tyLint, tyint, h0, Int.toNat_zero, Nat.zero_mul, Int.reduceToNat]
    refine hK _ _ ?_
    clear hK K
    refine W.seq ?_
    refine W.seq_region fun K hK => ?_
    simp (disch := omega) only [↓RU, RV, RH, ↓reduceIte, Nat.reduceEqDiff, reduceCtorEq, if_pos]
    refine hK _ _ ?_
    clear hK K
    refine W.block ?_
    refine W.loop [0, 3, 4] (fun n vs S => ∃ i : Nat, n = l.length - i ∧ i ≤ l.length ∧ (1 ≤ i) ∧ vs = [eInts l, .int .i64 (((l.take i).drop 1).foldl max x0), .int .i64 i] ∧ S = ⟨[], 0⟩) (l.length - 1) ?_ ?_
    · refine ⟨0, 1, rfl, by omega, Nat.le_refl _, ?_, rfl⟩
      simp [Env.put, Env.of, argEnv, maxL_start]
    rintro n vs S - ⟨i, rfl, h_i, h1i, rfl, rfl⟩
    refine W.seq ?_
    refine W.seq_region fun K hK => ?_
    simp (disch := omega) only [↓RU, RV, RH, ↓reduceIte, Nat.reduceEqDiff, reduceCtorEq, if_pos, w64, tyLint, tyint]
    refine hK _ _ ?_
    clear hK K
    refine W.cond rfl (fun h1 => ?_) (fun h1 => ?_)
    · try simp only [RL] at h1
      obtain ⟨x, hx, -⟩ := get_of (show i < l.length by omega)
      refine W.skip ?_
      refine XThen.norm ?_
      refine W.seq ?_
      refine W.block ?_
      refine W.region_k fun K hK => ?_
      simp (disch := omega) only [↓RU, RV, RH, ↓reduceIte, Nat.reduceEqDiff, reduceCtorEq, if_pos, ite_max, tyLint, tyint, hx]
      refine hK _ _ ?_
      clear hK K
      refine XBlock.norm ?_
      refine XThen.norm ?_
      refine W.region_k fun K hK => ?_
      simp (disch := omega) only [↓RU, RV, RH, ↓reduceIte, Nat.reduceEqDiff, reduceCtorEq, if_pos, w64, tyint]
      refine hK _ _ ?_
      clear hK K
      refine XThen.norm ?_
      refine ⟨l.length - (i + 1), by omega, 0, i + 1, rfl, by omega, by omega, ?_, rfl⟩
      rw [maxL_step h1i hx]
      simp [Env.put, Env.of]
    · try simp only [RL] at h1
      refine W.exit ?_
      refine XThen.exit ?_
      refine XThen.exit ?_
      refine XBlock.hit ?_
      refine XThen.norm ?_
      refine W.seq_region fun K hK => ?_
      simp (disch := omega) only [↓RU, RV, RH, ↓reduceIte, Nat.reduceEqDiff, reduceCtorEq, if_pos]
      refine hK _ _ ?_
      clear hK K
      refine W.ret ?_
      refine BodyQ.ret rfl ?_
      rw [maxL_end h0 (by omega)]
      rfl

end Fw
end Go.Proofs.Ytmhcknpjgikgmaa

/-! Sort, gone through. -/
namespace Go.Proofs.Ytmhcknpjgikgmaa
namespace Fw
open Go

theorem isNaN_pc {x : Int} : PC Try.prog 172 [.int .i64 x] (.bool false) true := by
  refine PC.of ⟨Try.func172, by kernel_rfl, rfl, by kernel_rfl⟩ tabOk mixed (by show 1 ≤ Try.f172.ntmps; decide) ?_
  refine W.seq_region fun K hK => ?_
  simp (disch := omega) only [↓RU, RV, RH, ↓reduceIte, Nat.reduceEqDiff, reduceCtorEq, if_pos]
  refine hK _ _ ?_
  clear hK K
  refine W.seq_region fun K hK => ?_
  simp (disch := omega) only [↓RU, RV, RH, ↓reduceIte, Nat.reduceEqDiff, reduceCtorEq, if_pos, w64, tyint]
  refine hK _ _ ?_
  clear hK K
  refine W.ret ?_
  refine BodyQ.ret rfl ?_
  rw [show (x != x) = false by simp]
  rfl

theorem less_pc {x y : Int} : PC Try.prog 166 [.int .i64 x, .int .i64 y] (.bool (decide (x < y))) true := by
  refine PC.of ⟨Try.func166, by kernel_rfl, rfl, by kernel_rfl⟩ tabOk mixed (by show 2 ≤ Try.f166.ntmps; decide) ?_
  refine W.seq_region fun K hK => ?_
  simp (disch := omega) only [↓RU, RV, RH, ↓reduceIte, Nat.reduceEqDiff, reduceCtorEq, if_pos]
  refine hK _ _ ?_
  clear hK K
  refine W.seq_region fun K hK => ?_
  simp (disch := omega) only [↓RU, RV, RH, ↓reduceIte, Nat.reduceEqDiff, reduceCtorEq, if_pos, List.append_nil, w64, tyint]
  refine CallR.pc (isNaN_pc) rfl (.inl rfl) ?_
  simp (disch := omega) only [↓RU, RV, RH, ↓reduceIte, Nat.reduceEqDiff, reduceCtorEq, if_pos, List.append_nil, w64, tyint]
  refine hK _ _ ?_
  clear hK K
  refine W.ret ?_
  refine BodyQ.ret rfl ?_
  rfl

theorem insort_ev {F R : List Ob} {ver t : Nat} {l : List Int} (hl : l.length < 2147483648) (h1 : 1 ≤ l.length) : Ev Try.prog 160 [.loc F.length ver 0 l.length, .int .i64 0, .int .i64 l.length] ⟨F ++ .arr ver 3 1 (l.map (.int .i64)) :: R, t⟩ fun v S => v = .tup [] ∧ ∃ z : List Int, z.Perm l ∧ z.Pairwise (· ≤ ·) ∧ S = ⟨F ++ .arr ver 3 1 (z.map (.int .i64)) :: R, t⟩ := by
  refine Ev.of ⟨Try.func160, by kernel_rfl, rfl, by kernel_rfl⟩ tabOk mixed (by show 3 ≤ Try.f160.ntmps; decide) ?_
  refine W.seq_region fun K hK => ?_
  simp (disch := omega) only [↓RU, RV, RH, ↓reduceIte, Nat.reduceEqDiff, reduceCtorEq, if_pos, w64, ↓RS, RG, Nat.reduceAdd, Nat.reduceMul, Nat.reduceLeDiff, tyint, gF, setF]
  refine hK _ _ ?_
  clear hK K
  refine W.block ?_
  refine W.loop [0, 1, 2, 6] (fun n vs S => ∃ (i : Nat) (c : List Int), n = l.length - i ∧ 1 ≤ i ∧ i ≤ l.length ∧ c.Perm l ∧ Ord c i ∧ vs = [.loc F.length ver 0 l.length, .int .i64 0, .int .i64 l.length, .int .i64 i] ∧ S = ⟨F ++ .arr ver 3 1 (c.map (.int .i64)) :: R, t⟩) (l.length - 1) ?_ ?_
  · refine ⟨_, 1, l, rfl, Nat.le_refl _, h1, List.Perm.refl _, Ord.one l, ?_, take_all⟩
    simp [Env.put, Env.of, argEnv]
  rintro n vs S - ⟨i, c, rfl, hi1, h_i, hp, ho, rfl, rfl⟩
  refine W.seq ?_
  refine W.seq_region fun K hK => ?_
  simp (disch := omega) only [↓RU, RV, RH, ↓reduceIte, Nat.reduceEqDiff, reduceCtorEq, if_pos, w64, ↓RS, RG, Nat.reduceAdd, Nat.reduceMul, Nat.reduceLeDiff, tyint, gF, setF]
  refine hK _ _ ?_
  clear hK K
  refine W.cond rfl (fun h => ?_) (fun h => ?_)
  · try simp only [RL] at h
    refine W.skip ?_
    refine XThen.norm ?_
    refine W.seq ?_
    refine W.block ?_
    refine W.seq_region fun K hK => ?_
    simp (disch := omega) only [↓RU, RV, RH, ↓reduceIte, Nat.reduceEqDiff, reduceCtorEq, if_pos, ↓RS, RG, Nat.reduceAdd, Nat.reduceMul, Nat.reduceLeDiff, gF, setF]
    refine hK _ _ ?_
    clear hK K
    refine W.block ?_
    refine W.loop [0, 1, 2, 6, 7] (fun n vs S => ∃ (j : Nat) (d : List Int), n = j + 1 ∧ j ≤ i ∧ d.Perm l ∧ InsO d j i ∧ vs = [.loc F.length ver 0 l.length, .int .i64 0, .int .i64 l.length, .int .i64 i, .int .i64 j] ∧ S = ⟨F ++ .arr ver 3 1 (d.map (.int .i64)) :: R, t⟩) (i + 1) ?_ ?_
    · refine ⟨_, i, c, rfl, Nat.le_refl _, hp, ho.ins, ?_, take_all⟩
      simp [Env.put, Env.of]
    rintro n vs S - ⟨j, d, rfl, h_j, hq, hO, rfl, rfl⟩
    refine W.seq ?_
    refine W.seq_draw (by kernel_rfl) fun K hK => ?_
    cases hd : decide ((j : Int) > 0)
    · skip
      obtain rfl : j = 0 := by simpa using hd
      simp (disch := omega) only [↓RU, RV, RH, ↓reduceIte, Nat.reduceEqDiff, reduceCtorEq, if_pos, w64, List.append_nil, ↓RS, RG, Nat.reduceAdd, Nat.reduceMul, Nat.reduceLeDiff, tyLint, tyint, gF, setF, hd]
      refine hK _ _ ?_
      clear hK K
      refine W.cond rfl (fun h2 => ?_) (fun h2 => ?_)
      · try simp only [RL] at h2
        exact absurd h2 (by simp)
      · try simp only [RL] at h2
        have hO2 : Ord d (i + 1) := hO.zero
        refine W.exit ?_
        refine XThen.exit ?_
        refine XThen.exit ?_
        refine XBlock.hit ?_
        refine XBlock.norm ?_
        refine XThen.norm ?_
        refine W.region_k fun K hK => ?_
        simp (disch := omega) only [↓RU, RV, RH, ↓reduceIte, Nat.reduceEqDiff, reduceCtorEq, if_pos, w64, ↓RS, RG, Nat.reduceAdd, Nat.reduceMul, Nat.reduceLeDiff, tyint, gF, setF]
        refine hK _ _ ?_
        clear hK K
        refine XThen.norm ?_
        refine ⟨l.length - (i + 1), by omega, _, i + 1, d, rfl, by omega, by omega, hq, hO2, ?_, take_all⟩
        simp [Env.put, Env.of]
    · skip
      have hj0 : j ≠ 0 := by have := of_decide_eq_true hd; omega
      have hdl := hq.length_eq
      obtain ⟨x, hx, -⟩ := get_of (show j < d.length by omega)
      obtain ⟨y, hy, -⟩ := get_of (show j - 1 < d.length by omega)
      simp (disch := omega) only [↓RU, RV, RH, ↓reduceIte, Nat.reduceEqDiff, reduceCtorEq, if_pos, w64, List.append_nil, ↓RS, RG, Nat.reduceAdd, Nat.reduceMul, Nat.reduceLeDiff, tyLint, tyint, gF, setF, hd, hx, hy, toNat_pred]
      refine CallR.pc (less_pc (x := x) (y := y)) rfl (.inl rfl) ?_
      simp (disch := omega) only [↓RU, RV, RH, ↓reduceIte, Nat.reduceEqDiff, reduceCtorEq, if_pos, w64, List.append_nil, ↓RS, RG, Nat.reduceAdd, Nat.reduceMul, Nat.reduceLeDiff, tyLint, tyint, gF, setF, hd, hx, hy, toNat_pred]
      refine hK _ _ ?_
      clear hK K
      refine W.cond rfl (fun h2 => ?_) (fun h2 => ?_)
      · try simp only [RL] at h2
        have hjl := len_of hx
        have hsl : (d.set j y).length = d.length := by simp
        refine W.skip ?_
        refine XThen.norm ?_
        refine W.seq ?_
        refine W.block ?_
        refine W.draw_k (by kernel_rfl) fun K hK => ?_
        simp (disch := omega) only [↓RU, RV, RH, ↓reduceIte, Nat.reduceEqDiff, reduceCtorEq, if_pos, w64, ↓RS, RG, Nat.reduceAdd, Nat.reduceMul, Nat.reduceLeDiff, tyLint, tyint, gF, setF, hx, hy, toNat_pred, set_spl, set_int, List.length_set]
        refine hK _ _ ?_
        clear hK K
        refine XBlock.norm ?_
        refine XThen.norm ?_
        refine W.region_k fun K hK => ?_
        simp (disch := omega) only [↓RU, RV, RH, ↓reduceIte, Nat.reduceEqDiff, reduceCtorEq, if_pos, w64, ↓RS, RG, Nat.reduceAdd, Nat.reduceMul, Nat.reduceLeDiff, tyint, gF, setF]
        refine hK _ _ ?_
        clear hK K
        refine XThen.norm ?_
        refine ⟨j - 1 + 1, by omega, _, j - 1, (d.set j y).set (j - 1) x, rfl, by omega, swap_perm hq hx hy, hO.swap hj0 h_j hx hy h2, ?_, take_all⟩
        simp [Env.put, Env.of]; omega
      · try simp only [RL] at h2
        have hO2 : Ord d (i + 1) := hO.stop hx hy h2
        refine W.exit ?_
        refine XThen.exit ?_
        refine XThen.exit ?_
        refine XBlock.hit ?_
        refine XBlock.norm ?_
        refine XThen.norm ?_
        refine W.region_k fun K hK => ?_
        simp (disch := omega) only [↓RU, RV, RH, ↓reduceIte, Nat.reduceEqDiff, reduceCtorEq, if_pos, w64, ↓RS, RG, Nat.reduceAdd, Nat.reduceMul, Nat.reduceLeDiff, tyint, gF, setF]
        refine hK _ _ ?_
        clear hK K
        refine XThen.norm ?_
        refine ⟨l.length - (i + 1), by omega, _, i + 1, d, rfl, by omega, by omega, hq, hO2, ?_, take_all⟩
        simp [Env.put, Env.of]
  · try simp only [RL] at h
    obtain rfl : l.length = i := by omega
    refine W.exit ?_
    refine XThen.exit ?_
    refine XThen.exit ?_
    refine XBlock.hit ?_
    refine BodyQ.norm rfl ?_
    exact ⟨_, rfl, c, hp, by rw [← hp.length_eq] at ho; exact ho.pair, take_all⟩

theorem len64_pc  : PC Try.prog 142 [.int .u64 4] (.int .i64 3) true := by
  refine PC.of ⟨Try.func142, by kernel_rfl, rfl, by kernel_rfl⟩ tabOk mixed (by show 1 ≤ Try.f142.ntmps; decide) ?_
  refine W.seq_region fun K hK => ?_
  simp (disch := omega) only [↓RU, RV, RH, ↓reduceIte, Nat.reduceEqDiff, reduceCtorEq, if_pos]
  refine hK _ _ ?_
  clear hK K
  refine W.seq ?_
  refine W.seq_region fun K hK => ?_
  simp (disch := omega) only [↓RU, RV, RH, ↓reduceIte, Nat.reduceEqDiff, reduceCtorEq, if_pos, w64, tyuint64]
  refine hK _ _ ?_
  clear hK K
  refine W.cond rfl (fun h => ?_) (fun h => ?_)
  · try simp only [RL] at h
    exact absurd h (by decide)
  · try simp only [RL] at h
    refine W.skip ?_
    refine XThen.norm ?_
    refine W.seq ?_
    refine W.seq_region fun K hK => ?_
    simp (disch := omega) only [↓RU, RV, RH, ↓reduceIte, Nat.reduceEqDiff, reduceCtorEq, if_pos, w64, tyuint64]
    refine hK _ _ ?_
    clear hK K
    refine W.cond rfl (fun h1 => ?_) (fun h1 => ?_)
    · try simp only [RL] at h1
      exact absurd h1 (by decide)
    · try simp only [RL] at h1
      refine W.skip ?_
      refine XThen.norm ?_
      refine W.seq ?_
      refine W.seq_region fun K hK => ?_
      simp (disch := omega) only [↓RU, RV, RH, ↓reduceIte, Nat.reduceEqDiff, reduceCtorEq, if_pos, w64, tyuint64]
      refine hK _ _ ?_
      clear hK K
      refine W.cond rfl (fun h2 => ?_) (fun h2 => ?_)
      · try simp only [RL] at h2
        exact absurd h2 (by decide)
      · try simp only [RL] at h2
        refine W.skip ?_
        refine XThen.norm ?_
        refine W.seq_region fun K hK => ?_
        simp (disch := omega) only [↓RU, RV, RH, ↓reduceIte, Nat.reduceEqDiff, reduceCtorEq, if_pos, w64, w64, tyint, tystring, tyuint64, tyuint8]
        refine hK _ _ ?_
        clear hK K
        refine W.ret ?_
        refine BodyQ.ret rfl ?_
        rfl

theorem len_pc  : PC Try.prog 114 [.int .u64 4] (.int .i64 3) true := by
  refine PC.of ⟨Try.func114, by kernel_rfl, rfl, by kernel_rfl⟩ tabOk mixed (by show 1 ≤ Try.f114.ntmps; decide) ?_
  refine W.seq_region fun K hK => ?_
  simp (disch := omega) only [↓RU, RV, RH, ↓reduceIte, Nat.reduceEqDiff, reduceCtorEq, if_pos]
  refine hK _ _ ?_
  clear hK K
  refine W.seq ?_
  refine W.cond rfl (fun h => ?_) (fun h => ?_)
  · try simp only [RL] at h
    exact absurd h (by decide)
  · try simp only [RL] at h
    refine W.skip ?_
    refine XThen.norm ?_
    refine W.seq_region fun K hK => ?_
    simp (disch := omega) only [↓RU, RV, RH, ↓reduceIte, Nat.reduceEqDiff, reduceCtorEq, if_pos, List.append_nil]
    refine CallR.pc (len64_pc) rfl (.inl rfl) ?_
    simp (disch := omega) only [↓RU, RV, RH, ↓reduceIte, Nat.reduceEqDiff, reduceCtorEq, if_pos, List.append_nil]
    refine hK _ _ ?_
    clear hK K
    refine W.ret ?_
    refine BodyQ.ret rfl ?_
    rfl

theorem pdq_ev {F R : List Ob} {ver t : Nat} {l : List Int} (hl : l.length ≤ 12) (h1 : 1 ≤ l.length) (lim : Int) : Ev Try.prog 155 [.loc F.length ver 0 l.length, .int .i64 0, .int .i64 l.length, .int .i64 lim] ⟨F ++ .arr ver 3 1 (l.map (.int .i64)) :: R, t⟩ fun v S => v = .tup [] ∧ ∃ z : List Int, z.Perm l ∧ z.Pairwise (· ≤ ·) ∧ S = ⟨F ++ .arr ver 3 1 (z.map (.int .i64)) :: R, t⟩ := by
  refine Ev.of ⟨Try.func155, by kernel_rfl, rfl, by kernel_rfl⟩ tabOk mixed (by show 4 ≤ Try.f155.ntmps; decide) ?_
  refine W.seq_region fun K hK => ?_
  simp (disch := omega) only [↓RU, RV, RH, ↓reduceIte, Nat.reduceEqDiff, reduceCtorEq, if_pos, ↓RS, RG, Nat.reduceAdd, Nat.reduceMul, Nat.reduceLeDiff, gF, setF]
  refine hK _ _ ?_
  clear hK K
  refine W.seq_region fun K hK => ?_
  simp (disch := omega) only [↓RU, RV, RH, ↓reduceIte, Nat.reduceEqDiff, reduceCtorEq, if_pos, ↓RS, RG, Nat.reduceAdd, Nat.reduceMul, Nat.reduceLeDiff, gF, setF]
  refine hK _ _ ?_
  clear hK K
  refine W.block ?_
  refine W.loop [0, 1, 2] (fun n vs S => vs = [.loc F.length ver 0 l.length, .int .i64 0, .int .i64 l.length] ∧ S = ⟨F ++ .arr ver 3 1 (l.map (.int .i64)) :: R, t⟩) 0 ?_ ?_
  · refine ⟨_, ?_, take_all⟩
    simp [Env.put, Env.of, argEnv]
  rintro n vs S - ⟨rfl, rfl⟩
  refine W.block ?_
  refine W.seq_region fun K hK => ?_
  simp (disch := omega) only [↓RU, RV, RH, ↓reduceIte, Nat.reduceEqDiff, reduceCtorEq, if_pos, w64, ↓RS, RG, Nat.reduceAdd, Nat.reduceMul, Nat.reduceLeDiff, tyint, gF, setF]
  refine hK _ _ ?_
  clear hK K
  refine W.seq ?_
  refine W.seq_region fun K hK => ?_
  simp (disch := omega) only [↓RU, RV, RH, ↓reduceIte, Nat.reduceEqDiff, reduceCtorEq, if_pos, w64, ↓RS, RG, Nat.reduceAdd, Nat.reduceMul, Nat.reduceLeDiff, tyint, gF, setF]
  refine hK _ _ ?_
  clear hK K
  refine W.cond rfl (fun h => ?_) (fun h => ?_)
  · try simp only [RL] at h
    refine W.seq_region fun K hK => ?_
    simp (disch := omega) only [↓RU, RV, RH, ↓reduceIte, Nat.reduceEqDiff, reduceCtorEq, if_pos, List.append_nil, ↓RS, RG, Nat.reduceAdd, Nat.reduceMul, Nat.reduceLeDiff, gF, setF]
    refine CallR.ev (insort_ev (by omega) h1) ?_
    rintro _ _ ⟨rfl, z, hz1, hz2, rfl⟩
    simp (disch := omega) only [↓RU, RV, RH, ↓reduceIte, Nat.reduceEqDiff, reduceCtorEq, if_pos, List.append_nil, ↓RS, RG, Nat.reduceAdd, Nat.reduceMul, Nat.reduceLeDiff, gF, setF]
    refine hK _ _ ?_
    clear hK K
    refine W.ret ?_
    refine XThen.ret ?_
    refine XBlock.ret ?_
    refine XThen.ret ?_
    refine XBlock.ret ?_
    refine BodyQ.ret rfl ?_
    exact ⟨_, rfl, z, hz1, hz2, take_all⟩
  · try simp only [RL] at h
    exact absurd (show (l.length : Int) ≤ 12 by omega) h

theorem sort_ev {F R : List Ob} {ver t : Nat} {l : List Int} (hl : l.length = 4) : Ev Try.prog 147 [.loc F.length ver 0 l.length] ⟨F ++ .arr ver 3 1 (l.map (.int .i64)) :: R, t⟩ fun v S => v = .tup [] ∧ ∃ z : List Int, z.Perm l ∧ z.Pairwise (· ≤ ·) ∧ S = ⟨F ++ .arr ver 3 1 (z.map (.int .i64)) :: R, t⟩ := by
  have hw4 : IntKind.u64.wrap ((l.length : Nat) : Int) = 4 := by rw [hl]; rfl
  refine Ev.of ⟨Try.func147, by kernel_rfl, rfl, by kernel_rfl⟩ tabOk mixed (by show 1 ≤ Try.f147.ntmps; decide) ?_
  refine W.seq_region fun K hK => ?_
  simp (disch := omega) only [↓RU, RV, RH, ↓reduceIte, Nat.reduceEqDiff, reduceCtorEq, if_pos, ↓RS, RG, Nat.reduceAdd, Nat.reduceMul, Nat.reduceLeDiff, tyLint, tyint, gF, setF]
  refine hK _ _ ?_
  clear hK K
  refine W.region_k fun K hK => ?_
  simp (disch := omega) only [↓RU, RV, RH, ↓reduceIte, Nat.reduceEqDiff, reduceCtorEq, if_pos, w64, List.append_nil, ↓RS, RG, Nat.reduceAdd, Nat.reduceMul, Nat.reduceLeDiff, tyint, tyuint, gF, setF, hw4]
  refine CallR.pc (len_pc) rfl (.inl rfl) ?_
  simp (disch := omega) only [↓RU, RV, RH, ↓reduceIte, Nat.reduceEqDiff, reduceCtorEq, if_pos, w64, List.append_nil, ↓RS, RG, Nat.reduceAdd, Nat.reduceMul, Nat.reduceLeDiff, tyint, tyuint, gF, setF, hw4]
  refine CallR.ev (pdq_ev (by omega) (by omega) 3) ?_
  rintro _ _ ⟨rfl, z, hz1, hz2, rfl⟩
  simp (disch := omega) only [↓RU, RV, RH, ↓reduceIte, Nat.reduceEqDiff, reduceCtorEq, if_pos, w64, List.append_nil, ↓RS, RG, Nat.reduceAdd, Nat.reduceMul, Nat.reduceLeDiff, tyint, tyuint, gF, setF, hw4]
  refine hK _ _ ?_
  clear hK K
  refine BodyQ.norm rfl ?_
  exact ⟨_, rfl, z, hz1, hz2, take_all⟩

end Fw
end Go.Proofs.Ytmhcknpjgikgmaa

/-! Points of the program, gone through. -/
namespace Go.Proofs.Ytmhcknpjgikgmaa
namespace Fw
open Go

theorem compact4_ev {v t : Nat} {z : List Int} (hz : z.length = 4) : Ev Try.prog 109 [.loc 0 v 0 4] ⟨[.arr v 3 1 (z.map (.int .i64))], t⟩ fun r S => ∃ y : List Int, r = .loc 0 v 0 (ddp z).length ∧ S = ⟨[.arr v 3 1 ((ddp z ++ y).map (.int .i64))], t⟩ := by
  have h := compact_ev (F := []) (R := []) (ver := v) (t := t) (l := z) (by omega)
  rw [hz] at h
  exact h

theorem points_pc {g : List (List Int)} {nh nw : Nat} (hg : GW g nh nw) (rs : List Rect) (many : Int) : PC Try.prog 131 [eFloor g rs, .int .i64 many] (.int .i64 (ptsG g many nw nh)) true := by
  have hl := hg.1
  obtain ⟨hg1, hg2, hg3, hg4⟩ := hg.2.2
  obtain ⟨row0, hrow0, hrl0, -⟩ := hg.at_ (i := 0) (j := 0) (by omega) (by omega)
  refine PC.of ⟨Try.func131, by kernel_rfl, rfl, by kernel_rfl⟩ tabOk mixed (by show 2 ≤ Try.f131.ntmps; decide) ?_
  refine W.seq_region fun K hK => ?_
  simp (disch := omega) only [↓RU, RV, RH, ↓reduceIte, Nat.reduceEqDiff, reduceCtorEq, if_pos, ↓RS, RG, Nat.reduceAdd, Nat.reduceMul, Nat.reduceLeDiff]
  refine hK _ _ ?_
  clear hK K
  refine W.seq_region fun K hK => ?_
  simp (disch := omega) only [↓RU, RV, RH, ↓reduceIte, Nat.reduceEqDiff, reduceCtorEq, if_pos, ↓RS, RG, Nat.reduceAdd, Nat.reduceMul, Nat.reduceLeDiff]
  refine hK _ _ ?_
  clear hK K
  refine W.seq ?_
  refine W.seq_region fun K hK => ?_
  simp (disch := omega) only [↓RU, RV, RH, ↓reduceIte, Nat.reduceEqDiff, reduceCtorEq, if_pos, ↓RS, RG, Nat.reduceAdd, Nat.reduceMul, Nat.reduceLeDiff]
  refine hK _ _ ?_
  clear hK K
  refine W.block ?_
  refine W.loop [0, 1, 5, 6] (fun n vs S => ∃ i t : Nat, n = nh - i ∧ i ≤ nh ∧ (1 ≤ i) ∧ vs = [eFloor g rs, .int .i64 many, .int .i64 (ptsG g many nw i), .int .i64 (i : Nat)] ∧ S = ⟨[], t⟩) (nh - 1) ?_ ?_
  · refine ⟨0, 1, _, rfl, by omega, Nat.le_refl _, ?_, rfl⟩
    simp [Env.put, Env.of, argEnv, ptsG_one]
  rintro n vs S - ⟨i, t, rfl, h_i, h1i, rfl, rfl⟩
  refine W.seq ?_
  refine W.seq_region fun K hK => ?_
  simp (disch := omega) only [↓RU, RV, RH, ↓reduceIte, Nat.reduceEqDiff, reduceCtorEq, if_pos, List.append_nil, w64, ↓RS, RG, Nat.reduceAdd, Nat.reduceMul, Nat.reduceLeDiff, tyint, hl]
  refine CallR.pc (high_pc g rs) rfl (.inl rfl) ?_
  simp (disch := omega) only [↓RU, RV, RH, ↓reduceIte, Nat.reduceEqDiff, reduceCtorEq, if_pos, List.append_nil, w64, ↓RS, RG, Nat.reduceAdd, Nat.reduceMul, Nat.reduceLeDiff, tyint, hl]
  refine hK _ _ ?_
  clear hK K
  refine W.cond rfl (fun h => ?_) (fun h => ?_)
  · try simp only [RL] at h
    have hpb := ptsG_bound g many hg4 i
    refine W.skip ?_
    refine XThen.norm ?_
    refine W.seq ?_
    refine W.block ?_
    refine W.seq_region fun K hK => ?_
    simp (disch := omega) only [↓RU, RV, RH, ↓reduceIte, Nat.reduceEqDiff, reduceCtorEq, if_pos, ↓RS, RG, Nat.reduceAdd, Nat.reduceMul, Nat.reduceLeDiff]
    refine hK _ _ ?_
    clear hK K
    refine W.block ?_
    refine W.loop [0, 1, 5, 6, 7] (fun n vs S => ∃ k t : Nat, n = nw - k ∧ k ≤ nw ∧ (1 ≤ k) ∧ vs = [eFloor g rs, .int .i64 many, .int .i64 (ptsG g many nw i + ptsRowG g many i k), .int .i64 (i : Nat), .int .i64 (k : Nat)] ∧ S = ⟨[], t⟩) (nw - 1) ?_ ?_
    · refine ⟨0, 1, _, rfl, by omega, Nat.le_refl _, ?_, rfl⟩
      simp [Env.put, Env.of, ptsRowG_one]
    rintro n vs S - ⟨k, t, rfl, h_k, h1k, rfl, rfl⟩
    refine W.seq ?_
    refine W.seq_region fun K hK => ?_
    simp (disch := omega) only [↓RU, RV, RH, ↓reduceIte, Nat.reduceEqDiff, reduceCtorEq, if_pos, List.append_nil, w64, ↓RS, RG, Nat.reduceAdd, Nat.reduceMul, Nat.reduceLeDiff, tyint, hrl0]
    refine CallR.pc (wide_pc hrow0 rs) rfl (.inl rfl) ?_
    simp (disch := omega) only [↓RU, RV, RH, ↓reduceIte, Nat.reduceEqDiff, reduceCtorEq, if_pos, List.append_nil, w64, ↓RS, RG, Nat.reduceAdd, Nat.reduceMul, Nat.reduceLeDiff, tyint, hrl0]
    refine hK _ _ ?_
    clear hK K
    refine W.cond rfl (fun h1 => ?_) (fun h1 => ?_)
    · try simp only [RL] at h1
      have hrb := ptsRowG_bound g many i k
      obtain ⟨r1, hr1, hl1, hx1⟩ := hg.at_ (i := i - 1) (j := k - 1) (by omega) (by omega)
      obtain ⟨r1b, hr1b, -, hx2⟩ := hg.at_ (i := i - 1) (j := k) (by omega) (by omega)
      obtain ⟨r2, hr2, hl2, hx3⟩ := hg.at_ (i := i) (j := k - 1) (by omega) (by omega)
      obtain ⟨r2b, hr2b, -, hx4⟩ := hg.at_ (i := i) (j := k) (by omega) (by omega)
      obtain rfl : r1 = r1b := by rw [hr1] at hr1b; exact Option.some.inj hr1b
      obtain rfl : r2 = r2b := by rw [hr2] at hr2b; exact Option.some.inj hr2b
      refine W.skip ?_
      refine XThen.norm ?_
      refine W.seq ?_
      refine W.block ?_
      refine W.seq_draw (by kernel_rfl) fun K hK => ?_
      simp (disch := omega) only [↓RU, RV, RH, ↓reduceIte, Nat.reduceEqDiff, reduceCtorEq, if_pos, w64, ↓RS, RG, Nat.reduceAdd, Nat.reduceMul, Nat.reduceLeDiff, tyLLint, tyLimpl_rect, tyLint, tyimpl_floor, tyimpl_grid, tyimpl_rect, tyint, tystruct_cells_impl_grid_rooms_Limpl_rect_, tystruct_row_int_col_int_high_int_wide_int_, hr1, hx1, hx2, hr2, hx3, hx4, toNat_pred]
      refine hK _ _ ?_
      clear hK K
      refine W.seq_region fun K hK => ?_
      simp (disch := omega) only [↓RU, RV, RH, ↓reduceIte, Nat.reduceEqDiff, reduceCtorEq, if_pos, List.append_nil, ↓RS, RG, Nat.reduceAdd, Nat.reduceMul, Nat.reduceLeDiff]
      refine CallR.ev (sort_ev (F := []) (R := []) (l := four g i k) rfl) ?_
      rintro _ _ ⟨rfl, z, hz1, hz2, rfl⟩
      simp (disch := omega) only [↓RU, RV, RH, ↓reduceIte, Nat.reduceEqDiff, reduceCtorEq, if_pos, List.append_nil, ↓RS, RG, Nat.reduceAdd, Nat.reduceMul, Nat.reduceLeDiff]
      refine hK _ _ ?_
      clear hK K
      have hz4 : z.length = 4 := hz1.length_eq
      have hdn := ddp_dn hz1 hz2
      refine W.seq_region fun K hK => ?_
      simp (disch := omega) only [↓RU, RV, RH, ↓reduceIte, Nat.reduceEqDiff, reduceCtorEq, if_pos, List.append_nil, w64, ↓RS, RG, Nat.reduceAdd, Nat.reduceMul, Nat.reduceLeDiff, tyLint, tyint, hdn]
      refine CallR.ev (compact4_ev hz4) ?_
      rintro _ _ ⟨y, rfl, rfl⟩
      simp (disch := omega) only [↓RU, RV, RH, ↓reduceIte, Nat.reduceEqDiff, reduceCtorEq, if_pos, List.append_nil, w64, ↓RS, RG, Nat.reduceAdd, Nat.reduceMul, Nat.reduceLeDiff, tyLint, tyint, hdn]
      refine hK _ _ ?_
      clear hK K
      refine W.cond rfl (fun h2 => ?_) (fun h2 => ?_)
      · try simp only [RL] at h2
        refine W.region_k fun K hK => ?_
        simp (disch := omega) only [↓RU, RV, RH, ↓reduceIte, Nat.reduceEqDiff, reduceCtorEq, if_pos, w64, ↓RS, RG, Nat.reduceAdd, Nat.reduceMul, Nat.reduceLeDiff, tyint]
        refine hK _ _ ?_
        clear hK K
        refine XBlock.norm ?_
        refine XThen.norm ?_
        refine W.region_k fun K hK => ?_
        simp (disch := omega) only [↓RU, RV, RH, ↓reduceIte, Nat.reduceEqDiff, reduceCtorEq, if_pos, w64, ↓RS, RG, Nat.reduceAdd, Nat.reduceMul, Nat.reduceLeDiff, tyint]
        refine hK _ _ ?_
        clear hK K
        refine XThen.norm ?_
        refine ⟨nw - (k + 1), by omega, 0, k + 1, _, rfl, by omega, by omega, ?_, rfl⟩
        simp [Env.put, Env.of, ptsRowG_hit h1k h2, Int.add_assoc]
      · try simp only [RL] at h2
        refine W.skip ?_
        refine XBlock.norm ?_
        refine XThen.norm ?_
        refine W.region_k fun K hK => ?_
        simp (disch := omega) only [↓RU, RV, RH, ↓reduceIte, Nat.reduceEqDiff, reduceCtorEq, if_pos, w64, ↓RS, RG, Nat.reduceAdd, Nat.reduceMul, Nat.reduceLeDiff, tyint]
        refine hK _ _ ?_
        clear hK K
        refine XThen.norm ?_
        refine ⟨nw - (k + 1), by omega, 0, k + 1, _, rfl, by omega, by omega, ?_, rfl⟩
        simp [Env.put, Env.of, ptsRowG_miss h2, Int.add_assoc]
    · try simp only [RL] at h1
      obtain rfl : nw = k := by omega
      refine W.exit ?_
      refine XThen.exit ?_
      refine XThen.exit ?_
      refine XBlock.hit ?_
      refine XBlock.norm ?_
      refine XThen.norm ?_
      refine W.region_k fun K hK => ?_
      simp (disch := omega) only [↓RU, RV, RH, ↓reduceIte, Nat.reduceEqDiff, reduceCtorEq, if_pos, w64, ↓RS, RG, Nat.reduceAdd, Nat.reduceMul, Nat.reduceLeDiff, tyint]
      refine hK _ _ ?_
      clear hK K
      refine XThen.norm ?_
      refine ⟨nh - (i + 1), by omega, 0, i + 1, _, rfl, by omega, by omega, ?_, rfl⟩
      simp [Env.put, Env.of, ptsG_succ h1i]
  · try simp only [RL] at h
    obtain rfl : nh = i := by omega
    refine W.exit ?_
    refine XThen.exit ?_
    refine XThen.exit ?_
    refine XBlock.hit ?_
    refine XThen.norm ?_
    refine W.seq_region fun K hK => ?_
    simp (disch := omega) only [↓RU, RV, RH, ↓reduceIte, Nat.reduceEqDiff, reduceCtorEq, if_pos, ↓RS, RG, Nat.reduceAdd, Nat.reduceMul, Nat.reduceLeDiff]
    refine hK _ _ ?_
    clear hK K
    refine W.ret ?_
    refine BodyQ.ret rfl ?_
    rfl

theorem fplain_pc {g : List (List Int)} {nh nw : Nat} (hg : GW g nh nw) (rs : List Rect) : PC Try.prog 104 [eFloor g rs] (.bool (decide (ptsG g 4 nw nh = 0))) true := by
  refine PC.of ⟨Try.func104, by kernel_rfl, rfl, by kernel_rfl⟩ tabOk mixed (by show 1 ≤ Try.f104.ntmps; decide) ?_
  refine W.seq_region fun K hK => ?_
  simp (disch := omega) only [↓RU, RV, RH, ↓reduceIte, Nat.reduceEqDiff, reduceCtorEq, if_pos]
  refine hK _ _ ?_
  clear hK K
  refine W.seq_region fun K hK => ?_
  simp (disch := omega) only [↓RU, RV, RH, ↓reduceIte, Nat.reduceEqDiff, reduceCtorEq, if_pos, List.append_nil, w64, tyint]
  refine CallR.pc (points_pc hg rs 4) rfl (.inl rfl) ?_
  simp (disch := omega) only [↓RU, RV, RH, ↓reduceIte, Nat.reduceEqDiff, reduceCtorEq, if_pos, List.append_nil, w64, tyint]
  refine hK _ _ ?_
  clear hK K
  refine W.ret ?_
  refine BodyQ.ret rfl ?_
  rfl

end Fw
end Go.Proofs.Ytmhcknpjgikgmaa

/-! The text of a plan of the program, gone through. -/
namespace Go.Proofs.Ytmhcknpjgikgmaa
namespace Fw
open Go

theorem writeByte0_ev {o : List Txt} {vo vb t : Nat} (x : UInt8) : Ev Try.prog 102 [.ref 1 vb 0, eB x] ⟨[.arr vo 9 1 (o.map .str), .arr vb 118 2 [.nilp, .nils]], t⟩ fun v S => v = .undef ∧ ∃ vq t2 : Nat, S = ⟨[.arr vo 9 1 (o.map .str), .arr vb 118 2 [.ref 1 vb 0, .loc 2 vq 0 ([x]).length], .arr vq 5 1 (([x]).map eB)], t2⟩ := by
  refine Ev.of ⟨Try.func102, by kernel_rfl, rfl, by kernel_rfl⟩ tabOk mixed (by show 2 ≤ Try.f102.ntmps; decide) ?_
  refine W.seq_region fun K hK => ?_
  simp (disch := omega) only [↓RU, RV, RH, ↓reduceIte, Nat.reduceEqDiff, reduceCtorEq, if_pos, ↓RS, RG, Nat.reduceAdd, Nat.reduceMul, Nat.reduceLeDiff]
  refine hK _ _ ?_
  clear hK K
  refine W.seq_region fun K hK => ?_
  simp (disch := omega) only [↓RU, RV, RH, ↓reduceIte, Nat.reduceEqDiff, reduceCtorEq, if_pos, List.append_nil, ↓RS, RG, Nat.reduceAdd, Nat.reduceMul, Nat.reduceLeDiff, List.set_cons_succ, List.set_cons_zero]
  refine CallR.ev (copyCheck_ev (S := ⟨[.arr vo 9 1 (o.map .str), .arr vb 118 2 [.nilp, .nils]], t⟩) (o := 1) rfl (.inl rfl)) ?_
  rintro _ _ ⟨rfl, rfl⟩
  simp (disch := omega) only [↓RU, RV, RH, ↓reduceIte, Nat.reduceEqDiff, reduceCtorEq, if_pos, List.append_nil, ↓RS, RG, Nat.reduceAdd, Nat.reduceMul, Nat.reduceLeDiff, List.set_cons_succ, List.set_cons_zero]
  refine hK _ _ ?_
  clear hK K
  refine W.joinS [] (fun vs S => vs = [] ∧ ∃ vq t2 : Nat, S = ⟨[.arr vo 9 1 (o.map .str), .arr vb 118 2 [.ref 1 vb 0, .loc 2 vq 0 ([x]).length], .arr vq 5 1 (([x]).map eB)], t2⟩) ?_ ?_
  ·
    refine W.region_k fun K hK => ?_
    simp (disch := omega) only [↓RU, RV, RH, ↓reduceIte, Nat.reduceEqDiff, reduceCtorEq, if_pos, ↓RS, RG, Nat.reduceAdd, Nat.reduceMul, Nat.reduceLeDiff, tyLuint8, tyPstrings_Builder, tystrings_Builder, tystruct_addr_Pstrings_Builder_buf_Luint8_, tyuint8]
    refine hK _ _ ?_
    clear hK K
    refine XThen.norm ?_
    refine ⟨2, [3], [], ⟨[.arr vo 9 1 (o.map .str), .arr vb 118 2 [.ref 1 vb 0, .loc 2 (t + 2) 0 ([x]).length], .arr (t + 2) 5 1 (([x]).map eB)], (t + 3)⟩, ?_, ?_, rfl, t + 2, t + 3, rfl⟩
    · simp [-List.mapM_map, Env.put, Env.of, argEnv, Srn_eq, rnObs_cons, rnObs_nil, rnOb_arr, rnOb_map, rn_loc, rn_ref, rn_mp, rn_int, rn_bool, rn_str, rn_ip, rn_sl, rn_nils, rn_nilp, rn_undef, rn_agg, rn_tup, rn_fn, rfq_loc, rfq_int, rfq_bool, rfq_str, rfq_sl, frOf, List.range_succ, List.mapM_append, List.mapM_cons]
    · simp [-List.mapM_map, Env.put, Env.of, argEnv, Srn_eq, rnObs_cons, rnObs_nil, rnOb_arr, rnOb_map, rn_loc, rn_ref, rn_mp, rn_int, rn_bool, rn_str, rn_ip, rn_sl, rn_nils, rn_nilp, rn_undef, rn_agg, rn_tup, rn_fn, rfq_loc, rfq_int, rfq_bool, rfq_str, rfq_sl, frOf, List.range_succ, List.mapM_append, List.mapM_cons, rn_strs]
  rintro vs S - ⟨rfl, vq, t2, rfl⟩
  refine W.seq_region fun K hK => ?_
  simp (disch := omega) only [↓RU, RV, RH, ↓reduceIte, Nat.reduceEqDiff, reduceCtorEq, if_pos, ↓RS, RG, Nat.reduceAdd, Nat.reduceMul, Nat.reduceLeDiff]
  refine hK _ _ ?_
  clear hK K
  refine W.ret ?_
  refine BodyQ.ret rfl ?_
  exact ⟨_, rfl, vq, t2, take_all⟩

theorem writeByte1_ev {o : List Txt} {vo vb vq t : Nat} {l : Txt} (hl : l.length < 2147483647) (x : UInt8) : Ev Try.prog 102 [.ref 1 vb 0, eB x] ⟨[.arr vo 9 1 (o.map .str), .arr vb 118 2 [.ref 1 vb 0, .loc 2 vq 0 (l).length], .arr vq 5 1 ((l).map eB)], t⟩ fun v S => v = .undef ∧ ∃ vq t2 : Nat, S = ⟨[.arr vo 9 1 (o.map .str), .arr vb 118 2 [.ref 1 vb 0, .loc 2 vq 0 (l ++ [x]).length], .arr vq 5 1 ((l ++ [x]).map eB)], t2⟩ := by
  refine Ev.of ⟨Try.func102, by kernel_rfl, rfl, by kernel_rfl⟩ tabOk mixed (by show 2 ≤ Try.f102.ntmps; decide) ?_
  refine W.seq_region fun K hK => ?_
  simp (disch := omega) only [↓RU, RV, RH, ↓reduceIte, Nat.reduceEqDiff, reduceCtorEq, if_pos, ↓RS, RG, Nat.reduceAdd, Nat.reduceMul, Nat.reduceLeDiff]
  refine hK _ _ ?_
  clear hK K
  refine W.seq_region fun K hK => ?_
  simp (disch := omega) only [↓RU, RV, RH, ↓reduceIte, Nat.reduceEqDiff, reduceCtorEq, if_pos, List.append_nil, ↓RS, RG, Nat.reduceAdd, Nat.reduceMul, Nat.reduceLeDiff, List.set_cons_succ, List.set_cons_zero]
  refine CallR.ev (copyCheck_ev (S := ⟨[.arr vo 9 1 (o.map .str), .arr vb 118 2 [.ref 1 vb 0, .loc 2 vq 0 (l).length], .arr vq 5 1 ((l).map eB)], t⟩) (o := 1) rfl (.inr rfl)) ?_
  rintro _ _ ⟨rfl, rfl⟩
  simp (disch := omega) only [↓RU, RV, RH, ↓reduceIte, Nat.reduceEqDiff, reduceCtorEq, if_pos, List.append_nil, ↓RS, RG, Nat.reduceAdd, Nat.reduceMul, Nat.reduceLeDiff, List.set_cons_succ, List.set_cons_zero]
  refine hK _ _ ?_
  clear hK K
  refine W.seq_region fun K hK => ?_
  simp (disch := omega) only [↓RU, RV, RH, ↓reduceIte, Nat.reduceEqDiff, reduceCtorEq, if_pos, ↓RS, RG, Nat.reduceAdd, Nat.reduceMul, Nat.reduceLeDiff, tyLuint8, tyPstrings_Builder, tystrings_Builder, tystruct_addr_Pstrings_Builder_buf_Luint8_, tyuint8]
  refine hK _ _ ?_
  clear hK K
  refine W.seq_region fun K hK => ?_
  simp (disch := omega) only [↓RU, RV, RH, ↓reduceIte, Nat.reduceEqDiff, reduceCtorEq, if_pos, ↓RS, RG, Nat.reduceAdd, Nat.reduceMul, Nat.reduceLeDiff]
  refine hK _ _ ?_
  clear hK K
  refine W.ret ?_
  refine BodyQ.ret rfl ?_
  exact ⟨3, rfl, t + 1, t + 2, by simp [take_eq]⟩

theorem writeByte_ev {o : List Txt} {vo vb vq t : Nat} {l : Txt} (hl : l.length < 2147483647) (x : UInt8) : Ev Try.prog 102 [.ref 1 vb 0, eB x] (stB o vo vb l vq t) fun v S => v = .undef ∧ ∃ vq2 t2 : Nat, S = stB o vo vb (l ++ [x]) vq2 t2 := by
  cases l with
  | nil => exact writeByte0_ev x
  | cons a l => exact writeByte1_ev hl x
theorem bstring_ev {o : List Txt} {vo vb vq t : Nat} {l : Txt} (h0 : l ≠ []) : Ev Try.prog 103 [.ref 1 vb 0] (stB o vo vb l vq t) fun v S => v = .str l ∧ S = ⟨[.arr vo 9 1 (o.map .str)], t⟩ := by
  rw [stB_ne h0]
  exact builderString_ev (A := [.arr vo 9 1 (o.map .str)]) h0

theorem text_pc {g : List (List Int)} {nh nw : Nat} (hg : GW g nh nw) (rs : List Rect) (hz : ∀ r ∈ g, ∀ z ∈ r, 0 ≤ z ∧ z ≤ 100) : PC Try.prog 80 [eFloor g rs] (eStrs (textG g)) true := by
  have hl := hg.1
  obtain ⟨hg1, hg2, hg3, hg4⟩ := hg.2.2
  refine PC.of ⟨Try.func80, by kernel_rfl, rfl, by kernel_rfl⟩ tabOk mixed (by show 1 ≤ Try.f80.ntmps; decide) ?_
  refine W.seq_region fun K hK => ?_
  simp (disch := omega) only [↓RU, RV, RH, ↓reduceIte, Nat.reduceEqDiff, reduceCtorEq, if_pos, ↓RS, RG, Nat.reduceAdd, Nat.reduceMul, Nat.reduceLeDiff]
  refine hK _ _ ?_
  clear hK K
  refine W.seq_region fun K hK => ?_
  simp (disch := omega) only [↓RU, RV, RH, ↓reduceIte, Nat.reduceEqDiff, reduceCtorEq, if_pos, List.append_nil, ↓RS, RG, Nat.reduceAdd, Nat.reduceMul, Nat.reduceLeDiff, tyLstring, tystring, hl, repz_int, repz_str, ile_true]
  refine CallR.pc (high_pc g rs) rfl (.inl rfl) ?_
  simp (disch := omega) only [↓RU, RV, RH, ↓reduceIte, Nat.reduceEqDiff, reduceCtorEq, if_pos, List.append_nil, ↓RS, RG, Nat.reduceAdd, Nat.reduceMul, Nat.reduceLeDiff, tyLstring, tystring, hl, repz_int, repz_str, ile_true]
  refine hK _ _ ?_
  clear hK K
  refine W.seq ?_
  refine W.seq_region fun K hK => ?_
  simp (disch := omega) only [↓RU, RV, RH, ↓reduceIte, Nat.reduceEqDiff, reduceCtorEq, if_pos, ↓RS, RG, Nat.reduceAdd, Nat.reduceMul, Nat.reduceLeDiff, tyLLint, tyLimpl_rect, tyLint, tyimpl_floor, tyimpl_grid, tyimpl_rect, tyint, tystruct_cells_impl_grid_rooms_Limpl_rect_, tystruct_row_int_col_int_high_int_wide_int_, hl]
  refine hK _ _ ?_
  clear hK K
  refine W.block ?_
  refine W.loop [0, 3, 15, 16, 17] (fun n vs S => ∃ (i vo t : Nat) (o : List Txt), n = nh - i ∧ i ≤ nh ∧ o.length = nh ∧ (∀ j, j < i → o[j]? = (textG g)[j]?) ∧ vs = [eFloor g rs, .loc 0 vo 0 nh, eGrid g, .int .i64 nh, .int .i64 (i : Nat)] ∧ S = ⟨[.arr vo 9 1 (o.map .str)], t⟩) nh ?_ ?_
  · refine ⟨1, 0, 0, 1, List.replicate nh [], rfl, Nat.zero_le _, by simp, fun j h => absurd h (by omega), ?_, ?_⟩
    · simp [Env.put, Env.of, argEnv, hl]
    · simp [take_eq, repz_str]
  rintro n vs S - ⟨i, vo, t, o, rfl, h_i, hol, hdone, rfl, rfl⟩
  refine W.seq_region fun K hK => ?_
  simp (disch := omega) only [↓RU, RV, RH, ↓reduceIte, Nat.reduceEqDiff, reduceCtorEq, if_pos, w64, ↓RS, RG, Nat.reduceAdd, Nat.reduceMul, Nat.reduceLeDiff, tyint]
  refine hK _ _ ?_
  clear hK K
  refine W.seq ?_
  refine W.cond rfl (fun h => ?_) (fun h => ?_)
  · try simp only [RL] at h
    obtain ⟨row, hrow, hrm⟩ := get_of (show i < g.length by omega)
    have hrl := hg.2.1 row hrm
    have hrz := hz row hrm
    refine W.skip ?_
    refine XThen.norm ?_
    refine W.seq ?_
    refine W.block ?_
    refine W.seq_region fun K hK => ?_
    simp (disch := omega) only [↓RU, RV, RH, ↓reduceIte, Nat.reduceEqDiff, reduceCtorEq, if_pos, ↓RS, RG, Nat.reduceAdd, Nat.reduceMul, Nat.reduceLeDiff, tyLLint, tyLint, tyimpl_grid, tyint, hrow]
    refine hK _ _ ?_
    clear hK K
    refine W.seq_region fun K hK => ?_
    simp (disch := omega) only [↓RU, RV, RH, ↓reduceIte, Nat.reduceEqDiff, reduceCtorEq, if_pos, ↓RS, RG, Nat.reduceAdd, Nat.reduceMul, Nat.reduceLeDiff, tyLuint8, tyPstrings_Builder, tystrings_Builder, tystruct_addr_Pstrings_Builder_buf_Luint8_, tyuint8]
    refine hK _ _ ?_
    clear hK K
    refine W.seq ?_
    refine W.seq_region fun K hK => ?_
    simp (disch := omega) only [↓RU, RV, RH, ↓reduceIte, Nat.reduceEqDiff, reduceCtorEq, if_pos, ↓RS, RG, Nat.reduceAdd, Nat.reduceMul, Nat.reduceLeDiff, tyLint, tyint, hrl]
    refine hK _ _ ?_
    clear hK K
    refine W.block ?_
    refine W.loop [0, 3, 15, 16, 17, 4, 6, 22, 23, 24] (fun n vs S => ∃ (k vb vq t : Nat), n = nw - k ∧ k ≤ nw ∧ vs = [eFloor g rs, .loc 0 vo 0 nh, eGrid g, .int .i64 nh, .int .i64 (i : Nat), .int .i64 (i : Nat), .ref 1 vb 0, eInts row, .int .i64 nw, .int .i64 (k : Nat)] ∧ S = stB o vo vb (rowT (row.take k)) vq t) nw ?_ ?_
    · refine ⟨2, 0, _, 0, _, rfl, Nat.zero_le _, ?_, rfl⟩
      simp [Env.put, Env.of, hrl]
    rintro n vs S - ⟨k, vb, vq, t, rfl, h_k, rfl, rfl⟩
    refine W.seq_region fun K hK => ?_
    simp (disch := omega) only [↓RU, RV, RH, ↓reduceIte, Nat.reduceEqDiff, reduceCtorEq, if_pos, w64, ↓RS, RG, Nat.reduceAdd, Nat.reduceMul, Nat.reduceLeDiff, tyint]
    refine hK _ _ ?_
    clear hK K
    refine W.seq ?_
    refine W.cond rfl (fun h1 => ?_) (fun h1 => ?_)
    · try simp only [RL] at h1
      obtain ⟨z, hzk, hzm⟩ := get_of (show k < row.length by omega)
      have hzb := hrz z hzm
      have hul := u8_let hzb.1
      refine W.skip ?_
      refine XThen.norm ?_
      refine W.seq ?_
      refine W.block ?_
      refine W.seq_region fun K hK => ?_
      simp (disch := omega) only [↓RU, RV, RH, ↓reduceIte, Nat.reduceEqDiff, reduceCtorEq, if_pos, ↓RS, RG, Nat.reduceAdd, Nat.reduceMul, Nat.reduceLeDiff, tyLint, tyint, hzk]
      refine hK _ _ ?_
      clear hK K
      refine W.region_k fun K hK => ?_
      simp (disch := omega) only [↓RU, RV, RH, ↓reduceIte, Nat.reduceEqDiff, reduceCtorEq, if_pos, w64, w64, List.append_nil, ↓RS, RG, Nat.reduceAdd, Nat.reduceMul, Nat.reduceLeDiff, tyint, tyuint8, hul]
      refine CallR.ev (writeByte_ev (by rw [rowT_len, List.length_take]; omega) (letZ z)) ?_
      rintro _ _ ⟨rfl, vq2, t2, rfl⟩
      simp (disch := omega) only [↓RU, RV, RH, ↓reduceIte, Nat.reduceEqDiff, reduceCtorEq, if_pos, w64, w64, List.append_nil, ↓RS, RG, Nat.reduceAdd, Nat.reduceMul, Nat.reduceLeDiff, tyint, tyuint8, hul]
      refine hK _ _ ?_
      clear hK K
      refine XBlock.norm ?_
      refine XThen.norm ?_
      refine W.region_k fun K hK => ?_
      simp (disch := omega) only [↓RU, RV, RH, ↓reduceIte, Nat.reduceEqDiff, reduceCtorEq, if_pos, w64, ↓RS, RG, Nat.reduceAdd, Nat.reduceMul, Nat.reduceLeDiff, tyint]
      refine hK _ _ ?_
      clear hK K
      refine XThen.norm ?_
      refine ⟨nw - (k + 1), by omega, _, k + 1, vb, vq2, t2, rfl, by omega, ?_, by rw [rowT_succ hzk]; exact take_all⟩
      simp [Env.put, Env.of]
    · try simp only [RL] at h1
      obtain rfl : nw = k := by omega
      refine W.exit ?_
      refine XThen.exit ?_
      refine XThen.exit ?_
      refine XBlock.hit ?_
      refine XThen.norm ?_
      refine W.region_k fun K hK => ?_
      have htk : row.take nw = row := List.take_of_length_le (by omega)
      rw [htk]
      have hne := rowT_ne (row := row) (by omega)
      simp (disch := omega) only [↓RU, RV, RH, ↓reduceIte, Nat.reduceEqDiff, reduceCtorEq, if_pos, List.append_nil, ↓RS, RG, Nat.reduceAdd, Nat.reduceMul, Nat.reduceLeDiff, tyLstring, tystring, hol, set_spl, set_str]
      refine CallR.ev (bstring_ev hne) ?_
      rintro _ _ ⟨rfl, rfl⟩
      simp (disch := omega) only [↓RU, RV, RH, ↓reduceIte, Nat.reduceEqDiff, reduceCtorEq, if_pos, List.append_nil, ↓RS, RG, Nat.reduceAdd, Nat.reduceMul, Nat.reduceLeDiff, tyLstring, tystring, hol, set_spl, set_str]
      refine hK _ _ ?_
      clear hK K
      refine XBlock.norm ?_
      refine XThen.norm ?_
      refine W.region_k fun K hK => ?_
      simp (disch := omega) only [↓RU, RV, RH, ↓reduceIte, Nat.reduceEqDiff, reduceCtorEq, if_pos, w64, ↓RS, RG, Nat.reduceAdd, Nat.reduceMul, Nat.reduceLeDiff, tyint]
      refine hK _ _ ?_
      clear hK K
      refine XThen.norm ?_
      refine ⟨nh - (i + 1), by omega, 1, i + 1, vo, t, o.set i (rowT row), rfl, by omega, by simp [hol], ?_, ?_, ?_⟩
      · intro j hj
        by_cases e : j = i
        · subst e; rw [textG_at hrow, List.getElem?_set, if_pos rfl, if_pos (by omega)]
        · rw [List.getElem?_set, if_neg (Ne.symm e)]; exact hdone j (by omega)
      · simp [Env.put, Env.of]
      · simp [take_eq]
  · try simp only [RL] at h
    obtain rfl : nh = i := by omega
    refine W.exit ?_
    refine XThen.exit ?_
    refine XThen.exit ?_
    refine XBlock.hit ?_
    refine XThen.norm ?_
    refine W.seq_region fun K hK => ?_
    simp (disch := omega) only [↓RU, RV, RH, ↓reduceIte, Nat.reduceEqDiff, reduceCtorEq, if_pos, ↓RS, RG, Nat.reduceAdd, Nat.reduceMul, Nat.reduceLeDiff]
    refine hK _ _ ?_
    clear hK K
    refine W.ret ?_
    refine BodyQ.ret rfl ?_
    have hdo := text_done (by omega) (fun j hj => hdone j (by omega))
    subst hdo
    obtain rfl : nh = (textG g).length := hol.symm
    exact reify_loc (k := 9) rfl (by simp) (reify_txts _)

end Fw
end Go.Proofs.Ytmhcknpjgikgmaa

/-! The numbering of rooms by the program, gone through. -/
namespace Go.Proofs.Ytmhcknpjgikgmaa
namespace Fw
open Go

theorem keyed_int {z : Int} : TK.keyed tab 3 (.int .i64 z) = true := by simp only [TK.keyed, tyint]; rfl

theorem settled2_old_ev {g d : List (List Int)} {y : List Int} {row ks : List Int} {rs : List Rect} {z : Int} {r c w m xv yv vq t : Nat} (hr : r < 6) (hc : c < 6) (hrow : g[r]? = some row) (hz : row[c]? = some z) (hs : SeOk ks rs) (hk : ks.length ≤ 64) (hin : ¬ ks.idxOf z = ks.length) : Ev Try.prog 127 [.int .i64 (r : Nat), .int .i64 (c : Nat), .ref 5 5 0, .ref 0 0 0, .ref 3 3 0] ⟨[.arr 0 55 1 [eGrid g], .arr 1 3 1 [.int .i64 w], .arr 2 58 2 [.nils, .loc 8 vq 0 (rs).length], .arr 3 51 1 [.ref 2 2 0], .map 4 (mE ks), .arr 5 136 1 [.mp 4 4], .arr xv 30 1 (gcs d (.loc 7 yv 0 w) m), .arr yv 3 1 (y.map (.int .i64)), .arr vq 69 4 (rcs rs)], t⟩ fun v S => v = .int .i64 ((ks.idxOf z : Nat) : Int) ∧ ∃ vq t : Nat, S = ⟨[.arr 0 55 1 [eGrid g], .arr 1 3 1 [.int .i64 w], .arr 2 58 2 [.nils, .loc 8 vq 0 ((seRs ks rs z (oneR r c))).length], .arr 3 51 1 [.ref 2 2 0], .map 4 (mE (seKs ks z)), .arr 5 136 1 [.mp 4 4], .arr xv 30 1 (gcs d (.loc 7 yv 0 w) m), .arr yv 3 1 (y.map (.int .i64)), .arr vq 69 4 (rcs (seRs ks rs z (oneR r c)))], t⟩ := by
  have hrl := len_of hrow
  have hcl := len_of hz
  have hgl : g.length = g.length := rfl
  obtain ⟨hi1, hi2, b, hb, hbf⟩ := hs.in_ (z := z) (oneR_fit hr hc)
  have hil := idxOf_le (ks := ks) (z := z)
  have hsl := hs.1
  have hst := hs.step (z := z) (oneR_fit hr hc)
  have hfs := findKey_some hin
  have hki : seKs ks z = ks := by simp [seKs, hin]
  have hri : seIn ks rs z (oneR r c) = rs := by simp [seIn, hin]
  refine Ev.of ⟨Try.func127, by kernel_rfl, rfl, by kernel_rfl⟩ tabOk mixed (by show 5 ≤ Try.f127.ntmps; decide) ?_
  refine W.seq_region fun K hK => ?_
  simp (disch := omega) only [↓RU, RV, RH, ↓reduceIte, Nat.reduceEqDiff, reduceCtorEq, if_pos, ↓RS, RG, Nat.reduceAdd, Nat.reduceMul, Nat.reduceLeDiff]
  refine hK _ _ ?_
  clear hK K
  refine W.seq_draw (by kernel_rfl) fun K hK => ?_
  simp (disch := omega) only [↓RU, RV, RH, ↓reduceIte, Nat.reduceEqDiff, reduceCtorEq, if_pos, ↓RS, RG, Nat.reduceAdd, Nat.reduceMul, Nat.reduceLeDiff, tyLLint, tyLint, tyimpl_grid, tyint, tymapBint_int, hrow, hz, mE_len, hfs]
  refine hK _ _ ?_
  clear hK K
  refine W.joinS [0, 1, 2, 3, 4, 8] (fun vs S => ∃ vq t : Nat, vs = [.int .i64 (r : Nat), .int .i64 (c : Nat), .ref 5 5 0, .ref 0 0 0, .ref 3 3 0, .int .i64 ((ks.idxOf z : Nat) : Int)] ∧ S = ⟨[.arr 0 55 1 [eGrid g], .arr 1 3 1 [.int .i64 w], .arr 2 58 2 [.nils, .loc 8 vq 0 ((seIn ks rs z (oneR r c))).length], .arr 3 51 1 [.ref 2 2 0], .map 4 (mE (seKs ks z)), .arr 5 136 1 [.mp 4 4], .arr xv 30 1 (gcs d (.loc 7 yv 0 w) m), .arr yv 3 1 (y.map (.int .i64)), .arr vq 69 4 (rcs (seIn ks rs z (oneR r c)))], t⟩) ?_ ?_
  ·
    refine W.seq_region fun K hK => ?_
    simp (disch := omega) only [↓RU, RV, RH, ↓reduceIte, Nat.reduceEqDiff, reduceCtorEq, if_pos, ↓RS, RG, Nat.reduceAdd, Nat.reduceMul, Nat.reduceLeDiff]
    refine hK _ _ ?_
    clear hK K
    refine W.cond rfl (fun h => ?_) (fun h => ?_)
    · try simp only [RL] at h
      exact absurd h (by simp)
    · try simp only [RL] at h
      refine W.skip ?_
      refine XThen.norm ?_
      refine ⟨9, [], [.int .i64 (r : Nat), .int .i64 (c : Nat), .ref 5 5 0, .ref 0 0 0, .ref 3 3 0, .int .i64 ((ks.idxOf z : Nat) : Int)], ⟨[.arr 0 55 1 [eGrid g], .arr 1 3 1 [.int .i64 w], .arr 2 58 2 [.nils, .loc 8 vq 0 ((seIn ks rs z (oneR r c))).length], .arr 3 51 1 [.ref 2 2 0], .map 4 (mE (seKs ks z)), .arr 5 136 1 [.mp 4 4], .arr xv 30 1 (gcs d (.loc 7 yv 0 w) m), .arr yv 3 1 (y.map (.int .i64)), .arr vq 69 4 (rcs (seIn ks rs z (oneR r c)))], (t + 1)⟩, ?_, ?_, vq, t + 1, rfl, rfl⟩
      · simp [-List.mapM_map, Env.put, Env.of, argEnv, Srn_eq, rnObs_cons, rnObs_nil, rnOb_arr, rnOb_map, rn_loc, rn_ref, rn_mp, rn_int, rn_bool, rn_str, rn_ip, rn_sl, rn_nils, rn_nilp, rn_undef, rn_agg, rn_tup, rn_fn, rfq_loc, rfq_int, rfq_bool, rfq_str, rfq_sl, frOf, List.range_succ, List.mapM_append, List.mapM_cons]
      · rw [hki, hri]; simp [-List.mapM_map, Env.put, Env.of, argEnv, Srn_eq, rnObs_cons, rnObs_nil, rnOb_arr, rnOb_map, rn_loc, rn_ref, rn_mp, rn_int, rn_bool, rn_str, rn_ip, rn_sl, rn_nils, rn_nilp, rn_undef, rn_agg, rn_tup, rn_fn, rfq_loc, rfq_int, rfq_bool, rfq_str, rfq_sl, frOf, List.range_succ, List.mapM_append, List.mapM_cons, rn_mE, rn_rcs, rn_ints, rn_gcs]
  rintro vs S - ⟨vq, t, rfl, rfl⟩
  have hrs2 := seRs_is hb
  generalize hks1 : seKs ks z = ks1 at hi1 hst
  generalize hrs1 : seIn ks rs z (oneR r c) = rs1 at hb hi1 hi2 hrs2
  have hbl := len_of hb
  refine W.seq_draw (by kernel_rfl) fun K hK => ?_
  have hcell := (oneR_cells (r := r) (c := c)).symm
  have hba : PV.agg b.cells = eRect b := rfl
  simp (disch := omega) only [↓RU, RV, RH, ↓reduceIte, Nat.reduceEqDiff, reduceCtorEq, if_pos, List.append_nil, ↓RS, RG, Nat.reduceAdd, Nat.reduceMul, Nat.reduceLeDiff, tyLLint, tyLimpl_rect, tyLint, tyPimpl_floor, tyimpl_floor, tyimpl_grid, tyimpl_rect, tyint, tystruct_cells_impl_grid_rooms_Limpl_rect_, tystruct_row_int_col_int_high_int_wide_int_, rcs_at hb, rcs_len, ← oneR_cells, hcell, rcell_len, rcell_all, rcs_set4]
  refine CallR.pc (both_pc (b := b) (o := oneR r c) hbf.in_ (oneR_fit hr hc).in_) rfl (.inl rfl) ?_
  simp (disch := omega) only [↓RU, RV, RH, ↓reduceIte, Nat.reduceEqDiff, reduceCtorEq, if_pos, List.append_nil, ↓RS, RG, Nat.reduceAdd, Nat.reduceMul, Nat.reduceLeDiff, tyLLint, tyLimpl_rect, tyLint, tyPimpl_floor, tyimpl_floor, tyimpl_grid, tyimpl_rect, tyint, tystruct_cells_impl_grid_rooms_Limpl_rect_, tystruct_row_int_col_int_high_int_wide_int_, rcs_at hb, rcs_len, ← oneR_cells, hcell, rcell_len, rcell_all, rcs_set4]
  refine hK _ _ ?_
  clear hK K
  refine W.seq_region fun K hK => ?_
  simp (disch := omega) only [↓RU, RV, RH, ↓reduceIte, Nat.reduceEqDiff, reduceCtorEq, if_pos, ↓RS, RG, Nat.reduceAdd, Nat.reduceMul, Nat.reduceLeDiff]
  refine hK _ _ ?_
  clear hK K
  refine W.ret ?_
  refine BodyQ.ret rfl ?_
  refine ⟨9, rfl, vq, t, ?_⟩
  rw [hrs2]
  simp [take_eq]

theorem settled2_first_ev {g d : List (List Int)} {y : List Int} {row ks : List Int} {rs : List Rect} {z : Int} {r c w m xv yv vq t : Nat} (hr : r < 6) (hc : c < 6) (hrow : g[r]? = some row) (hz : row[c]? = some z) (hs : SeOk ks rs) (hk : ks.length ≤ 64) (hn : rs = []) (hn2 : ks = []) : Ev Try.prog 127 [.int .i64 (r : Nat), .int .i64 (c : Nat), .ref 5 5 0, .ref 0 0 0, .ref 3 3 0] ⟨[.arr 0 55 1 [eGrid g], .arr 1 3 1 [.int .i64 w], .arr 2 58 2 [.nils, .nils], .arr 3 51 1 [.ref 2 2 0], .map 4 (mE ks), .arr 5 136 1 [.mp 4 4], .arr xv 30 1 (gcs d (.loc 7 yv 0 w) m), .arr yv 3 1 (y.map (.int .i64))], t⟩ fun v S => v = .int .i64 ((ks.idxOf z : Nat) : Int) ∧ ∃ vq t : Nat, S = ⟨[.arr 0 55 1 [eGrid g], .arr 1 3 1 [.int .i64 w], .arr 2 58 2 [.nils, .loc 8 vq 0 ((seRs ks rs z (oneR r c))).length], .arr 3 51 1 [.ref 2 2 0], .map 4 (mE (seKs ks z)), .arr 5 136 1 [.mp 4 4], .arr xv 30 1 (gcs d (.loc 7 yv 0 w) m), .arr yv 3 1 (y.map (.int .i64)), .arr vq 69 4 (rcs (seRs ks rs z (oneR r c)))], t⟩ := by
  have hin : ks.idxOf z = ks.length := by rw [hn2]; rfl
  have hrl := len_of hrow
  have hcl := len_of hz
  have hgl : g.length = g.length := rfl
  obtain ⟨hi1, hi2, b, hb, hbf⟩ := hs.in_ (z := z) (oneR_fit hr hc)
  have hil := idxOf_le (ks := ks) (z := z)
  have hsl := hs.1
  have hst := hs.step (z := z) (oneR_fit hr hc)
  have hfn := findKey_none hin
  have hki : seKs ks z = ks ++ [z] := by simp [seKs, hin]
  have hri : seIn ks rs z (oneR r c) = rs ++ [oneR r c] := by simp [seIn, hin]
  refine Ev.of ⟨Try.func127, by kernel_rfl, rfl, by kernel_rfl⟩ tabOk mixed (by show 5 ≤ Try.f127.ntmps; decide) ?_
  refine W.seq_region fun K hK => ?_
  simp (disch := omega) only [↓RU, RV, RH, ↓reduceIte, Nat.reduceEqDiff, reduceCtorEq, if_pos, ↓RS, RG, Nat.reduceAdd, Nat.reduceMul, Nat.reduceLeDiff]
  refine hK _ _ ?_
  clear hK K
  refine W.seq_draw (by kernel_rfl) fun K hK => ?_
  simp (disch := omega) only [↓RU, RV, RH, ↓reduceIte, Nat.reduceEqDiff, reduceCtorEq, if_pos, ↓RS, RG, Nat.reduceAdd, Nat.reduceMul, Nat.reduceLeDiff, tyLLint, tyLint, tyimpl_grid, tyint, tymapBint_int, hrow, hz, mE_len, hfn]
  refine hK _ _ ?_
  clear hK K
  refine W.joinS [0, 1, 2, 3, 4, 8] (fun vs S => ∃ vq t : Nat, vs = [.int .i64 (r : Nat), .int .i64 (c : Nat), .ref 5 5 0, .ref 0 0 0, .ref 3 3 0, .int .i64 ((ks.idxOf z : Nat) : Int)] ∧ S = ⟨[.arr 0 55 1 [eGrid g], .arr 1 3 1 [.int .i64 w], .arr 2 58 2 [.nils, .loc 8 vq 0 ((seIn ks rs z (oneR r c))).length], .arr 3 51 1 [.ref 2 2 0], .map 4 (mE (seKs ks z)), .arr 5 136 1 [.mp 4 4], .arr xv 30 1 (gcs d (.loc 7 yv 0 w) m), .arr yv 3 1 (y.map (.int .i64)), .arr vq 69 4 (rcs (seIn ks rs z (oneR r c)))], t⟩) ?_ ?_
  ·
    refine W.seq_region fun K hK => ?_
    simp (disch := omega) only [↓RU, RV, RH, ↓reduceIte, Nat.reduceEqDiff, reduceCtorEq, if_pos, ↓RS, RG, Nat.reduceAdd, Nat.reduceMul, Nat.reduceLeDiff]
    refine hK _ _ ?_
    clear hK K
    refine W.cond rfl (fun h => ?_) (fun h => ?_)
    · try simp only [RL] at h
      refine W.seq_region fun K hK => ?_
      simp (disch := omega) only [↓RU, RV, RH, ↓reduceIte, Nat.reduceEqDiff, reduceCtorEq, if_pos, ↓RS, RG, Nat.reduceAdd, Nat.reduceMul, Nat.reduceLeDiff, tyint, tymapBint_int, mE_len]
      refine hK _ _ ?_
      clear hK K
      refine W.seq_draw (by kernel_rfl) fun K hK => ?_
      simp (disch := omega) only [↓RU, RV, RH, ↓reduceIte, Nat.reduceEqDiff, reduceCtorEq, if_pos, ↓RS, RG, Nat.reduceAdd, Nat.reduceMul, Nat.reduceLeDiff, tyLLint, tyLint, tyimpl_grid, tyint, tymapBint_int, hrow, hz, hfn, keyed_int]
      refine hK _ _ ?_
      clear hK K
      refine W.region_pk 10 [some 35, some 36, some 37, some 38, some 39] [2, 3] (by decide) (by kernel_rfl) fun K hK => ?_
      simp only [List.take_succ_cons, List.take_zero, List.drop_succ_cons, List.drop_zero]
      refine eRunK_pend (.ref 2 2 0) rfl rfl rfl (fun S' hS => ?_) ?_
      · skip
        have k2 := (hS 2 (by decide)).trans (show _ = some _ from rfl)
        have k3 := (hS 3 (by decide)).trans (show _ = some _ from rfl)
        simp (disch := omega) only [↓RU, RV, RH, ↓reduceIte, Nat.reduceEqDiff, reduceCtorEq, if_pos, ↓RS, RG, Nat.reduceAdd, Nat.reduceMul, Nat.reduceLeDiff, tyLLint, tyLimpl_rect, tyLint, tyPimpl_floor, tyimpl_floor, tyimpl_grid, tyimpl_rect, tyint, tystruct_cells_impl_grid_rooms_Limpl_rect_, tystruct_row_int_col_int_high_int_wide_int_, rcs_len, rcell_len, rcell_all, pp_load, pp_nil, pp_fa, pp_ia, k2, k3]
      refine eRunK_pend (.ref 2 2 0) rfl rfl rfl (fun S' hS => ?_) ?_
      · skip
        have k2 := (hS 2 (by decide)).trans (show _ = some _ from rfl)
        have k3 := (hS 3 (by decide)).trans (show _ = some _ from rfl)
        simp (disch := omega) only [↓RU, RV, RH, ↓reduceIte, Nat.reduceEqDiff, reduceCtorEq, if_pos, ↓RS, RG, Nat.reduceAdd, Nat.reduceMul, Nat.reduceLeDiff, tyLLint, tyLimpl_rect, tyLint, tyPimpl_floor, tyimpl_floor, tyimpl_grid, tyimpl_rect, tyint, tystruct_cells_impl_grid_rooms_Limpl_rect_, tystruct_row_int_col_int_high_int_wide_int_, rcs_len, rcell_len, rcell_all, pp_load, pp_nil, pp_fa, pp_ia, k2, k3]
      refine eRunK_pend (.ref 2 2 0) rfl rfl rfl (fun S' hS => ?_) ?_
      · skip
        have k2 := (hS 2 (by decide)).trans (show _ = some _ from rfl)
        have k3 := (hS 3 (by decide)).trans (show _ = some _ from rfl)
        simp (disch := omega) only [↓RU, RV, RH, ↓reduceIte, Nat.reduceEqDiff, reduceCtorEq, if_pos, ↓RS, RG, Nat.reduceAdd, Nat.reduceMul, Nat.reduceLeDiff, tyLLint, tyLimpl_rect, tyLint, tyPimpl_floor, tyimpl_floor, tyimpl_grid, tyimpl_rect, tyint, tystruct_cells_impl_grid_rooms_Limpl_rect_, tystruct_row_int_col_int_high_int_wide_int_, rcs_len, rcell_len, rcell_all, pp_load, pp_nil, pp_fa, pp_ia, k2, k3]
      refine eRunK_pend (.ref 2 2 1) rfl rfl rfl (fun S' hS => ?_) ?_
      · skip
        have k2 := (hS 2 (by decide)).trans (show _ = some _ from rfl)
        have k3 := (hS 3 (by decide)).trans (show _ = some _ from rfl)
        simp (disch := omega) only [↓RU, RV, RH, ↓reduceIte, Nat.reduceEqDiff, reduceCtorEq, if_pos, ↓RS, RG, Nat.reduceAdd, Nat.reduceMul, Nat.reduceLeDiff, tyLLint, tyLimpl_rect, tyLint, tyPimpl_floor, tyimpl_floor, tyimpl_grid, tyimpl_rect, tyint, tystruct_cells_impl_grid_rooms_Limpl_rect_, tystruct_row_int_col_int_high_int_wide_int_, rcs_len, rcell_len, rcell_all, pp_load, pp_nil, pp_fa, pp_ia, k2, k3]
      refine eRunK_pend (.nils) rfl rfl rfl (fun S' hS => ?_) ?_
      · skip
        have k2 := (hS 2 (by decide)).trans (show _ = some _ from rfl)
        have k3 := (hS 3 (by decide)).trans (show _ = some _ from rfl)
        simp (disch := omega) only [↓RU, RV, RH, ↓reduceIte, Nat.reduceEqDiff, reduceCtorEq, if_pos, ↓RS, RG, Nat.reduceAdd, Nat.reduceMul, Nat.reduceLeDiff, tyLLint, tyLimpl_rect, tyLint, tyPimpl_floor, tyimpl_floor, tyimpl_grid, tyimpl_rect, tyint, tystruct_cells_impl_grid_rooms_Limpl_rect_, tystruct_row_int_col_int_high_int_wide_int_, rcs_len, rcell_len, rcell_all, pp_load, pp_nil, pp_fa, pp_ia, k2, k3]
      refine eRunK_go rfl ?_
      simp (disch := omega) only [↓RU, RV, RH, ↓reduceIte, Nat.reduceEqDiff, reduceCtorEq, if_pos, ↓RS, RG, Nat.reduceAdd, Nat.reduceMul, Nat.reduceLeDiff, tyLLint, tyLimpl_rect, tyLint, tyPimpl_floor, tyimpl_floor, tyimpl_grid, tyimpl_rect, tyint, tystruct_cells_impl_grid_rooms_Limpl_rect_, tystruct_row_int_col_int_high_int_wide_int_, rcs_len, rcell_len, rcell_all, keeps_cons, keeps_nil]
      refine eRunK_go rfl ?_
      simp (disch := omega) only [↓RU, RV, RH, ↓reduceIte, Nat.reduceEqDiff, reduceCtorEq, if_pos, ↓RS, RG, Nat.reduceAdd, Nat.reduceMul, Nat.reduceLeDiff, tyLLint, tyLimpl_rect, tyLint, tyPimpl_floor, tyimpl_floor, tyimpl_grid, tyimpl_rect, tyint, tystruct_cells_impl_grid_rooms_Limpl_rect_, tystruct_row_int_col_int_high_int_wide_int_, rcs_len, rcell_len, rcell_all, keeps_cons, keeps_nil]
      refine eRunK_go rfl ?_
      simp (disch := omega) only [↓RU, RV, RH, ↓reduceIte, Nat.reduceEqDiff, reduceCtorEq, if_pos, ↓RS, RG, Nat.reduceAdd, Nat.reduceMul, Nat.reduceLeDiff, tyLLint, tyLimpl_rect, tyLint, tyPimpl_floor, tyimpl_floor, tyimpl_grid, tyimpl_rect, tyint, tystruct_cells_impl_grid_rooms_Limpl_rect_, tystruct_row_int_col_int_high_int_wide_int_, rcs_len, rcell_len, rcell_all, keeps_cons, keeps_nil]
      refine eRunK_go rfl ?_
      simp (disch := omega) only [↓RU, RV, RH, ↓reduceIte, Nat.reduceEqDiff, reduceCtorEq, if_pos, ↓RS, RG, Nat.reduceAdd, Nat.reduceMul, Nat.reduceLeDiff, tyLLint, tyLimpl_rect, tyLint, tyPimpl_floor, tyimpl_floor, tyimpl_grid, tyimpl_rect, tyint, tystruct_cells_impl_grid_rooms_Limpl_rect_, tystruct_row_int_col_int_high_int_wide_int_, rcs_len, rcell_len, rcell_all, keeps_cons, keeps_nil]
      refine eRunK_go rfl ?_
      simp (disch := omega) only [↓RU, RV, RH, ↓reduceIte, Nat.reduceEqDiff, reduceCtorEq, if_pos, ↓RS, RG, Nat.reduceAdd, Nat.reduceMul, Nat.reduceLeDiff, tyLLint, tyLimpl_rect, tyLint, tyPimpl_floor, tyimpl_floor, tyimpl_grid, tyimpl_rect, tyint, tystruct_cells_impl_grid_rooms_Limpl_rect_, tystruct_row_int_col_int_high_int_wide_int_, rcs_len, rcell_len, rcell_all, keeps_cons, keeps_nil]
      refine eRunK_end ?_
      simp (disch := omega) only [↓RU, RV, RH, ↓reduceIte, Nat.reduceEqDiff, reduceCtorEq, if_pos, ↓RS, RG, Nat.reduceAdd, Nat.reduceMul, Nat.reduceLeDiff, tyLLint, tyLimpl_rect, tyLint, tyPimpl_floor, tyimpl_floor, tyimpl_grid, tyimpl_rect, tyint, tystruct_cells_impl_grid_rooms_Limpl_rect_, tystruct_row_int_col_int_high_int_wide_int_, rcs_len, rcell_len, rcell_all]
      refine hK _ _ ?_
      clear hK K
      refine XThen.norm ?_
      refine ⟨8, [9], [.int .i64 (r : Nat), .int .i64 (c : Nat), .ref 5 5 0, .ref 0 0 0, .ref 3 3 0, .int .i64 ((ks.idxOf z : Nat) : Int)], ⟨[.arr 0 55 1 [eGrid g], .arr 1 3 1 [.int .i64 w], .arr 2 58 2 [.nils, .loc 8 (t + 2) 0 ((seIn ks rs z (oneR r c))).length], .arr 3 51 1 [.ref 2 2 0], .map 4 (mE (seKs ks z)), .arr 5 136 1 [.mp 4 4], .arr xv 30 1 (gcs d (.loc 7 yv 0 w) m), .arr yv 3 1 (y.map (.int .i64)), .arr (t + 2) 69 4 (rcs (seIn ks rs z (oneR r c)))], (t + 3)⟩, ?_, ?_, (t + 2), (t + 3), rfl, rfl⟩
      · rw [hin]; simp [-List.mapM_map, Env.put, Env.of, argEnv, Srn_eq, rnObs_cons, rnObs_nil, rnOb_arr, rnOb_map, rn_loc, rn_ref, rn_mp, rn_int, rn_bool, rn_str, rn_ip, rn_sl, rn_nils, rn_nilp, rn_undef, rn_agg, rn_tup, rn_fn, rfq_loc, rfq_int, rfq_bool, rfq_str, rfq_sl, frOf, List.range_succ, List.mapM_append, List.mapM_cons]
      · rw [hki, hri, hn]; simp [-List.mapM_map, Env.put, Env.of, argEnv, Srn_eq, rnObs_cons, rnObs_nil, rnOb_arr, rnOb_map, rn_loc, rn_ref, rn_mp, rn_int, rn_bool, rn_str, rn_ip, rn_sl, rn_nils, rn_nilp, rn_undef, rn_agg, rn_tup, rn_fn, rfq_loc, rfq_int, rfq_bool, rfq_str, rfq_sl, frOf, List.range_succ, List.mapM_append, List.mapM_cons, rn_mE, rn_rcs, rn_ints, rn_gcs, mE_app, rcs_app, rcs_one, oneR_cells, rcs_tk]
    · try simp only [RL] at h
      exact absurd h (by simp)
  rintro vs S - ⟨vq, t, rfl, rfl⟩
  have hrs2 := seRs_is hb
  generalize hks1 : seKs ks z = ks1 at hi1 hst
  generalize hrs1 : seIn ks rs z (oneR r c) = rs1 at hb hi1 hi2 hrs2
  have hbl := len_of hb
  refine W.seq_draw (by kernel_rfl) fun K hK => ?_
  have hcell := (oneR_cells (r := r) (c := c)).symm
  have hba : PV.agg b.cells = eRect b := rfl
  simp (disch := omega) only [↓RU, RV, RH, ↓reduceIte, Nat.reduceEqDiff, reduceCtorEq, if_pos, List.append_nil, ↓RS, RG, Nat.reduceAdd, Nat.reduceMul, Nat.reduceLeDiff, tyLLint, tyLimpl_rect, tyLint, tyPimpl_floor, tyimpl_floor, tyimpl_grid, tyimpl_rect, tyint, tystruct_cells_impl_grid_rooms_Limpl_rect_, tystruct_row_int_col_int_high_int_wide_int_, rcs_at hb, rcs_len, ← oneR_cells, hcell, rcell_len, rcell_all, rcs_set4]
  refine CallR.pc (both_pc (b := b) (o := oneR r c) hbf.in_ (oneR_fit hr hc).in_) rfl (.inl rfl) ?_
  simp (disch := omega) only [↓RU, RV, RH, ↓reduceIte, Nat.reduceEqDiff, reduceCtorEq, if_pos, List.append_nil, ↓RS, RG, Nat.reduceAdd, Nat.reduceMul, Nat.reduceLeDiff, tyLLint, tyLimpl_rect, tyLint, tyPimpl_floor, tyimpl_floor, tyimpl_grid, tyimpl_rect, tyint, tystruct_cells_impl_grid_rooms_Limpl_rect_, tystruct_row_int_col_int_high_int_wide_int_, rcs_at hb, rcs_len, ← oneR_cells, hcell, rcell_len, rcell_all, rcs_set4]
  refine hK _ _ ?_
  clear hK K
  refine W.seq_region fun K hK => ?_
  simp (disch := omega) only [↓RU, RV, RH, ↓reduceIte, Nat.reduceEqDiff, reduceCtorEq, if_pos, ↓RS, RG, Nat.reduceAdd, Nat.reduceMul, Nat.reduceLeDiff]
  refine hK _ _ ?_
  clear hK K
  refine W.ret ?_
  refine BodyQ.ret rfl ?_
  refine ⟨9, rfl, vq, t, ?_⟩
  rw [hrs2]
  simp [take_eq]

theorem settled2_new_ev {g d : List (List Int)} {y : List Int} {row ks : List Int} {rs : List Rect} {z : Int} {r c w m xv yv vq t : Nat} (hr : r < 6) (hc : c < 6) (hrow : g[r]? = some row) (hz : row[c]? = some z) (hs : SeOk ks rs) (hk : ks.length ≤ 64) (hin : ks.idxOf z = ks.length) : Ev Try.prog 127 [.int .i64 (r : Nat), .int .i64 (c : Nat), .ref 5 5 0, .ref 0 0 0, .ref 3 3 0] ⟨[.arr 0 55 1 [eGrid g], .arr 1 3 1 [.int .i64 w], .arr 2 58 2 [.nils, .loc 8 vq 0 (rs).length], .arr 3 51 1 [.ref 2 2 0], .map 4 (mE ks), .arr 5 136 1 [.mp 4 4], .arr xv 30 1 (gcs d (.loc 7 yv 0 w) m), .arr yv 3 1 (y.map (.int .i64)), .arr vq 69 4 (rcs rs)], t⟩ fun v S => v = .int .i64 ((ks.idxOf z : Nat) : Int) ∧ ∃ vq t : Nat, S = ⟨[.arr 0 55 1 [eGrid g], .arr 1 3 1 [.int .i64 w], .arr 2 58 2 [.nils, .loc 8 vq 0 ((seRs ks rs z (oneR r c))).length], .arr 3 51 1 [.ref 2 2 0], .map 4 (mE (seKs ks z)), .arr 5 136 1 [.mp 4 4], .arr xv 30 1 (gcs d (.loc 7 yv 0 w) m), .arr yv 3 1 (y.map (.int .i64)), .arr vq 69 4 (rcs (seRs ks rs z (oneR r c)))], t⟩ := by
  have hrl := len_of hrow
  have hcl := len_of hz
  have hgl : g.length = g.length := rfl
  obtain ⟨hi1, hi2, b, hb, hbf⟩ := hs.in_ (z := z) (oneR_fit hr hc)
  have hil := idxOf_le (ks := ks) (z := z)
  have hsl := hs.1
  have hst := hs.step (z := z) (oneR_fit hr hc)
  have hfn := findKey_none hin
  have hki : seKs ks z = ks ++ [z] := by simp [seKs, hin]
  have hri : seIn ks rs z (oneR r c) = rs ++ [oneR r c] := by simp [seIn, hin]
  refine Ev.of ⟨Try.func127, by kernel_rfl, rfl, by kernel_rfl⟩ tabOk mixed (by show 5 ≤ Try.f127.ntmps; decide) ?_
  refine W.seq_region fun K hK => ?_
  simp (disch := omega) only [↓RU, RV, RH, ↓reduceIte, Nat.reduceEqDiff, reduceCtorEq, if_pos, ↓RS, RG, Nat.reduceAdd, Nat.reduceMul, Nat.reduceLeDiff]
  refine hK _ _ ?_
  clear hK K
  refine W.seq_draw (by kernel_rfl) fun K hK => ?_
  simp (disch := omega) only [↓RU, RV, RH, ↓reduceIte, Nat.reduceEqDiff, reduceCtorEq, if_pos, ↓RS, RG, Nat.reduceAdd, Nat.reduceMul, Nat.reduceLeDiff, tyLLint, tyLint, tyimpl_grid, tyint, tymapBint_int, hrow, hz, mE_len, hfn]
  refine hK _ _ ?_
  clear hK K
  refine W.joinS [0, 1, 2, 3, 4, 8] (fun vs S => ∃ vq t : Nat, vs = [.int .i64 (r : Nat), .int .i64 (c : Nat), .ref 5 5 0, .ref 0 0 0, .ref 3 3 0, .int .i64 ((ks.idxOf z : Nat) : Int)] ∧ S = ⟨[.arr 0 55 1 [eGrid g], .arr 1 3 1 [.int .i64 w], .arr 2 58 2 [.nils, .loc 8 vq 0 ((seIn ks rs z (oneR r c))).length], .arr 3 51 1 [.ref 2 2 0], .map 4 (mE (seKs ks z)), .arr 5 136 1 [.mp 4 4], .arr xv 30 1 (gcs d (.loc 7 yv 0 w) m), .arr yv 3 1 (y.map (.int .i64)), .arr vq 69 4 (rcs (seIn ks rs z (oneR r c)))], t⟩) ?_ ?_
  ·
    refine W.seq_region fun K hK => ?_
    simp (disch := omega) only [↓RU, RV, RH, ↓reduceIte, Nat.reduceEqDiff, reduceCtorEq, if_pos, ↓RS, RG, Nat.reduceAdd, Nat.reduceMul, Nat.reduceLeDiff]
    refine hK _ _ ?_
    clear hK K
    refine W.cond rfl (fun h => ?_) (fun h => ?_)
    · try simp only [RL] at h
      refine W.seq_region fun K hK => ?_
      simp (disch := omega) only [↓RU, RV, RH, ↓reduceIte, Nat.reduceEqDiff, reduceCtorEq, if_pos, ↓RS, RG, Nat.reduceAdd, Nat.reduceMul, Nat.reduceLeDiff, tyint, tymapBint_int, mE_len]
      refine hK _ _ ?_
      clear hK K
      refine W.seq_draw (by kernel_rfl) fun K hK => ?_
      simp (disch := omega) only [↓RU, RV, RH, ↓reduceIte, Nat.reduceEqDiff, reduceCtorEq, if_pos, ↓RS, RG, Nat.reduceAdd, Nat.reduceMul, Nat.reduceLeDiff, tyLLint, tyLint, tyimpl_grid, tyint, tymapBint_int, hrow, hz, hfn, keyed_int]
      refine hK _ _ ?_
      clear hK K
      refine W.region_pk 10 [some 35, some 36, some 37, some 38, some 39] [2, 3] (by decide) (by kernel_rfl) fun K hK => ?_
      simp only [List.take_succ_cons, List.take_zero, List.drop_succ_cons, List.drop_zero]
      refine eRunK_pend (.ref 2 2 0) rfl rfl rfl (fun S' hS => ?_) ?_
      · skip
        have k2 := (hS 2 (by decide)).trans (show _ = some _ from rfl)
        have k3 := (hS 3 (by decide)).trans (show _ = some _ from rfl)
        simp (disch := omega) only [↓RU, RV, RH, ↓reduceIte, Nat.reduceEqDiff, reduceCtorEq, if_pos, ↓RS, RG, Nat.reduceAdd, Nat.reduceMul, Nat.reduceLeDiff, tyLLint, tyLimpl_rect, tyLint, tyPimpl_floor, tyimpl_floor, tyimpl_grid, tyimpl_rect, tyint, tystruct_cells_impl_grid_rooms_Limpl_rect_, tystruct_row_int_col_int_high_int_wide_int_, rcs_len, rcell_len, rcell_all, pp_load, pp_nil, pp_fa, pp_ia, k2, k3]
      refine eRunK_pend (.ref 2 2 0) rfl rfl rfl (fun S' hS => ?_) ?_
      · skip
        have k2 := (hS 2 (by decide)).trans (show _ = some _ from rfl)
        have k3 := (hS 3 (by decide)).trans (show _ = some _ from rfl)
        simp (disch := omega) only [↓RU, RV, RH, ↓reduceIte, Nat.reduceEqDiff, reduceCtorEq, if_pos, ↓RS, RG, Nat.reduceAdd, Nat.reduceMul, Nat.reduceLeDiff, tyLLint, tyLimpl_rect, tyLint, tyPimpl_floor, tyimpl_floor, tyimpl_grid, tyimpl_rect, tyint, tystruct_cells_impl_grid_rooms_Limpl_rect_, tystruct_row_int_col_int_high_int_wide_int_, rcs_len, rcell_len, rcell_all, pp_load, pp_nil, pp_fa, pp_ia, k2, k3]
      refine eRunK_pend (.ref 2 2 0) rfl rfl rfl (fun S' hS => ?_) ?_
      · skip
        have k2 := (hS 2 (by decide)).trans (show _ = some _ from rfl)
        have k3 := (hS 3 (by decide)).trans (show _ = some _ from rfl)
        simp (disch := omega) only [↓RU, RV, RH, ↓reduceIte, Nat.reduceEqDiff, reduceCtorEq, if_pos, ↓RS, RG, Nat.reduceAdd, Nat.reduceMul, Nat.reduceLeDiff, tyLLint, tyLimpl_rect, tyLint, tyPimpl_floor, tyimpl_floor, tyimpl_grid, tyimpl_rect, tyint, tystruct_cells_impl_grid_rooms_Limpl_rect_, tystruct_row_int_col_int_high_int_wide_int_, rcs_len, rcell_len, rcell_all, pp_load, pp_nil, pp_fa, pp_ia, k2, k3]
      refine eRunK_pend (.ref 2 2 1) rfl rfl rfl (fun S' hS => ?_) ?_
      · skip
        have k2 := (hS 2 (by decide)).trans (show _ = some _ from rfl)
        have k3 := (hS 3 (by decide)).trans (show _ = some _ from rfl)
        simp (disch := omega) only [↓RU, RV, RH, ↓reduceIte, Nat.reduceEqDiff, reduceCtorEq, if_pos, ↓RS, RG, Nat.reduceAdd, Nat.reduceMul, Nat.reduceLeDiff, tyLLint, tyLimpl_rect, tyLint, tyPimpl_floor, tyimpl_floor, tyimpl_grid, tyimpl_rect, tyint, tystruct_cells_impl_grid_rooms_Limpl_rect_, tystruct_row_int_col_int_high_int_wide_int_, rcs_len, rcell_len, rcell_all, pp_load, pp_nil, pp_fa, pp_ia, k2, k3]
      refine eRunK_pend (.loc 8 vq 0 rs.length) rfl rfl rfl (fun S' hS => ?_) ?_
      · skip
        have k2 := (hS 2 (by decide)).trans (show _ = some _ from rfl)
        have k3 := (hS 3 (by decide)).trans (show _ = some _ from rfl)
        simp (disch := omega) only [↓RU, RV, RH, ↓reduceIte, Nat.reduceEqDiff, reduceCtorEq, if_pos, ↓RS, RG, Nat.reduceAdd, Nat.reduceMul, Nat.reduceLeDiff, tyLLint, tyLimpl_rect, tyLint, tyPimpl_floor, tyimpl_floor, tyimpl_grid, tyimpl_rect, tyint, tystruct_cells_impl_grid_rooms_Limpl_rect_, tystruct_row_int_col_int_high_int_wide_int_, rcs_len, rcell_len, rcell_all, pp_load, pp_nil, pp_fa, pp_ia, k2, k3]
      refine eRunK_go rfl ?_
      simp (disch := omega) only [↓RU, RV, RH, ↓reduceIte, Nat.reduceEqDiff, reduceCtorEq, if_pos, ↓RS, RG, Nat.reduceAdd, Nat.reduceMul, Nat.reduceLeDiff, tyLLint, tyLimpl_rect, tyLint, tyPimpl_floor, tyimpl_floor, tyimpl_grid, tyimpl_rect, tyint, tystruct_cells_impl_grid_rooms_Limpl_rect_, tystruct_row_int_col_int_high_int_wide_int_, rcs_len, rcell_len, rcell_all, keeps_cons, keeps_nil]
      refine eRunK_go rfl ?_
      simp (disch := omega) only [↓RU, RV, RH, ↓reduceIte, Nat.reduceEqDiff, reduceCtorEq, if_pos, ↓RS, RG, Nat.reduceAdd, Nat.reduceMul, Nat.reduceLeDiff, tyLLint, tyLimpl_rect, tyLint, tyPimpl_floor, tyimpl_floor, tyimpl_grid, tyimpl_rect, tyint, tystruct_cells_impl_grid_rooms_Limpl_rect_, tystruct_row_int_col_int_high_int_wide_int_, rcs_len, rcell_len, rcell_all, keeps_cons, keeps_nil]
      refine eRunK_go rfl ?_
      simp (disch := omega) only [↓RU, RV, RH, ↓reduceIte, Nat.reduceEqDiff, reduceCtorEq, if_pos, ↓RS, RG, Nat.reduceAdd, Nat.reduceMul, Nat.reduceLeDiff, tyLLint, tyLimpl_rect, tyLint, tyPimpl_floor, tyimpl_floor, tyimpl_grid, tyimpl_rect, tyint, tystruct_cells_impl_grid_rooms_Limpl_rect_, tystruct_row_int_col_int_high_int_wide_int_, rcs_len, rcell_len, rcell_all, keeps_cons, keeps_nil]
      refine eRunK_go rfl ?_
      simp (disch := omega) only [↓RU, RV, RH, ↓reduceIte, Nat.reduceEqDiff, reduceCtorEq, if_pos, ↓RS, RG, Nat.reduceAdd, Nat.reduceMul, Nat.reduceLeDiff, tyLLint, tyLimpl_rect, tyLint, tyPimpl_floor, tyimpl_floor, tyimpl_grid, tyimpl_rect, tyint, tystruct_cells_impl_grid_rooms_Limpl_rect_, tystruct_row_int_col_int_high_int_wide_int_, rcs_len, rcell_len, rcell_all, keeps_cons, keeps_nil]
      refine eRunK_go rfl ?_
      simp (disch := omega) only [↓RU, RV, RH, ↓reduceIte, Nat.reduceEqDiff, reduceCtorEq, if_pos, ↓RS, RG, Nat.reduceAdd, Nat.reduceMul, Nat.reduceLeDiff, tyLLint, tyLimpl_rect, tyLint, tyPimpl_floor, tyimpl_floor, tyimpl_grid, tyimpl_rect, tyint, tystruct_cells_impl_grid_rooms_Limpl_rect_, tystruct_row_int_col_int_high_int_wide_int_, rcs_len, rcell_len, rcell_all, keeps_cons, keeps_nil]
      refine eRunK_end ?_
      simp (disch := omega) only [↓RU, RV, RH, ↓reduceIte, Nat.reduceEqDiff, reduceCtorEq, if_pos, ↓RS, RG, Nat.reduceAdd, Nat.reduceMul, Nat.reduceLeDiff, tyLLint, tyLimpl_rect, tyLint, tyPimpl_floor, tyimpl_floor, tyimpl_grid, tyimpl_rect, tyint, tystruct_cells_impl_grid_rooms_Limpl_rect_, tystruct_row_int_col_int_high_int_wide_int_, rcs_len, rcell_len, rcell_all]
      refine hK _ _ ?_
      clear hK K
      refine XThen.norm ?_
      refine ⟨9, [], [.int .i64 (r : Nat), .int .i64 (c : Nat), .ref 5 5 0, .ref 0 0 0, .ref 3 3 0, .int .i64 ((ks.idxOf z : Nat) : Int)], ⟨[.arr 0 55 1 [eGrid g], .arr 1 3 1 [.int .i64 w], .arr 2 58 2 [.nils, .loc 8 (t + 1) 0 ((seIn ks rs z (oneR r c))).length], .arr 3 51 1 [.ref 2 2 0], .map 4 (mE (seKs ks z)), .arr 5 136 1 [.mp 4 4], .arr xv 30 1 (gcs d (.loc 7 yv 0 w) m), .arr yv 3 1 (y.map (.int .i64)), .arr (t + 1) 69 4 (rcs (seIn ks rs z (oneR r c)))], (t + 3)⟩, ?_, ?_, (t + 1), (t + 3), rfl, rfl⟩
      · rw [hin]; simp [-List.mapM_map, Env.put, Env.of, argEnv, Srn_eq, rnObs_cons, rnObs_nil, rnOb_arr, rnOb_map, rn_loc, rn_ref, rn_mp, rn_int, rn_bool, rn_str, rn_ip, rn_sl, rn_nils, rn_nilp, rn_undef, rn_agg, rn_tup, rn_fn, rfq_loc, rfq_int, rfq_bool, rfq_str, rfq_sl, frOf, List.range_succ, List.mapM_append, List.mapM_cons]
      · rw [hki, hri]; simp [-List.mapM_map, Env.put, Env.of, argEnv, Srn_eq, rnObs_cons, rnObs_nil, rnOb_arr, rnOb_map, rn_loc, rn_ref, rn_mp, rn_int, rn_bool, rn_str, rn_ip, rn_sl, rn_nils, rn_nilp, rn_undef, rn_agg, rn_tup, rn_fn, rfq_loc, rfq_int, rfq_bool, rfq_str, rfq_sl, frOf, List.range_succ, List.mapM_append, List.mapM_cons, rn_mE, rn_rcs, rn_ints, rn_gcs, mE_app, rcs_app, rcs_one, oneR_cells, rcs_tk]
    · try simp only [RL] at h
      exact absurd h (by simp)
  rintro vs S - ⟨vq, t, rfl, rfl⟩
  have hrs2 := seRs_is hb
  generalize hks1 : seKs ks z = ks1 at hi1 hst
  generalize hrs1 : seIn ks rs z (oneR r c) = rs1 at hb hi1 hi2 hrs2
  have hbl := len_of hb
  refine W.seq_draw (by kernel_rfl) fun K hK => ?_
  have hcell := (oneR_cells (r := r) (c := c)).symm
  have hba : PV.agg b.cells = eRect b := rfl
  simp (disch := omega) only [↓RU, RV, RH, ↓reduceIte, Nat.reduceEqDiff, reduceCtorEq, if_pos, List.append_nil, ↓RS, RG, Nat.reduceAdd, Nat.reduceMul, Nat.reduceLeDiff, tyLLint, tyLimpl_rect, tyLint, tyPimpl_floor, tyimpl_floor, tyimpl_grid, tyimpl_rect, tyint, tystruct_cells_impl_grid_rooms_Limpl_rect_, tystruct_row_int_col_int_high_int_wide_int_, rcs_at hb, rcs_len, ← oneR_cells, hcell, rcell_len, rcell_all, rcs_set4]
  refine CallR.pc (both_pc (b := b) (o := oneR r c) hbf.in_ (oneR_fit hr hc).in_) rfl (.inl rfl) ?_
  simp (disch := omega) only [↓RU, RV, RH, ↓reduceIte, Nat.reduceEqDiff, reduceCtorEq, if_pos, List.append_nil, ↓RS, RG, Nat.reduceAdd, Nat.reduceMul, Nat.reduceLeDiff, tyLLint, tyLimpl_rect, tyLint, tyPimpl_floor, tyimpl_floor, tyimpl_grid, tyimpl_rect, tyint, tystruct_cells_impl_grid_rooms_Limpl_rect_, tystruct_row_int_col_int_high_int_wide_int_, rcs_at hb, rcs_len, ← oneR_cells, hcell, rcell_len, rcell_all, rcs_set4]
  refine hK _ _ ?_
  clear hK K
  refine W.seq_region fun K hK => ?_
  simp (disch := omega) only [↓RU, RV, RH, ↓reduceIte, Nat.reduceEqDiff, reduceCtorEq, if_pos, ↓RS, RG, Nat.reduceAdd, Nat.reduceMul, Nat.reduceLeDiff]
  refine hK _ _ ?_
  clear hK K
  refine W.ret ?_
  refine BodyQ.ret rfl ?_
  refine ⟨9, rfl, vq, t, ?_⟩
  rw [hrs2]
  simp [take_eq]

end Fw
end Go.Proofs.Ytmhcknpjgikgmaa

/-! Grids of the program, gone through. -/
namespace Go.Proofs.Ytmhcknpjgikgmaa
namespace Fw
open Go

theorem settled2_ev {g d : List (List Int)} {y : List Int} {row ks : List Int} {rs : List Rect} {z : Int} {r c w m xv yv vq t : Nat} (hr : r < 6) (hc : c < 6) (hrow : g[r]? = some row) (hz : row[c]? = some z) (hs : SeOk ks rs) (hk : ks.length ≤ 64) :
    Ev Try.prog 127 [.int .i64 (r : Nat), .int .i64 (c : Nat), .ref 5 5 0, .ref 0 0 0, .ref 3 3 0] (seS g w xv yv (gcs d (.loc 7 yv 0 w) m) (y.map (.int .i64)) ks rs vq t)
      fun v S => v = .int .i64 ((ks.idxOf z : Nat) : Int) ∧ ∃ vq t : Nat, S = seS g w xv yv (gcs d (.loc 7 yv 0 w) m) (y.map (.int .i64)) (seKs ks z) (seRs ks rs z (oneR r c)) vq t := by
  have hne : seRs ks rs z (oneR r c) ≠ [] := (hs.step (z := z) (oneR_fit hr hc)).ne seKs_len.2.2
  simp only [seS_ne hne]
  by_cases h0 : rs = []
  · subst h0
    rw [seS_nil]
    exact settled2_first_ev (vq := 0) hr hc hrow hz hs hk rfl hs.nl
  · rw [seS_ne h0]
    by_cases hin : ks.idxOf z = ks.length
    · exact settled2_new_ev hr hc hrow hz hs hk hin
    · exact settled2_old_ev hr hc hrow hz hs hk hin

theorem blank_ev {g : List (List Int)} {nh nw : Nat} (hg : GW g nh nw) : Ev Try.prog 126 [.int .i64 nh, .int .i64 nw, .fn 127 [.ref 5 5 0, .ref 0 0 0, .ref 3 3 0]] ⟨prS g nw .nils [], 6⟩ fun v S => ∃ xv vq t : Nat, v = .loc 6 xv 0 nh ∧ S = seO g nw xv ((zRows g nw nh).map eInts) (seRows g nw nh).1 (seRows g nw nh).2 vq t := by
  have hl := hg.1
  obtain ⟨hg1, hg2, hg3, hg4⟩ := hg.2.2
  refine Ev.of ⟨Try.func126, by kernel_rfl, rfl, by kernel_rfl⟩ tabOk mixed (by show 3 ≤ Try.f126.ntmps; decide) ?_
  refine W.seq_region fun K hK => ?_
  simp (disch := omega) only [↓RU, RV, RH, ↓reduceIte, Nat.reduceEqDiff, reduceCtorEq, if_pos, ↓RS, RG, Nat.reduceAdd, Nat.reduceMul, Nat.reduceLeDiff, prS]
  refine hK _ _ ?_
  clear hK K
  refine W.seq_region fun K hK => ?_
  simp (disch := omega) only [↓RU, RV, RH, ↓reduceIte, Nat.reduceEqDiff, reduceCtorEq, if_pos, ↓RS, RG, Nat.reduceAdd, Nat.reduceMul, Nat.reduceLeDiff, tyLLint, tyLint, tyimpl_grid, tyint, prS, repz_nils, repz_int, ile_true]
  refine hK _ _ ?_
  clear hK K
  refine W.seq ?_
  refine W.seq_region fun K hK => ?_
  simp (disch := omega) only [↓RU, RV, RH, ↓reduceIte, Nat.reduceEqDiff, reduceCtorEq, if_pos, ↓RS, RG, Nat.reduceAdd, Nat.reduceMul, Nat.reduceLeDiff, tyLLint, tyLint, tyimpl_grid, tyint, prS]
  refine hK _ _ ?_
  clear hK K
  refine W.block ?_
  refine W.loopS [1, 2, 7, 13, 14] (fun n vs S => ∃ (i xv vq t : Nat), n = nh - i ∧ i ≤ nh ∧ vs = [.int .i64 nw, .fn 127 [.ref 5 5 0, .ref 0 0 0, .ref 3 3 0], .loc 6 xv 0 nh, .int .i64 nh, .int .i64 (i : Nat)] ∧ S = seO g nw xv (gc0 (zRows g nw i) (nh - i)) (seRows g nw i).1 (seRows g nw i).2 vq t) nh ?_ ?_
  · refine ⟨7, [], [.int .i64 nw, .fn 127 [.ref 5 5 0, .ref 0 0 0, .ref 3 3 0], .loc 6 6 0 nh, .int .i64 nh, .int .i64 (0 : Nat)], seO g nw 6 (gc0 (zRows g nw 0) (nh - 0)) (seRows g nw 0).1 (seRows g nw 0).2 0 8, ?_, ?_, 0, 6, 0, 8, rfl, Nat.zero_le _, rfl, rfl⟩
    · simp [-List.mapM_map, Env.put, Env.of, argEnv, Srn_eq, rnObs_cons, rnObs_nil, rnOb_arr, rnOb_map, rn_loc, rn_ref, rn_mp, rn_int, rn_bool, rn_str, rn_ip, rn_sl, rn_nils, rn_nilp, rn_undef, rn_agg, rn_tup, rn_fn, rfq_loc, rfq_int, rfq_bool, rfq_str, rfq_sl, frOf, List.range_succ, List.mapM_append, List.mapM_cons]
    · simp [-List.mapM_map, Env.put, Env.of, argEnv, Srn_eq, rnObs_cons, rnObs_nil, rnOb_arr, rnOb_map, rn_loc, rn_ref, rn_mp, rn_int, rn_bool, rn_str, rn_ip, rn_sl, rn_nils, rn_nilp, rn_undef, rn_agg, rn_tup, rn_fn, rfq_loc, rfq_int, rfq_bool, rfq_str, rfq_sl, frOf, List.range_succ, List.mapM_append, List.mapM_cons, prS, seO_nil, seRows, zRows, gc0_nil, rn_nilsr, rn_mE]
  rintro n vs S - ⟨i, xv, vq, t, rfl, h_i, rfl, rfl⟩
  refine W.seq_region fun K hK => ?_
  simp (disch := omega) only [↓RU, RV, RH, ↓reduceIte, Nat.reduceEqDiff, reduceCtorEq, if_pos, w64, ↓RS, RG, Nat.reduceAdd, Nat.reduceMul, Nat.reduceLeDiff, tyint, prS]
  refine hK _ _ ?_
  clear hK K
  refine W.seq ?_
  refine W.cond rfl (fun h => ?_) (fun h => ?_)
  · try simp only [RL] at h
    have hzl := zRows_len (g := g) (nw := nw) i
    have hiw : i < nh := by omega
    obtain ⟨hso, hsl, hsp⟩ := seRows_ok (g := g) hg4 hg3 i (by omega)
    refine W.skip ?_
    refine XThen.norm ?_
    refine W.seq ?_
    refine W.block ?_
    refine W.seq_region fun K hK => ?_
    simp (disch := omega) only [↓RU, RV, RH, ↓reduceIte, Nat.reduceEqDiff, reduceCtorEq, if_pos, ↓RS, RG, Nat.reduceAdd, Nat.reduceMul, Nat.reduceLeDiff, prS]
    refine hK _ _ ?_
    clear hK K
    refine W.joinS [1, 2, 7, 8, 13, 14] (fun vs S => ∃ (yv vq t : Nat), vs = [.int .i64 nw, .fn 127 [.ref 5 5 0, .ref 0 0 0, .ref 3 3 0], .loc 6 xv 0 nh, .int .i64 (i : Nat), .int .i64 nh, .int .i64 (i : Nat)] ∧ S = seS g nw xv yv (gcs (zRows g nw i) (.loc 7 yv 0 nw) (nh - i - 1)) ((List.replicate nw 0).map (.int .i64)) (seRows g nw i).1 (seRows g nw i).2 vq t) ?_ ?_
    ·
      refine W.region_k fun K hK => ?_
      by_cases hi0 : seRows g nw i = ([], [])
      · skip
        rw [hi0, seO_nil]
        simp (disch := omega) only [↓RU, RV, RH, ↓reduceIte, Nat.reduceEqDiff, reduceCtorEq, if_pos, ↓RS, RG, Nat.reduceAdd, Nat.reduceMul, Nat.reduceLeDiff, tyLLint, tyLint, tyimpl_grid, tyint, prS, repz_int, ile_true, gc0_len, zRows_len, gc0_set]
        refine hK _ _ ?_
        clear hK K
        refine XThen.norm ?_
        refine ⟨8, [], [.int .i64 nw, .fn 127 [.ref 5 5 0, .ref 0 0 0, .ref 3 3 0], .loc 6 xv 0 nh, .int .i64 (i : Nat), .int .i64 nh, .int .i64 (i : Nat)], seS g nw xv t (gcs (zRows g nw i) (.loc 7 t 0 nw) (nh - i - 1)) ((List.replicate nw 0).map (.int .i64)) (seRows g nw i).1 (seRows g nw i).2 vq (t + 2), ?_, ?_, t, vq, t + 2, rfl, rfl⟩
        · simp [-List.mapM_map, Env.put, Env.of, argEnv, Srn_eq, rnObs_cons, rnObs_nil, rnOb_arr, rnOb_map, rn_loc, rn_ref, rn_mp, rn_int, rn_bool, rn_str, rn_ip, rn_sl, rn_nils, rn_nilp, rn_undef, rn_agg, rn_tup, rn_fn, rfq_loc, rfq_int, rfq_bool, rfq_str, rfq_sl, frOf, List.range_succ, List.mapM_append, List.mapM_cons]
        · rw [hi0, seS_nil]; simp [-List.mapM_map, Env.put, Env.of, argEnv, Srn_eq, rnObs_cons, rnObs_nil, rnOb_arr, rnOb_map, rn_loc, rn_ref, rn_mp, rn_int, rn_bool, rn_str, rn_ip, rn_sl, rn_nils, rn_nilp, rn_undef, rn_agg, rn_tup, rn_fn, rfq_loc, rfq_int, rfq_bool, rfq_str, rfq_sl, frOf, List.range_succ, List.mapM_append, List.mapM_cons, prS, rn_mE, rn_rcs, rn_ints, rn_gcs, rn_rep, show List.idxOf 7 [8, 7] = 1 from rfl]
      · skip
        have hne : (seRows g nw i).2 ≠ [] := fun e => hi0 (by have := hso; rw [e] at this; rw [← Prod.eta (seRows g nw i), e, this.nl])
        rw [seO_ne hne]
        simp (disch := omega) only [↓RU, RV, RH, ↓reduceIte, Nat.reduceEqDiff, reduceCtorEq, if_pos, ↓RS, RG, Nat.reduceAdd, Nat.reduceMul, Nat.reduceLeDiff, tyLLint, tyLint, tyimpl_grid, tyint, prS, repz_int, ile_true, gc0_len, zRows_len, gc0_set]
        refine hK _ _ ?_
        clear hK K
        refine XThen.norm ?_
        refine ⟨7, [8, 7], [.int .i64 nw, .fn 127 [.ref 5 5 0, .ref 0 0 0, .ref 3 3 0], .loc 6 xv 0 nh, .int .i64 (i : Nat), .int .i64 nh, .int .i64 (i : Nat)], seS g nw xv (t + 1) (gcs (zRows g nw i) (.loc 7 (t + 1) 0 nw) (nh - i - 1)) ((List.replicate nw 0).map (.int .i64)) (seRows g nw i).1 (seRows g nw i).2 (t + 1) (t + 2), ?_, ?_, t + 1, t + 1, t + 2, rfl, rfl⟩
        · simp [-List.mapM_map, Env.put, Env.of, argEnv, Srn_eq, rnObs_cons, rnObs_nil, rnOb_arr, rnOb_map, rn_loc, rn_ref, rn_mp, rn_int, rn_bool, rn_str, rn_ip, rn_sl, rn_nils, rn_nilp, rn_undef, rn_agg, rn_tup, rn_fn, rfq_loc, rfq_int, rfq_bool, rfq_str, rfq_sl, frOf, List.range_succ, List.mapM_append, List.mapM_cons]
        · rw [seS_ne hne]; simp [-List.mapM_map, Env.put, Env.of, argEnv, Srn_eq, rnObs_cons, rnObs_nil, rnOb_arr, rnOb_map, rn_loc, rn_ref, rn_mp, rn_int, rn_bool, rn_str, rn_ip, rn_sl, rn_nils, rn_nilp, rn_undef, rn_agg, rn_tup, rn_fn, rfq_loc, rfq_int, rfq_bool, rfq_str, rfq_sl, frOf, List.range_succ, List.mapM_append, List.mapM_cons, prS, rn_mE, rn_rcs, rn_ints, rn_gcs, rn_rep, show List.idxOf 7 [8, 7] = 1 from rfl]
    rintro vs S - ⟨yv, vq, t, rfl, rfl⟩
    refine W.seq_region fun K hK => ?_
    simp (disch := omega) only [↓RU, RV, RH, ↓reduceIte, Nat.reduceEqDiff, reduceCtorEq, if_pos, ↓RS, RG, Nat.reduceAdd, Nat.reduceMul, Nat.reduceLeDiff, tyLLint, tyLint, tyimpl_grid, tyint, prS, seS_get6, seS_get7, gcs_get, gcs_len, hzl]
    refine hK _ _ ?_
    clear hK K
    refine W.block ?_
    refine W.loop [1, 2, 7, 8, 13, 14, 26, 27] (fun n vs S => ∃ (j vq t : Nat), n = nw - j ∧ j ≤ nw ∧ vs = [.int .i64 nw, .fn 127 [.ref 5 5 0, .ref 0 0 0, .ref 3 3 0], .loc 6 xv 0 nh, .int .i64 (i : Nat), .int .i64 nh, .int .i64 (i : Nat), .int .i64 nw, .int .i64 (j : Nat)] ∧ S = seS g nw xv yv (gcs (zRows g nw i) (.loc 7 yv 0 nw) (nh - i - 1)) ((zRow g i (seRows g nw i) j ++ List.replicate (nw - j) 0).map (.int .i64)) (seRow g i (seRows g nw i) j).1 (seRow g i (seRows g nw i) j).2 vq t) nw ?_ ?_
    · refine ⟨_, 0, vq, t, rfl, Nat.zero_le _, ?_, take_all⟩
      simp [Env.put, Env.of]
    rintro n vs S - ⟨j, vq, t, rfl, h_j, rfl, rfl⟩
    refine W.seq_region fun K hK => ?_
    simp (disch := omega) only [↓RU, RV, RH, ↓reduceIte, Nat.reduceEqDiff, reduceCtorEq, if_pos, w64, ↓RS, RG, Nat.reduceAdd, Nat.reduceMul, Nat.reduceLeDiff, tyint, prS]
    refine hK _ _ ?_
    clear hK K
    refine W.seq ?_
    refine W.cond rfl (fun h1 => ?_) (fun h1 => ?_)
    · try simp only [RL] at h1
      have hjw : j < nw := by omega
      obtain ⟨row, hrow, hrl, hz⟩ := hg.at_ hiw hjw
      obtain ⟨hro, hrl2, -, -⟩ := seRow_ok (g := g) (i := i) (by omega) hso j (by omega)
      have hYl : (zRow g i (seRows g nw i) j ++ List.replicate (nw - j) 0).length = nw := by simp only [List.length_append, List.length_replicate, zRow_len]; omega
      generalize hY : zRow g i (seRows g nw i) j ++ List.replicate (nw - j) 0 = Y at hYl
      refine W.skip ?_
      refine XThen.norm ?_
      refine W.seq ?_
      refine W.block ?_
      refine W.seq_region fun K hK => ?_
      simp (disch := omega) only [↓RU, RV, RH, ↓reduceIte, Nat.reduceEqDiff, reduceCtorEq, if_pos, ↓RS, RG, Nat.reduceAdd, Nat.reduceMul, Nat.reduceLeDiff, prS]
      refine hK _ _ ?_
      clear hK K
      refine W.region_pk 9 [some 32, some 33] [6] (by decide) (by kernel_rfl) fun K hK => ?_
      simp only [List.take_succ_cons, List.take_zero, List.drop_succ_cons, List.drop_zero]
      refine eRunK_go rfl ?_
      simp (disch := omega) only [↓RU, RV, RH, ↓reduceIte, Nat.reduceEqDiff, reduceCtorEq, if_pos, List.append_nil, ↓RS, RG, Nat.reduceAdd, Nat.reduceMul, Nat.reduceLeDiff, tyLLint, tyLint, tyimpl_grid, tyint, prS, seS_get6, seS_get7, gcs_get, gcs_len, hzl, seS_upd, set_spl, set_int, hYl, keeps_cons, keeps_nil]
      refine eRunK_go rfl ?_
      simp (disch := omega) only [↓RU, RV, RH, ↓reduceIte, Nat.reduceEqDiff, reduceCtorEq, if_pos, List.append_nil, ↓RS, RG, Nat.reduceAdd, Nat.reduceMul, Nat.reduceLeDiff, tyLLint, tyLint, tyimpl_grid, tyint, prS, seS_get6, seS_get7, gcs_get, gcs_len, hzl, seS_upd, set_spl, set_int, hYl, keeps_cons, keeps_nil]
      refine eRunK_pend (.ref 6 xv i) rfl rfl rfl (fun S' hS => ?_) ?_
      · skip
        have k6 := (hS 6 (by decide)).trans seS_get6
        simp (disch := omega) only [↓RU, RV, RH, ↓reduceIte, Nat.reduceEqDiff, reduceCtorEq, if_pos, List.append_nil, ↓RS, RG, Nat.reduceAdd, Nat.reduceMul, Nat.reduceLeDiff, tyLLint, tyLint, tyimpl_grid, tyint, prS, seS_get6, seS_get7, gcs_get, gcs_len, hzl, seS_upd, set_spl, set_int, hYl, pp_load, pp_nil, pp_fa, pp_ia, k6]
      refine eRunK_pend (.loc 7 yv 0 nw) rfl rfl rfl (fun S' hS => ?_) ?_
      · skip
        have k6 := (hS 6 (by decide)).trans seS_get6
        simp (disch := omega) only [↓RU, RV, RH, ↓reduceIte, Nat.reduceEqDiff, reduceCtorEq, if_pos, List.append_nil, ↓RS, RG, Nat.reduceAdd, Nat.reduceMul, Nat.reduceLeDiff, tyLLint, tyLint, tyimpl_grid, tyint, prS, seS_get6, seS_get7, gcs_get, gcs_len, hzl, seS_upd, set_spl, set_int, hYl, pp_load, pp_nil, pp_fa, pp_ia, k6]
      refine eRunK_go rfl ?_
      simp (disch := omega) only [↓RU, RV, RH, ↓reduceIte, Nat.reduceEqDiff, reduceCtorEq, if_pos, List.append_nil, ↓RS, RG, Nat.reduceAdd, Nat.reduceMul, Nat.reduceLeDiff, tyLLint, tyLint, tyimpl_grid, tyint, prS, seS_get6, seS_get7, gcs_get, gcs_len, hzl, seS_upd, set_spl, set_int, hYl, keeps_cons, keeps_nil]
      refine eRunK_go rfl ?_
      simp (disch := omega) only [↓RU, RV, RH, ↓reduceIte, Nat.reduceEqDiff, reduceCtorEq, if_pos, List.append_nil, ↓RS, RG, Nat.reduceAdd, Nat.reduceMul, Nat.reduceLeDiff, tyLLint, tyLint, tyimpl_grid, tyint, prS, seS_get6, seS_get7, gcs_get, gcs_len, hzl, seS_upd, set_spl, set_int, hYl, keeps_cons, keeps_nil]
      refine eRunK_go rfl ?_
      simp (disch := omega) only [↓RU, RV, RH, ↓reduceIte, Nat.reduceEqDiff, reduceCtorEq, if_pos, List.append_nil, ↓RS, RG, Nat.reduceAdd, Nat.reduceMul, Nat.reduceLeDiff, tyLLint, tyLint, tyimpl_grid, tyint, prS, seS_get6, seS_get7, gcs_get, gcs_len, hzl, seS_upd, set_spl, set_int, hYl, keeps_cons, keeps_nil]
      refine eRunK_go rfl ?_
      simp (disch := omega) only [↓RU, RV, RH, ↓reduceIte, Nat.reduceEqDiff, reduceCtorEq, if_pos, List.append_nil, ↓RS, RG, Nat.reduceAdd, Nat.reduceMul, Nat.reduceLeDiff, tyLLint, tyLint, tyimpl_grid, tyint, prS, seS_get6, seS_get7, gcs_get, gcs_len, hzl, seS_upd, set_spl, set_int, hYl, keeps_cons, keeps_nil]
      refine eRunK_go rfl ?_
      simp (disch := omega) only [↓RU, RV, RH, ↓reduceIte, Nat.reduceEqDiff, reduceCtorEq, if_pos, List.append_nil, ↓RS, RG, Nat.reduceAdd, Nat.reduceMul, Nat.reduceLeDiff, tyLLint, tyLint, tyimpl_grid, tyint, prS, seS_get6, seS_get7, gcs_get, gcs_len, hzl, seS_upd, set_spl, set_int, hYl, keeps_cons, keeps_nil]
      refine CallR.ev (settled2_ev (y := Y) (by omega) (by omega) hrow hz hro (by omega)) ?_
      rintro _ _ ⟨rfl, vq2, t2, rfl⟩
      simp (disch := omega) only [↓RU, RV, RH, ↓reduceIte, Nat.reduceEqDiff, reduceCtorEq, if_pos, List.append_nil, ↓RS, RG, Nat.reduceAdd, Nat.reduceMul, Nat.reduceLeDiff, tyLLint, tyLint, tyimpl_grid, tyint, prS, seS_get6, seS_get7, gcs_get, gcs_len, hzl, seS_upd, set_spl, set_int, hYl, keeps_cons, keeps_nil]
      refine eRunK_end ?_
      simp (disch := omega) only [↓RU, RV, RH, ↓reduceIte, Nat.reduceEqDiff, reduceCtorEq, if_pos, List.append_nil, ↓RS, RG, Nat.reduceAdd, Nat.reduceMul, Nat.reduceLeDiff, tyLLint, tyLint, tyimpl_grid, tyint, prS, seS_get6, seS_get7, gcs_get, gcs_len, hzl, seS_upd, set_spl, set_int, hYl]
      refine hK _ _ ?_
      clear hK K
      refine XBlock.norm ?_
      refine XThen.norm ?_
      refine W.region_k fun K hK => ?_
      simp (disch := omega) only [↓RU, RV, RH, ↓reduceIte, Nat.reduceEqDiff, reduceCtorEq, if_pos, w64, ↓RS, RG, Nat.reduceAdd, Nat.reduceMul, Nat.reduceLeDiff, tyint, prS]
      refine hK _ _ ?_
      clear hK K
      refine XThen.norm ?_
      refine ⟨nw - (j + 1), by omega, _, j + 1, vq2, t2, rfl, by omega, ?_, take_all_of ?_⟩
      rotate_left
      · rw [show zRow g i (seRows g nw i) (j + 1) ++ List.replicate (nw - (j + 1)) 0 = (zRow g i (seRows g nw i) j ++ List.replicate (nw - j) 0).set j (((seRow g i (seRows g nw i) j).1.idxOf (gz g i j) : Nat) : Int) from zRow_set hjw, hY]; rfl
      · simp [Env.put, Env.of]
    · try simp only [RL] at h1
      obtain rfl : nw = j := by omega
      obtain ⟨hro, hrl2, -, hro4⟩ := seRow_ok (g := g) (i := i) (by omega) hso nw hg4
      have hne := hro.ne (hro4 hg3)
      have hY : zRow g i (seRows g nw i) nw ++ List.replicate (nw - nw) 0 = zRow g i (seRows g nw i) nw := by rw [Nat.sub_self]; exact List.append_nil _
      have hYl := zRow_len (g := g) (i := i) (s := seRows g nw i) nw
      rw [hY, seS_ne hne]
      generalize hYe : zRow g i (seRows g nw i) nw = Y at hYl
      have hYt : (Y.map (PV.int .i64)).take nw = Y.map (PV.int .i64) := List.take_of_length_le (by rw [List.length_map]; omega)
      have hYE : eInts Y = PV.sl (Y.map (PV.int .i64)) nw := by rw [← hYl]
      have hsr : seRow g i (seRows g nw i) nw = seRows g nw (i + 1) := rfl
      rw [hsr] at hne ⊢
      have hzs : zRows g nw (i + 1) = zRows g nw i ++ [Y] := by rw [← hYe]; rfl
      refine W.exit ?_
      refine XThen.exit ?_
      refine XThen.exit ?_
      refine XBlock.hit ?_
      refine XBlock.norm ?_
      refine XThen.norm ?_
      refine W.region_k fun K hK => ?_
      simp (disch := omega) only [↓RU, RV, RH, ↓reduceIte, Nat.reduceEqDiff, reduceCtorEq, if_pos, w64, ↓RS, RG, Nat.reduceAdd, Nat.reduceMul, Nat.reduceLeDiff, tyint, prS]
      refine hK _ _ ?_
      clear hK K
      refine XThen.norm ?_
      refine ⟨nh - (i + 1), by omega, 7, [8], [.int .i64 nw, .fn 127 [.ref 5 5 0, .ref 0 0 0, .ref 3 3 0], .loc 6 xv 0 nh, .int .i64 nh, .int .i64 ((i + 1 : Nat) : Int)], seO g nw xv (gc0 (zRows g nw (i + 1)) (nh - (i + 1))) (seRows g nw (i + 1)).1 (seRows g nw (i + 1)).2 t (t + 1), ?_, ?_, i + 1, xv, t + 0, t + 1, rfl, by omega, rfl, rfl⟩
      · simp [-List.mapM_map, Env.put, Env.of, argEnv, Srn_eq, rnObs_cons, rnObs_nil, rnOb_arr, rnOb_map, rn_loc, rn_ref, rn_mp, rn_int, rn_bool, rn_str, rn_ip, rn_sl, rn_nils, rn_nilp, rn_undef, rn_agg, rn_tup, rn_fn, rfq_loc, rfq_int, rfq_bool, rfq_str, rfq_sl, frOf, List.range_succ, List.mapM_append, List.mapM_cons]
      · rw [seO_ne hne, hzs, ← gcs_gc0]; simp [-List.mapM_map, Env.put, Env.of, argEnv, Srn_eq, rnObs_cons, rnObs_nil, rnOb_arr, rnOb_map, rn_loc, rn_ref, rn_mp, rn_int, rn_bool, rn_str, rn_ip, rn_sl, rn_nils, rn_nilp, rn_undef, rn_agg, rn_tup, rn_fn, rfq_loc, rfq_int, rfq_bool, rfq_str, rfq_sl, frOf, List.range_succ, List.mapM_append, List.mapM_cons, prS, rn_mE, rn_rcs, rn_ints, rn_gcs2, hYl, hYt, hYE, rfq_ints, show nh - i - 1 = nh - (i + 1) by omega, show List.idxOf 8 [8] = 0 from rfl]
  · try simp only [RL] at h
    obtain rfl : nh = i := by omega
    refine W.exit ?_
    refine XThen.exit ?_
    refine XThen.exit ?_
    refine XBlock.hit ?_
    refine XThen.norm ?_
    refine W.seq_region fun K hK => ?_
    simp (disch := omega) only [↓RU, RV, RH, ↓reduceIte, Nat.reduceEqDiff, reduceCtorEq, if_pos, ↓RS, RG, Nat.reduceAdd, Nat.reduceMul, Nat.reduceLeDiff, prS]
    refine hK _ _ ?_
    clear hK K
    refine W.ret ?_
    refine BodyQ.ret rfl ?_
    rw [Nat.sub_self, gc0_all]
    exact ⟨_, xv, vq, t, rfl, take_all⟩

end Fw
end Go.Proofs.Ytmhcknpjgikgmaa

/-! Plans of the program, gone through. -/
namespace Go.Proofs.Ytmhcknpjgikgmaa
namespace Fw
open Go

theorem settled_pc {g : List (List Int)} (hsm : g.length < 2147483648) (hsr : ∀ r ∈ g, r.length < 2147483648) : PC Try.prog 100 [eGrid g] (settledV g) false := by
  refine PC.of ⟨Try.func100, by kernel_rfl, rfl, by kernel_rfl⟩ tabOk mixed (by show 1 ≤ Try.f100.ntmps; decide) ?_
  refine W.seq_region fun K hK => ?_
  simp (disch := omega) only [↓RU, RV, RH, ↓reduceIte, Nat.reduceEqDiff, reduceCtorEq, if_pos, ↓RS, RG, Nat.reduceAdd, Nat.reduceMul, Nat.reduceLeDiff, tyLLint, tyLint, tyimpl_grid, tyint]
  refine hK _ _ ?_
  clear hK K
  refine W.seq ?_
  refine W.seq_region fun K hK => ?_
  have hcase : g.length < 1 ∨ 6 < g.length ∨ ∃ row : List Int, g[0]? = some row ∧ row ∈ g ∧ (1 ≤ g.length ∧ g.length ≤ 6) ∧ (row.length < 1 ∨ 6 < row.length ∨ (1 ≤ row.length ∧ row.length ≤ 6)) := by
    by_cases h1 : g.length < 1
    · exact .inl h1
    · obtain ⟨row, h2, h3⟩ := get_of (show 0 < g.length by omega)
      by_cases h4 : 6 < g.length
      · exact .inr (.inl h4)
      · exact .inr (.inr ⟨row, h2, h3, by omega, by omega⟩)
  rcases hcase with hb | hb | ⟨row, hrow, hrm, hgl, hb | hb | hb⟩
  · skip
    have hd : decide ((g.length : Int) < 1) = true := decide_eq_true (by omega)
    simp (disch := omega) only [↓RU, RV, RH, ↓reduceIte, Nat.reduceEqDiff, reduceCtorEq, if_pos, w64, ↓RS, RG, Nat.reduceAdd, Nat.reduceMul, Nat.reduceLeDiff, tyLLint, tyLint, tyimpl_grid, tyint, hd]
    refine hK _ _ ?_
    clear hK K
    refine W.cond rfl (fun h => ?_) (fun h => ?_)
    · try simp only [RL] at h
      refine W.seq_region fun K hK => ?_
      simp (disch := omega) only [↓RU, RV, RH, ↓reduceIte, Nat.reduceEqDiff, reduceCtorEq, if_pos, ↓RS, RG, Nat.reduceAdd, Nat.reduceMul, Nat.reduceLeDiff]
      refine hK _ _ ?_
      clear hK K
      refine W.ret ?_
      refine XThen.ret ?_
      refine BodyQ.ret rfl ?_
      have hok : okS g = false := by simp [okS, okG]; omega
      rw [settledV, hok]
      rfl
    · try simp only [RL] at h
      exact absurd h (by simp)
  · skip
    have hd : decide ((g.length : Int) < 1) = false := decide_eq_false (by omega)
    have hd2 : decide ((g.length : Int) > 6) = true := decide_eq_true (by omega)
    simp (disch := omega) only [↓RU, RV, RH, ↓reduceIte, Nat.reduceEqDiff, reduceCtorEq, if_pos, w64, ↓RS, RG, Nat.reduceAdd, Nat.reduceMul, Nat.reduceLeDiff, tyLLint, tyLint, tyimpl_grid, tyint, hd, hd2]
    refine hK _ _ ?_
    clear hK K
    refine W.cond rfl (fun h => ?_) (fun h => ?_)
    · try simp only [RL] at h
      refine W.seq_region fun K hK => ?_
      simp (disch := omega) only [↓RU, RV, RH, ↓reduceIte, Nat.reduceEqDiff, reduceCtorEq, if_pos, ↓RS, RG, Nat.reduceAdd, Nat.reduceMul, Nat.reduceLeDiff]
      refine hK _ _ ?_
      clear hK K
      refine W.ret ?_
      refine XThen.ret ?_
      refine BodyQ.ret rfl ?_
      have hok : okS g = false := by simp [okS, okG]; omega
      rw [settledV, hok]
      rfl
    · try simp only [RL] at h
      exact absurd h (by simp)
  · skip
    have hrl := hsr row hrm
    have hw0 := w0_is hrow
    have hd : decide ((g.length : Int) < 1) = false := decide_eq_false (by omega)
    have hd2 : decide ((g.length : Int) > 6) = false := decide_eq_false (by omega)
    have hd3 : decide ((row.length : Int) < 1) = true := decide_eq_true (by omega)
    simp (disch := omega) only [↓RU, RV, RH, ↓reduceIte, Nat.reduceEqDiff, reduceCtorEq, if_pos, w64, ↓RS, RG, Nat.reduceAdd, Nat.reduceMul, Nat.reduceLeDiff, tyLLint, tyLint, tyimpl_grid, tyint, hd, hd2, hd3, hrow, Int.toNat_zero, Nat.zero_mul, Int.reduceToNat]
    refine hK _ _ ?_
    clear hK K
    refine W.cond rfl (fun h => ?_) (fun h => ?_)
    · try simp only [RL] at h
      refine W.seq_region fun K hK => ?_
      simp (disch := omega) only [↓RU, RV, RH, ↓reduceIte, Nat.reduceEqDiff, reduceCtorEq, if_pos, ↓RS, RG, Nat.reduceAdd, Nat.reduceMul, Nat.reduceLeDiff]
      refine hK _ _ ?_
      clear hK K
      refine W.ret ?_
      refine XThen.ret ?_
      refine BodyQ.ret rfl ?_
      have hok : okS g = false := by simp [okS, okG]; omega
      rw [settledV, hok]
      rfl
    · try simp only [RL] at h
      exact absurd h (by simp)
  · skip
    have hrl := hsr row hrm
    have hw0 := w0_is hrow
    have hd : decide ((g.length : Int) < 1) = false := decide_eq_false (by omega)
    have hd2 : decide ((g.length : Int) > 6) = false := decide_eq_false (by omega)
    have hd3 : decide ((row.length : Int) < 1) = false := decide_eq_false (by omega)
    have hd4 : decide ((row.length : Int) > 6) = true := decide_eq_true (by omega)
    simp (disch := omega) only [↓RU, RV, RH, ↓reduceIte, Nat.reduceEqDiff, reduceCtorEq, if_pos, w64, ↓RS, RG, Nat.reduceAdd, Nat.reduceMul, Nat.reduceLeDiff, tyLLint, tyLint, tyimpl_grid, tyint, hd, hd2, hd3, hd4, hrow, Int.toNat_zero, Nat.zero_mul, Int.reduceToNat]
    refine hK _ _ ?_
    clear hK K
    refine W.cond rfl (fun h => ?_) (fun h => ?_)
    · try simp only [RL] at h
      refine W.seq_region fun K hK => ?_
      simp (disch := omega) only [↓RU, RV, RH, ↓reduceIte, Nat.reduceEqDiff, reduceCtorEq, if_pos, ↓RS, RG, Nat.reduceAdd, Nat.reduceMul, Nat.reduceLeDiff]
      refine hK _ _ ?_
      clear hK K
      refine W.ret ?_
      refine XThen.ret ?_
      refine BodyQ.ret rfl ?_
      have hok : okS g = false := by simp [okS, okG]; omega
      rw [settledV, hok]
      rfl
    · try simp only [RL] at h
      exact absurd h (by simp)
  · skip
    have hrl := hsr row hrm
    have hw0 := w0_is hrow
    have hd : decide ((g.length : Int) < 1) = false := decide_eq_false (by omega)
    have hd2 : decide ((g.length : Int) > 6) = false := decide_eq_false (by omega)
    have hd3 : decide ((row.length : Int) < 1) = false := decide_eq_false (by omega)
    have hd4 : decide ((row.length : Int) > 6) = false := decide_eq_false (by omega)
    simp (disch := omega) only [↓RU, RV, RH, ↓reduceIte, Nat.reduceEqDiff, reduceCtorEq, if_pos, w64, ↓RS, RG, Nat.reduceAdd, Nat.reduceMul, Nat.reduceLeDiff, tyLLint, tyLint, tyimpl_grid, tyint, hd, hd2, hd3, hd4, hrow, Int.toNat_zero, Nat.zero_mul, Int.reduceToNat]
    refine hK _ _ ?_
    clear hK K
    refine W.cond rfl (fun h => ?_) (fun h => ?_)
    · try simp only [RL] at h
      exact absurd h (by simp)
    · try simp only [RL] at h
      refine W.skip ?_
      refine XThen.norm ?_
      refine W.seq_region fun K hK => ?_
      simp (disch := omega) only [↓RU, RV, RH, ↓reduceIte, Nat.reduceEqDiff, reduceCtorEq, if_pos, ↓RS, RG, Nat.reduceAdd, Nat.reduceMul, Nat.reduceLeDiff, tyLLint, tyLint, tyimpl_grid, tyint, hrow, Int.toNat_zero, Nat.zero_mul, Int.reduceToNat]
      refine hK _ _ ?_
      clear hK K
      refine W.seq ?_
      refine W.seq_region fun K hK => ?_
      simp (disch := omega) only [↓RU, RV, RH, ↓reduceIte, Nat.reduceEqDiff, reduceCtorEq, if_pos, List.append_nil, ↓RS, RG, Nat.reduceAdd, Nat.reduceMul, Nat.reduceLeDiff, tyLLint, tyLint, tyimpl_grid, tyint, hrow]
      refine CallR.pc (containsRow_pc (l := g) hsm (g := 125) (cap := [.ip [.int .i64 row.length] 0]) rfl rfl (test := fun r => decide ((r.length : Int) ≠ (row.length : Nat))) (fun r hr => settled1_pc r _ (hsr r hr))) rfl (.inl rfl) ?_
      simp (disch := omega) only [↓RU, RV, RH, ↓reduceIte, Nat.reduceEqDiff, reduceCtorEq, if_pos, List.append_nil, ↓RS, RG, Nat.reduceAdd, Nat.reduceMul, Nat.reduceLeDiff, tyLLint, tyLint, tyimpl_grid, tyint, hrow]
      refine hK _ _ ?_
      clear hK K
      refine W.cond rfl (fun h1 => ?_) (fun h1 => ?_)
      · try simp only [RL] at h1
        refine W.seq_region fun K hK => ?_
        simp (disch := omega) only [↓RU, RV, RH, ↓reduceIte, Nat.reduceEqDiff, reduceCtorEq, if_pos, ↓RS, RG, Nat.reduceAdd, Nat.reduceMul, Nat.reduceLeDiff]
        refine hK _ _ ?_
        clear hK K
        refine W.ret ?_
        refine XThen.ret ?_
        refine BodyQ.ret rfl ?_
        have hok : okS g = false := by unfold okS okG; rw [hw0, h1]; simp
        rw [settledV, hok]
        rfl
      · try simp only [RL] at h1
        have hg : GW g g.length row.length := by have := okG_iff (g := g); rw [hw0] at this; refine this.1 ?_; unfold okG; rw [hw0, h1]; simp; omega
        obtain ⟨hso, hsl, hs1⟩ := seRows_ok (g := g) (nw := row.length) (by omega) (by omega) g.length (by omega)
        have hne := hso.ne (hs1 (by omega))
        refine W.skip ?_
        refine XThen.norm ?_
        refine W.seq_region fun K hK => ?_
        simp (disch := omega) only [↓RU, RV, RH, ↓reduceIte, Nat.reduceEqDiff, reduceCtorEq, if_pos, ↓RS, RG, Nat.reduceAdd, Nat.reduceMul, Nat.reduceLeDiff, tyLLint, tyLimpl_rect, tyLint, tyPimpl_floor, tyimpl_floor, tyimpl_grid, tyimpl_rect, tyint, tystruct_cells_impl_grid_rooms_Limpl_rect_, tystruct_row_int_col_int_high_int_wide_int_]
        refine hK _ _ ?_
        clear hK K
        refine W.seq_region fun K hK => ?_
        simp (disch := omega) only [↓RU, RV, RH, ↓reduceIte, Nat.reduceEqDiff, reduceCtorEq, if_pos, ↓RS, RG, Nat.reduceAdd, Nat.reduceMul, Nat.reduceLeDiff, tyint, tymapBint_int]
        refine hK _ _ ?_
        clear hK K
        refine W.seq_pk 6 [some 42] [3] (by decide) (by kernel_rfl) fun K hK => ?_
        simp only [List.take_succ_cons, List.take_zero, List.drop_succ_cons, List.drop_zero]
        refine eRunK_pend (.ref 2 2 0) rfl rfl rfl (fun S' hS => ?_) ?_
        · skip
          have k3 := (hS 3 (by decide)).trans (show _ = some _ from rfl)
          simp (disch := omega) only [↓RU, RV, RH, ↓reduceIte, Nat.reduceEqDiff, reduceCtorEq, if_pos, List.append_nil, ↓RS, RG, Nat.reduceAdd, Nat.reduceMul, Nat.reduceLeDiff, tyLLint, tyLimpl_rect, tyLint, tyPimpl_floor, tyimpl_floor, tyimpl_grid, tyimpl_rect, tyint, tystruct_cells_impl_grid_rooms_Limpl_rect_, tystruct_row_int_col_int_high_int_wide_int_, pp_load, pp_nil, pp_fa, pp_ia, k3]
        refine eRunK_go rfl ?_
        simp (disch := omega) only [↓RU, RV, RH, ↓reduceIte, Nat.reduceEqDiff, reduceCtorEq, if_pos, List.append_nil, ↓RS, RG, Nat.reduceAdd, Nat.reduceMul, Nat.reduceLeDiff, tyLLint, tyLimpl_rect, tyLint, tyPimpl_floor, tyimpl_floor, tyimpl_grid, tyimpl_rect, tyint, tystruct_cells_impl_grid_rooms_Limpl_rect_, tystruct_row_int_col_int_high_int_wide_int_, keeps_cons, keeps_nil]
        refine eRunK_go rfl ?_
        simp (disch := omega) only [↓RU, RV, RH, ↓reduceIte, Nat.reduceEqDiff, reduceCtorEq, if_pos, List.append_nil, ↓RS, RG, Nat.reduceAdd, Nat.reduceMul, Nat.reduceLeDiff, tyLLint, tyLimpl_rect, tyLint, tyPimpl_floor, tyimpl_floor, tyimpl_grid, tyimpl_rect, tyint, tystruct_cells_impl_grid_rooms_Limpl_rect_, tystruct_row_int_col_int_high_int_wide_int_, keeps_cons, keeps_nil]
        refine eRunK_go rfl ?_
        simp (disch := omega) only [↓RU, RV, RH, ↓reduceIte, Nat.reduceEqDiff, reduceCtorEq, if_pos, List.append_nil, ↓RS, RG, Nat.reduceAdd, Nat.reduceMul, Nat.reduceLeDiff, tyLLint, tyLimpl_rect, tyLint, tyPimpl_floor, tyimpl_floor, tyimpl_grid, tyimpl_rect, tyint, tystruct_cells_impl_grid_rooms_Limpl_rect_, tystruct_row_int_col_int_high_int_wide_int_, keeps_cons, keeps_nil]
        refine eRunK_go rfl ?_
        simp (disch := omega) only [↓RU, RV, RH, ↓reduceIte, Nat.reduceEqDiff, reduceCtorEq, if_pos, List.append_nil, ↓RS, RG, Nat.reduceAdd, Nat.reduceMul, Nat.reduceLeDiff, tyLLint, tyLimpl_rect, tyLint, tyPimpl_floor, tyimpl_floor, tyimpl_grid, tyimpl_rect, tyint, tystruct_cells_impl_grid_rooms_Limpl_rect_, tystruct_row_int_col_int_high_int_wide_int_, keeps_cons, keeps_nil]
        refine eRunK_go rfl ?_
        simp (disch := omega) only [↓RU, RV, RH, ↓reduceIte, Nat.reduceEqDiff, reduceCtorEq, if_pos, List.append_nil, ↓RS, RG, Nat.reduceAdd, Nat.reduceMul, Nat.reduceLeDiff, tyLLint, tyLimpl_rect, tyLint, tyPimpl_floor, tyimpl_floor, tyimpl_grid, tyimpl_rect, tyint, tystruct_cells_impl_grid_rooms_Limpl_rect_, tystruct_row_int_col_int_high_int_wide_int_, keeps_cons, keeps_nil]
        refine CallR.ev (blank_ev hg) ?_
        rintro _ _ ⟨xv, vq, t, rfl, rfl⟩
        rw [seO_ne hne]
        simp only [prS]
        simp (disch := omega) only [↓RU, RV, RH, ↓reduceIte, Nat.reduceEqDiff, reduceCtorEq, if_pos, List.append_nil, ↓RS, RG, Nat.reduceAdd, Nat.reduceMul, Nat.reduceLeDiff, tyLLint, tyLimpl_rect, tyLint, tyPimpl_floor, tyimpl_floor, tyimpl_grid, tyimpl_rect, tyint, tystruct_cells_impl_grid_rooms_Limpl_rect_, tystruct_row_int_col_int_high_int_wide_int_, keeps_cons, keeps_nil]
        refine eRunK_end ?_
        simp (disch := omega) only [↓RU, RV, RH, ↓reduceIte, Nat.reduceEqDiff, reduceCtorEq, if_pos, List.append_nil, ↓RS, RG, Nat.reduceAdd, Nat.reduceMul, Nat.reduceLeDiff, tyLLint, tyLimpl_rect, tyLint, tyPimpl_floor, tyimpl_floor, tyimpl_grid, tyimpl_rect, tyint, tystruct_cells_impl_grid_rooms_Limpl_rect_, tystruct_row_int_col_int_high_int_wide_int_]
        refine hK _ _ ?_
        clear hK K
        refine W.seq ?_
        refine W.seq_region fun K hK => ?_
        simp (disch := omega) only [↓RU, RV, RH, ↓reduceIte, Nat.reduceEqDiff, reduceCtorEq, if_pos, w64, ↓RS, RG, Nat.reduceAdd, Nat.reduceMul, Nat.reduceLeDiff, tyLLint, tyLimpl_rect, tyLint, tyPimpl_floor, tyimpl_floor, tyimpl_grid, tyimpl_rect, tyint, tystruct_cells_impl_grid_rooms_Limpl_rect_, tystruct_row_int_col_int_high_int_wide_int_]
        refine hK _ _ ?_
        clear hK K
        refine W.cond rfl (fun h2 => ?_) (fun h2 => ?_)
        · try simp only [RL] at h2
          refine W.seq_region fun K hK => ?_
          simp (disch := omega) only [↓RU, RV, RH, ↓reduceIte, Nat.reduceEqDiff, reduceCtorEq, if_pos, ↓RS, RG, Nat.reduceAdd, Nat.reduceMul, Nat.reduceLeDiff]
          refine hK _ _ ?_
          clear hK K
          refine W.ret ?_
          refine XThen.ret ?_
          refine BodyQ.ret rfl ?_
          have hok : okS g = false := by unfold okS stG; rw [hw0]; simp only [Bool.and_eq_false_iff]; right; exact decide_eq_false (by omega)
          rw [settledV, hok]
          rfl
        · try simp only [RL] at h2
          refine W.skip ?_
          refine XThen.norm ?_
          refine W.seq_region fun K hK => ?_
          simp (disch := omega) only [↓RU, RV, RH, ↓reduceIte, Nat.reduceEqDiff, reduceCtorEq, if_pos, ↓RS, RG, Nat.reduceAdd, Nat.reduceMul, Nat.reduceLeDiff]
          refine hK _ _ ?_
          clear hK K
          refine W.seq ?_
          refine W.seq_region fun K hK => ?_
          simp (disch := omega) only [↓RU, RV, RH, ↓reduceIte, Nat.reduceEqDiff, reduceCtorEq, if_pos, ↓RS, RG, Nat.reduceAdd, Nat.reduceMul, Nat.reduceLeDiff, tyLLint, tyLimpl_rect, tyLint, tyPimpl_floor, tyimpl_floor, tyimpl_grid, tyimpl_rect, tyint, tystruct_cells_impl_grid_rooms_Limpl_rect_, tystruct_row_int_col_int_high_int_wide_int_]
          refine hK _ _ ?_
          clear hK K
          refine W.block ?_
          refine W.loop [5, 7, 59, 60, 61] (fun n vs S => ∃ k t : Nat, n = (seRows g row.length g.length).2.length - k ∧ k ≤ (seRows g row.length g.length).2.length ∧ vs = [.ref 3 3 0, .int .i64 (sumA ((seRows g row.length g.length).2.take k)), .loc 7 vq 0 (seRows g row.length g.length).2.length, .int .i64 (seRows g row.length g.length).2.length, .int .i64 (k : Nat)] ∧ S = ⟨[.arr 0 55 1 [eGrid g], .arr 1 3 1 [.int .i64 row.length], .arr 2 58 2 [.loc 6 xv 0 g.length, .loc 7 vq 0 (seRows g row.length g.length).2.length], .arr 3 51 1 [.ref 2 2 0], .map 4 (mE (seRows g row.length g.length).1), .arr 5 136 1 [.mp 4 4], .arr xv 30 1 ((zRows g row.length g.length).map eInts), .arr vq 69 4 (rcs (seRows g row.length g.length).2)], t⟩) (seRows g row.length g.length).2.length ?_ ?_
          · refine ⟨8, 0, t, rfl, Nat.zero_le _, ?_, ?_⟩
            · simp [Env.put, Env.of, argEnv, sumA]
            · simp [take_eq]
          rintro n vs S - ⟨k, t, rfl, h_k, rfl, rfl⟩
          refine W.seq_region fun K hK => ?_
          simp (disch := omega) only [↓RU, RV, RH, ↓reduceIte, Nat.reduceEqDiff, reduceCtorEq, if_pos, w64, ↓RS, RG, Nat.reduceAdd, Nat.reduceMul, Nat.reduceLeDiff, tyint]
          refine hK _ _ ?_
          clear hK K
          refine W.seq ?_
          refine W.cond rfl (fun h3 => ?_) (fun h3 => ?_)
          · try simp only [RL] at h3
            obtain ⟨b, hb2, hbm⟩ := get_of (show k < (seRows g row.length g.length).2.length by omega)
            have hbf := hso.2 b hbm
            have hba := hbf.area
            have hsb := sumA_bound hso.2 k
            refine W.skip ?_
            refine XThen.norm ?_
            refine W.seq ?_
            refine W.block ?_
            refine W.seq_region fun K hK => ?_
            simp (disch := omega) only [↓RU, RV, RH, ↓reduceIte, Nat.reduceEqDiff, reduceCtorEq, if_pos, ↓RS, RG, Nat.reduceAdd, Nat.reduceMul, Nat.reduceLeDiff, tyLimpl_rect, tyimpl_rect, tyint, tystruct_row_int_col_int_high_int_wide_int_, rcs_at hb2, rcs_len, rcell_len, rcell_all]
            refine hK _ _ ?_
            clear hK K
            refine W.region_k fun K hK => ?_
            simp (disch := omega) only [↓RU, RV, RH, ↓reduceIte, Nat.reduceEqDiff, reduceCtorEq, if_pos, List.append_nil, w64, ↓RS, RG, Nat.reduceAdd, Nat.reduceMul, Nat.reduceLeDiff, tyimpl_rect, tyint, tystruct_row_int_col_int_high_int_wide_int_, rcs_at hb2, rcell_len, rcs_len]
            refine CallR.pc (area_pc (r := b) (by omega) (by omega)) rfl (.inl rfl) ?_
            simp (disch := omega) only [↓RU, RV, RH, ↓reduceIte, Nat.reduceEqDiff, reduceCtorEq, if_pos, List.append_nil, w64, ↓RS, RG, Nat.reduceAdd, Nat.reduceMul, Nat.reduceLeDiff, tyimpl_rect, tyint, tystruct_row_int_col_int_high_int_wide_int_, rcs_at hb2, rcell_len, rcs_len]
            refine hK _ _ ?_
            clear hK K
            refine XBlock.norm ?_
            refine XThen.norm ?_
            refine W.region_k fun K hK => ?_
            simp (disch := omega) only [↓RU, RV, RH, ↓reduceIte, Nat.reduceEqDiff, reduceCtorEq, if_pos, w64, ↓RS, RG, Nat.reduceAdd, Nat.reduceMul, Nat.reduceLeDiff, tyint]
            refine hK _ _ ?_
            clear hK K
            refine XThen.norm ?_
            refine ⟨(seRows g row.length g.length).2.length - (k + 1), by omega, 8, k + 1, _, rfl, by omega, ?_, rfl⟩
            simp [Env.put, Env.of, sumA_succ hb2]
          · try simp only [RL] at h3
            obtain rfl : k = (seRows g row.length g.length).2.length := by omega
            rw [List.take_length]
            refine W.exit ?_
            refine XThen.exit ?_
            refine XThen.exit ?_
            refine XBlock.hit ?_
            refine XThen.norm ?_
            refine W.seq_draw (by kernel_rfl) fun K hK => ?_
            obtain ⟨zr, hzr, hzl, -⟩ := (zG_ok hg).at_ (i := 0) (j := 0) (by omega) (by omega)
            have hZl := zRows_len (g := g) (nw := row.length) g.length
            have hpr := Nat.mul_le_mul hgl.2 hb.2
            simp (disch := omega) only [↓RU, RV, RH, ↓reduceIte, Nat.reduceEqDiff, reduceCtorEq, if_pos, List.append_nil, w64, ↓RS, RG, Nat.reduceAdd, Nat.reduceMul, Nat.reduceLeDiff, tyPimpl_floor, tyint, hZl, hzl]
            refine CallR.pc (high_pc (zRows g row.length g.length) (seRows g row.length g.length).2) (mapM_one (reify_floor (f := 6) rfl rfl (zRows_len _) rfl) rfl) (.inl rfl) ?_
            simp (disch := omega) only [↓RU, RV, RH, ↓reduceIte, Nat.reduceEqDiff, reduceCtorEq, if_pos, List.append_nil, w64, ↓RS, RG, Nat.reduceAdd, Nat.reduceMul, Nat.reduceLeDiff, tyPimpl_floor, tyint, hZl, hzl]
            refine CallR.pc (wide_pc (g := (zRows g row.length g.length)) hzr (seRows g row.length g.length).2) (mapM_one (reify_floor (f := 6) rfl rfl (zRows_len _) rfl) rfl) (.inl rfl) ?_
            simp (disch := omega) only [↓RU, RV, RH, ↓reduceIte, Nat.reduceEqDiff, reduceCtorEq, if_pos, List.append_nil, w64, ↓RS, RG, Nat.reduceAdd, Nat.reduceMul, Nat.reduceLeDiff, tyPimpl_floor, tyint, hZl, hzl]
            refine hK _ _ ?_
            clear hK K
            refine W.ret ?_
            refine BodyQ.ret rfl ?_
            have hok : okS g = true := by unfold okS stG; rw [hw0, okG_iff.2 (by rw [hw0]; exact hg)]; simp; omega
            rw [settledV, hok, if_pos rfl]
            unfold stG zG fullG stG
            rw [hw0]
            refine reify_tup2 (k := 9) (reify_floor (f := 5) rfl rfl (zRows_len _) rfl) ?_
            have he : (sumA (seRows g row.length g.length).2 == (g.length : Int) * row.length) = decide (sumA (seRows g row.length g.length).2 = ((g.length * row.length : Nat) : Int)) := by rw [Int.natCast_mul]; rfl
            rw [← he]
            rfl

end Fw
end Go.Proofs.Ytmhcknpjgikgmaa

/-! Reading plans, gone through. -/
namespace Go.Proofs.Ytmhcknpjgikgmaa
namespace Fw
open Go

theorem settled_no {g : List (List Int)} (hsm : g.length < 2147483648) (hsr : ∀ r ∈ g, r.length < 2147483648) (h : okS g = false) : PC Try.prog 100 [eGrid g] (.tup [.nilp, .bool false]) false := by
  rw [← settledV_no h]; exact settled_pc hsm hsr
theorem settled_yes {g : List (List Int)} (hsm : g.length < 2147483648) (hsr : ∀ r ∈ g, r.length < 2147483648) (h : okS g = true) : PC Try.prog 100 [eGrid g] (.tup [eFloor (zG g) (stG g).2, .bool (fullG g)]) false := by
  rw [← settledV_yes h]; exact settled_pc hsm hsr

theorem read_pc {p : List Txt} (hs : Sm p) : PC Try.prog 78 [eStrs p] (readV p) false := by
  have hp := hs.rows
  refine PC.of ⟨Try.func78, by kernel_rfl, rfl, by kernel_rfl⟩ tabOk mixed (by show 1 ≤ Try.f78.ntmps; decide) ?_
  refine W.seq_region fun K hK => ?_
  simp (disch := omega) only [↓RU, RV, RH, ↓reduceIte, Nat.reduceEqDiff, reduceCtorEq, if_pos, ↓RS, RG, Nat.reduceAdd, Nat.reduceMul, Nat.reduceLeDiff]
  refine hK _ _ ?_
  clear hK K
  refine W.seq_region fun K hK => ?_
  simp (disch := omega) only [↓RU, RV, RH, ↓reduceIte, Nat.reduceEqDiff, reduceCtorEq, if_pos, ↓RS, RG, Nat.reduceAdd, Nat.reduceMul, Nat.reduceLeDiff, tyLLint, tyLint, tyimpl_grid, tyint]
  refine hK _ _ ?_
  clear hK K
  refine W.joinZ [4] (fun vs S => ∃ tk : Nat, lettersB p = true ∧ vs = [eGrid (readG p)] ∧ S = ⟨[], tk⟩) ?_ ?_
  ·
    refine W.seq_region fun K hK => ?_
    simp (disch := omega) only [↓RU, RV, RH, ↓reduceIte, Nat.reduceEqDiff, reduceCtorEq, if_pos, ↓RS, RG, Nat.reduceAdd, Nat.reduceMul, Nat.reduceLeDiff, tyLstring, tystring]
    refine hK _ _ ?_
    clear hK K
    refine W.block ?_
    refine W.loopZ [4, 11, 12, 13] (fun n vs S => ∃ i v0 tk : Nat, n = p.length - i ∧ i ≤ p.length ∧ ((p.take i).all (fun r => r.all letterB) = true) ∧ vs = [.loc 0 v0 0 i, eStrs p, .int .i64 p.length, .int .i64 i] ∧ S = ⟨[.arr v0 30 1 ((readG (p.take i)).map eInts)], tk⟩) (p.length) ?_ ?_
    · refine ⟨1, [.loc 0 0 0 0, eStrs p, .int .i64 p.length, .int .i64 0], ⟨[.arr 0 30 1 ((readG (p.take 0)).map eInts)], 1⟩, ?_, ?_, 0, 0, 1, rfl, by omega, rfl, rfl, rfl⟩
      · rfl
      · rfl
    rintro n vs S - ⟨i, v0, tk, rfl, h_i, hall, rfl, rfl⟩
    refine W.seq_region fun K hK => ?_
    simp (disch := omega) only [↓RU, RV, RH, ↓reduceIte, Nat.reduceEqDiff, reduceCtorEq, if_pos, w64, ↓RS, RG, Nat.reduceAdd, Nat.reduceMul, Nat.reduceLeDiff, tyint]
    refine hK _ _ ?_
    clear hK K
    refine W.seq ?_
    refine W.cond rfl (fun h => ?_) (fun h => ?_)
    · try simp only [RL] at h
      obtain ⟨row, hrow, hrm⟩ := get_of (show i < p.length by omega)
      have hrl := hs.cols row hrm
      have hgk : (readG (p.take i)).length = i := by rw [readG_len, List.length_take]; omega
      have hgt : ((readG (p.take i)).map eInts).take i = (readG (p.take i)).map eInts := List.take_of_length_le (by rw [List.length_map]; omega)
      refine W.skip ?_
      refine XThen.norm ?_
      refine W.seq ?_
      refine W.block ?_
      refine W.seq_region fun K hK => ?_
      simp (disch := omega) only [↓RU, RV, RH, ↓reduceIte, Nat.reduceEqDiff, reduceCtorEq, if_pos, ↓RS, RG, Nat.reduceAdd, Nat.reduceMul, Nat.reduceLeDiff, tyLstring, tystring, hrow]
      refine hK _ _ ?_
      clear hK K
      refine W.seq_region fun K hK => ?_
      simp (disch := omega) only [↓RU, RV, RH, ↓reduceIte, Nat.reduceEqDiff, reduceCtorEq, if_pos, ↓RS, RG, Nat.reduceAdd, Nat.reduceMul, Nat.reduceLeDiff, tyLint, tyint]
      refine hK _ _ ?_
      clear hK K
      refine W.seq ?_
      refine W.seq_region fun K hK => ?_
      simp (disch := omega) only [↓RU, RV, RH, ↓reduceIte, Nat.reduceEqDiff, reduceCtorEq, if_pos, w64, ↓RS, RG, Nat.reduceAdd, Nat.reduceMul, Nat.reduceLeDiff, tyLuint8, tystring, tyuint8]
      refine hK _ _ ?_
      clear hK K
      refine W.block ?_
      refine W.loop [4, 11, 12, 13, 7, 19, 20, 21] (fun n vs S => ∃ k v1 t : Nat, n = row.length - k ∧ k ≤ row.length ∧ ((row.take k).all letterB = true) ∧ vs = [.loc 0 v0 0 i, eStrs p, .int .i64 p.length, .int .i64 i, .loc 1 v1 0 k, .sl (row.map eB) row.length, .int .i64 row.length, .int .i64 k] ∧ S = ⟨[.arr v0 30 1 ((readG (p.take i)).map eInts), .arr v1 3 1 ((rowZ (row.take k)).map (.int .i64))], t⟩) (row.length) ?_ ?_
      · refine ⟨2, 0, _, _, rfl, Nat.zero_le _, rfl, ?_, rfl⟩
        simp [Env.put, Env.of]
      rintro n vs S - ⟨k, v1, t, rfl, h_k, hrk, rfl, rfl⟩
      refine W.seq_region fun K hK => ?_
      simp (disch := omega) only [↓RU, RV, RH, ↓reduceIte, Nat.reduceEqDiff, reduceCtorEq, if_pos, w64, ↓RS, RG, Nat.reduceAdd, Nat.reduceMul, Nat.reduceLeDiff, tyint]
      refine hK _ _ ?_
      clear hK K
      refine W.seq ?_
      refine W.cond rfl (fun h1 => ?_) (fun h1 => ?_)
      · try simp only [RL] at h1
        obtain ⟨c, hc, hcm⟩ := get_of (show k < row.length by omega)
        have hcb := c.toNat_lt
        have hrowk : (rowZ (row.take k)).length = k := by rw [rowZ_len, List.length_take]; omega
        have hrowt : ((rowZ (row.take k)).map (PV.int .i64)).take k = (rowZ (row.take k)).map (PV.int .i64) := List.take_of_length_le (by rw [List.length_map]; omega)
        refine W.skip ?_
        refine XThen.norm ?_
        refine W.seq ?_
        refine W.block ?_
        refine W.seq_region fun K hK => ?_
        simp (disch := omega) only [↓RU, RV, RH, ↓reduceIte, Nat.reduceEqDiff, reduceCtorEq, if_pos, ↓RS, RG, Nat.reduceAdd, Nat.reduceMul, Nat.reduceLeDiff, tyLuint8, tyuint8, hc]
        refine hK _ _ ?_
        clear hK K
        refine W.seq ?_
        refine W.seq_region fun K hK => ?_
        rcases (show (c.toNat : Int) < 97 ∨ (c.toNat : Int) > 122 ∨ (97 ≤ c.toNat ∧ c.toNat ≤ 122) by omega) with hb | hb | hb
        · skip
          have hd : decide ((c.toNat : Int) < 97) = true := decide_eq_true hb
          have hlc : letterB c = false := by unfold letterB; rw [decide_eq_false (by omega)]; rfl
          simp (disch := omega) only [↓RU, RV, RH, ↓reduceIte, Nat.reduceEqDiff, reduceCtorEq, if_pos, w64, ↓RS, RG, Nat.reduceAdd, Nat.reduceMul, Nat.reduceLeDiff, tyuint8, hd]
          refine hK _ _ ?_
          clear hK K
          refine W.cond rfl (fun h2 => ?_) (fun h2 => ?_)
          · try simp only [RL] at h2
            refine W.seq_region fun K hK => ?_
            simp (disch := omega) only [↓RU, RV, RH, ↓reduceIte, Nat.reduceEqDiff, reduceCtorEq, if_pos, ↓RS, RG, Nat.reduceAdd, Nat.reduceMul, Nat.reduceLeDiff]
            refine hK _ _ ?_
            clear hK K
            refine W.ret ?_
            refine XThen.ret ?_
            refine XBlock.ret ?_
            refine XThen.ret ?_
            refine XThen.ret ?_
            refine XBlock.ret ?_
            refine XThen.ret ?_
            refine XBlock.ret ?_
            refine XThen.ret ?_
            refine XThen.ret ?_
            refine XBlock.ret ?_
            refine XThen.ret ?_
            refine BodyQ.ret rfl ?_
            rw [readV, letters_bad hrm hcm hlc]
            rfl
          · try simp only [RL] at h2
            exact absurd h2 (by simp)
        · skip
          have hd : decide ((c.toNat : Int) < 97) = false := decide_eq_false (by omega)
          have hd2 : decide ((c.toNat : Int) > 122) = true := decide_eq_true hb
          have hlc : letterB c = false := by unfold letterB; rw [decide_eq_false (p := c.toNat ≤ 122) (by omega), Bool.and_false]
          simp (disch := omega) only [↓RU, RV, RH, ↓reduceIte, Nat.reduceEqDiff, reduceCtorEq, if_pos, w64, ↓RS, RG, Nat.reduceAdd, Nat.reduceMul, Nat.reduceLeDiff, tyuint8, hd, hd2]
          refine hK _ _ ?_
          clear hK K
          refine W.cond rfl (fun h2 => ?_) (fun h2 => ?_)
          · try simp only [RL] at h2
            refine W.seq_region fun K hK => ?_
            simp (disch := omega) only [↓RU, RV, RH, ↓reduceIte, Nat.reduceEqDiff, reduceCtorEq, if_pos, ↓RS, RG, Nat.reduceAdd, Nat.reduceMul, Nat.reduceLeDiff]
            refine hK _ _ ?_
            clear hK K
            refine W.ret ?_
            refine XThen.ret ?_
            refine XBlock.ret ?_
            refine XThen.ret ?_
            refine XThen.ret ?_
            refine XBlock.ret ?_
            refine XThen.ret ?_
            refine XBlock.ret ?_
            refine XThen.ret ?_
            refine XThen.ret ?_
            refine XBlock.ret ?_
            refine XThen.ret ?_
            refine BodyQ.ret rfl ?_
            rw [readV, letters_bad hrm hcm hlc]
            rfl
          · try simp only [RL] at h2
            exact absurd h2 (by simp)
        · skip
          have hd : decide ((c.toNat : Int) < 97) = false := decide_eq_false (by omega)
          have hd2 : decide ((c.toNat : Int) > 122) = false := decide_eq_false (by omega)
          have hlc : letterB c = true := by unfold letterB; rw [decide_eq_true hb.1, decide_eq_true hb.2]; rfl
          simp (disch := omega) only [↓RU, RV, RH, ↓reduceIte, Nat.reduceEqDiff, reduceCtorEq, if_pos, w64, ↓RS, RG, Nat.reduceAdd, Nat.reduceMul, Nat.reduceLeDiff, tyuint8, hd, hd2]
          refine hK _ _ ?_
          clear hK K
          refine W.cond rfl (fun h2 => ?_) (fun h2 => ?_)
          · try simp only [RL] at h2
            exact absurd h2 (by simp)
          · try simp only [RL] at h2
            refine W.skip ?_
            refine XThen.norm ?_
            refine W.region_k fun K hK => ?_
            simp (disch := omega) only [↓RU, RV, RH, ↓reduceIte, Nat.reduceEqDiff, reduceCtorEq, if_pos, w64, ↓RS, RG, Nat.reduceAdd, Nat.reduceMul, Nat.reduceLeDiff, tyLint, tyint, tyuint8, hrowk, hrowt, Nat.le_refl]
            refine hK _ _ ?_
            clear hK K
            refine XBlock.norm ?_
            refine XThen.norm ?_
            refine W.region_k fun K hK => ?_
            simp (disch := omega) only [↓RU, RV, RH, ↓reduceIte, Nat.reduceEqDiff, reduceCtorEq, if_pos, w64, ↓RS, RG, Nat.reduceAdd, Nat.reduceMul, Nat.reduceLeDiff, tyint]
            refine hK _ _ ?_
            clear hK K
            refine XThen.norm ?_
            refine ⟨row.length - (k + 1), by omega, 2, k + 1, t + 1, t + 2, rfl, by omega, all_tk hc hrk hlc, ?_, ?_⟩
            · simp [Env.put, Env.of]
            · simp [take_eq, rowZ_succ hc]
      · try simp only [RL] at h1
        obtain rfl : k = row.length := by omega
        have hra : row.all letterB = true := by rw [List.take_length] at hrk; exact hrk
        have hrz := rowZ_len row
        rw [List.take_length]
        generalize hYe : rowZ row = Y at hrz
        have hYt : (Y.map (PV.int .i64)).take row.length = Y.map (PV.int .i64) := List.take_of_length_le (by rw [List.length_map]; omega)
        have hYE : eInts Y = PV.sl (Y.map (PV.int .i64)) row.length := by rw [← hrz]
        refine W.exit ?_
        refine XThen.exit ?_
        refine XThen.exit ?_
        refine XBlock.hit ?_
        refine XThen.norm ?_
        refine W.region_k fun K hK => ?_
        simp (disch := omega) only [↓RU, RV, RH, ↓reduceIte, Nat.reduceEqDiff, reduceCtorEq, if_pos, ↓RS, RG, Nat.reduceAdd, Nat.reduceMul, Nat.reduceLeDiff, tyLLint, tyLint, tyimpl_grid, tyint, hgk, hgt, Nat.le_refl]
        refine hK _ _ ?_
        clear hK K
        refine XBlock.norm ?_
        refine XThen.norm ?_
        refine W.region_k fun K hK => ?_
        simp (disch := omega) only [↓RU, RV, RH, ↓reduceIte, Nat.reduceEqDiff, reduceCtorEq, if_pos, w64, ↓RS, RG, Nat.reduceAdd, Nat.reduceMul, Nat.reduceLeDiff, tyint]
        refine hK _ _ ?_
        clear hK K
        refine XThen.norm ?_
        refine ⟨p.length - (i + 1), by omega, 1, [.loc 0 (t + 1) 0 (i + 1), eStrs p, .int .i64 p.length, .int .i64 (i + 1)], ⟨[.arr (t + 1) 30 1 ((readG (p.take (i + 1))).map eInts)], (t + 2)⟩, ?_, ?_, (i + 1), (t + 1), (t + 2), rfl, by omega, all_tk hrow hall hra, rfl, rfl⟩
        · simp [-List.mapM_map, Store.frz, frzObs, frzOb, frz_eInts, frz_loc, rfz_loc, frz_int, frz_sl, frz_ints, rfz_ints, frz_strs, frz_bytes, rfz_bytes, rfz_str, rfz_bool, frz_str, frz_bool, Env.put, Env.of, argEnv, rfz_int, List.mapM_append, List.mapM_cons]
        · simp [-List.mapM_map, Store.frz, frzObs, frzOb, frz_eInts, frz_loc, rfz_loc, frz_int, frz_sl, frz_ints, rfz_ints, frz_strs, frz_bytes, rfz_bytes, rfz_str, rfz_bool, frz_str, frz_bool, Env.put, Env.of, argEnv, rfz_int, List.mapM_append, List.mapM_cons, readG_succ hrow, hYe, hYt, hYE, hrz]
    · try simp only [RL] at h
      refine W.exit ?_
      refine XThen.exit ?_
      refine XThen.exit ?_
      refine XBlock.hit ?_
      refine XThen.norm ?_
      obtain rfl : i = p.length := by omega
      rw [List.take_length] at hall ⊢
      have hgt2 : ((readG p).map eInts).take p.length = (readG p).map eInts := List.take_of_length_le (by simp [readG])
      have hgE : eGrid (readG p) = PV.sl ((readG p).map eInts) p.length := by rw [← readG_len p]
      refine ⟨0, [eGrid (readG p)], ⟨[], tk⟩, ?_, ?_, tk, hall, rfl, rfl⟩
      · simp [-List.mapM_map, Store.frz, frzObs, frzOb, frz_eInts, frz_loc, rfz_loc, frz_int, frz_sl, frz_ints, rfz_ints, frz_strs, frz_bytes, rfz_bytes, rfz_str, rfz_bool, frz_str, frz_bool, Env.put, Env.of, argEnv, rfz_int, List.mapM_append, List.mapM_cons, hgt2, hgE, readG_len, rfz_eIntss]
      · simp [-List.mapM_map, Store.frz, frzObs, frzOb, frz_eInts, frz_loc, rfz_loc, frz_int, frz_sl, frz_ints, rfz_ints, frz_strs, frz_bytes, rfz_bytes, rfz_str, rfz_bool, frz_str, frz_bool, Env.put, Env.of, argEnv, rfz_int, List.mapM_append, List.mapM_cons]
  rintro vs S - ⟨tk, hlet, rfl, rfl⟩
  refine W.seq_region fun K hK => ?_
  cases hok : okS (readG p)
  · skip
    simp (disch := omega) only [↓RU, RV, RH, ↓reduceIte, Nat.reduceEqDiff, reduceCtorEq, if_pos, List.append_nil, ↓RS, RG, Nat.reduceAdd, Nat.reduceMul, Nat.reduceLeDiff]
    refine CallR.pc (settled_no (g := readG p) (by rw [readG_len]; omega) (fun r hr => by obtain ⟨t, ht, rfl⟩ := List.mem_map.1 hr; rw [rowZ_len]; exact hs.cols t ht) hok) rfl (.inr rfl) ?_
    simp (disch := omega) only [↓RU, RV, RH, ↓reduceIte, Nat.reduceEqDiff, reduceCtorEq, if_pos, List.append_nil, ↓RS, RG, Nat.reduceAdd, Nat.reduceMul, Nat.reduceLeDiff]
    refine hK _ _ ?_
    clear hK K
    refine W.ret ?_
    refine BodyQ.ret rfl ?_
    rw [readV, hlet, if_pos rfl, settledV_no hok]
    rfl
  · skip
    simp (disch := omega) only [↓RU, RV, RH, ↓reduceIte, Nat.reduceEqDiff, reduceCtorEq, if_pos, List.append_nil, ↓RS, RG, Nat.reduceAdd, Nat.reduceMul, Nat.reduceLeDiff]
    refine CallR.pc (settled_yes (g := readG p) (by rw [readG_len]; omega) (fun r hr => by obtain ⟨t, ht, rfl⟩ := List.mem_map.1 hr; rw [rowZ_len]; exact hs.cols t ht) hok) rfl (.inr rfl) ?_
    simp (disch := omega) only [↓RU, RV, RH, ↓reduceIte, Nat.reduceEqDiff, reduceCtorEq, if_pos, List.append_nil, ↓RS, RG, Nat.reduceAdd, Nat.reduceMul, Nat.reduceLeDiff]
    refine hK _ _ ?_
    clear hK K
    refine W.ret ?_
    refine BodyQ.ret rfl ?_
    rw [readV, hlet, if_pos rfl, settledV_yes hok]
    rfl

theorem read_no {p : List Txt} (hs : Sm p) (h : okB p = false) : PC Try.prog 78 [eStrs p] (.tup [.nilp, .bool false]) false := by
  rw [← readV_no h]; exact read_pc hs
theorem read_yes {p : List Txt} (hs : Sm p) (h : okB p = true) : PC Try.prog 78 [eStrs p] (.tup [eFloor (gP p) (rP p), .bool (fullG (readG p))]) false := by
  rw [← readV_yes h]; exact read_pc hs

theorem floorOf_no {p : List Txt} (hs : Sm p) (h : okB p = false) : PC Try.prog 49 [eStrs p] (.tup [.nilp, .bool false]) false := by
  refine PC.of ⟨Try.func49, by kernel_rfl, rfl, by kernel_rfl⟩ tabOk mixed (by show 1 ≤ Try.f49.ntmps; decide) ?_
  refine W.seq_region fun K hK => ?_
  simp (disch := omega) only [↓RU, RV, RH, ↓reduceIte, Nat.reduceEqDiff, reduceCtorEq, if_pos]
  refine hK _ _ ?_
  clear hK K
  refine W.seq_region fun K hK => ?_
  simp (disch := omega) only [↓RU, RV, RH, ↓reduceIte, Nat.reduceEqDiff, reduceCtorEq, if_pos, List.append_nil]
  refine CallR.pc (read_no hs h) rfl (.inr rfl) ?_
  simp (disch := omega) only [↓RU, RV, RH, ↓reduceIte, Nat.reduceEqDiff, reduceCtorEq, if_pos, List.append_nil]
  refine hK _ _ ?_
  clear hK K
  refine W.seq_region fun K hK => ?_
  simp (disch := omega) only [↓RU, RV, RH, ↓reduceIte, Nat.reduceEqDiff, reduceCtorEq, if_pos, List.append_nil]
  refine hK _ _ ?_
  clear hK K
  refine W.ret ?_
  refine BodyQ.ret rfl ?_
  rfl

theorem floorOf_yes {p : List Txt} (hs : Sm p) (h : okB p = true) : PC Try.prog 49 [eStrs p] (.tup [eFloor (gP p) (rP p), .bool (floorV p)]) false := by
  have hg := okB_gw h
  have hz := okB_bound h
  have hrows := hs.rows
  refine PC.of ⟨Try.func49, by kernel_rfl, rfl, by kernel_rfl⟩ tabOk mixed (by show 1 ≤ Try.f49.ntmps; decide) ?_
  refine W.seq_region fun K hK => ?_
  simp (disch := omega) only [↓RU, RV, RH, ↓reduceIte, Nat.reduceEqDiff, reduceCtorEq, if_pos]
  refine hK _ _ ?_
  clear hK K
  refine W.seq_region fun K hK => ?_
  simp (disch := omega) only [↓RU, RV, RH, ↓reduceIte, Nat.reduceEqDiff, reduceCtorEq, if_pos, List.append_nil]
  refine CallR.pc (read_yes hs h) rfl (.inr rfl) ?_
  simp (disch := omega) only [↓RU, RV, RH, ↓reduceIte, Nat.reduceEqDiff, reduceCtorEq, if_pos, List.append_nil]
  refine hK _ _ ?_
  clear hK K
  refine W.seq_region fun K hK => ?_
  cases hf : fullG (readG p)
  · skip
    simp (disch := omega) only [↓RU, RV, RH, ↓reduceIte, Nat.reduceEqDiff, reduceCtorEq, if_pos, List.append_nil]
    refine hK _ _ ?_
    clear hK K
    refine W.ret ?_
    refine BodyQ.ret rfl ?_
    rw [floorV, hf]
    rfl
  · skip
    simp (disch := omega) only [↓RU, RV, RH, ↓reduceIte, Nat.reduceEqDiff, reduceCtorEq, if_pos, List.append_nil, hf]
    refine CallR.pc (text_pc hg (rP p) hz) rfl (.inl rfl) ?_
    simp (disch := omega) only [↓RU, RV, RH, ↓reduceIte, Nat.reduceEqDiff, reduceCtorEq, if_pos, List.append_nil, hf]
    refine CallR.pc (equalStrs_pc (p := textG (gP p)) (q := p) (by rw [textG_len, hg.1]; omega) hs.rows) rfl (.inl rfl) ?_
    simp (disch := omega) only [↓RU, RV, RH, ↓reduceIte, Nat.reduceEqDiff, reduceCtorEq, if_pos, List.append_nil, hf]
    refine hK _ _ ?_
    clear hK K
    refine W.ret ?_
    refine BodyQ.ret rfl ?_
    rw [floorV, hf]
    rfl

theorem floorOf_ex {p : List Txt} (hs : Sm p) : ∃ x, PC Try.prog 49 [eStrs p] (.tup [x, .bool (floorI p)]) false ∧ (floorI p = true → x = eFloor (gP p) (rP p)) ∧ ∀ (S : Store) (k : Nat), reify S true (k + 1) x = some x := by
  unfold floorI
  cases h : okB p with
  | false => exact ⟨_, floorOf_no hs h, (fun h => by cases h), fun _ _ => rfl⟩
  | true => exact ⟨_, floorOf_yes hs h, fun _ => rfl, fun _ _ => rfl⟩

theorem plainOf_ex0 {p : List Txt} (hs : Sm p) {x : PV} (hx : PC Try.prog 49 [eStrs p] (.tup [x, .bool (floorI p)]) false) (hy : floorI p = true → x = eFloor (gP p) (rP p)) (hr : ∀ (S : Store) (k : Nat), reify S true (k + 1) x = some x) : PC Try.prog 82 [eStrs p] (.tup [x, .bool (plainI p)]) false := by
  refine PC.of ⟨Try.func82, by kernel_rfl, rfl, by kernel_rfl⟩ tabOk mixed (by show 1 ≤ Try.f82.ntmps; decide) ?_
  refine W.seq_region fun K hK => ?_
  simp (disch := omega) only [↓RU, RV, RH, ↓reduceIte, Nat.reduceEqDiff, reduceCtorEq, if_pos]
  refine hK _ _ ?_
  clear hK K
  refine W.seq_region fun K hK => ?_
  simp (disch := omega) only [↓RU, RV, RH, ↓reduceIte, Nat.reduceEqDiff, reduceCtorEq, if_pos, List.append_nil]
  refine CallR.pc (hx) rfl (.inr rfl) ?_
  simp (disch := omega) only [↓RU, RV, RH, ↓reduceIte, Nat.reduceEqDiff, reduceCtorEq, if_pos, List.append_nil]
  refine hK _ _ ?_
  clear hK K
  refine W.seq_region fun K hK => ?_
  cases hf : floorI p
  · skip
    simp (disch := omega) only [↓RU, RV, RH, ↓reduceIte, Nat.reduceEqDiff, reduceCtorEq, if_pos, List.append_nil]
    refine hK _ _ ?_
    clear hK K
    refine W.ret ?_
    refine BodyQ.ret rfl ?_
    rw [plainI, hf]
    exact reify_tup2 (k := 9) (hr _ 8) rfl
  · skip
    have hxe := hy hf
    subst hxe
    have hok : okB p = true := by unfold floorI at hf; rw [Bool.and_eq_true] at hf; exact hf.1
    have hg := okB_gw hok
    simp (disch := omega) only [↓RU, RV, RH, ↓reduceIte, Nat.reduceEqDiff, reduceCtorEq, if_pos, List.append_nil, hf]
    refine CallR.pc (fplain_pc hg (rP p)) rfl (.inl rfl) ?_
    simp (disch := omega) only [↓RU, RV, RH, ↓reduceIte, Nat.reduceEqDiff, reduceCtorEq, if_pos, List.append_nil, hf]
    refine hK _ _ ?_
    clear hK K
    refine W.ret ?_
    refine BodyQ.ret rfl ?_
    rw [plainI, hf]
    rfl

theorem plain_okB {p : List Txt} (h : plainI p = true) : okB p = true ∧ plainI p = true := by
  refine ⟨?_, h⟩
  unfold plainI floorI at h
  simp only [Bool.and_eq_true] at h
  exact h.1.1
theorem plainOf_ex {p : List Txt} (hs : Sm p) : ∃ x, PC Try.prog 82 [eStrs p] (.tup [x, .bool (plainI p)]) false ∧ (plainI p = true → x = eFloor (gP p) (rP p)) ∧ ∀ (S : Store) (k : Nat), reify S true (k + 1) x = some x := by
  obtain ⟨x, h1, h2, h3⟩ := floorOf_ex hs
  refine ⟨x, plainOf_ex0 hs h1 h2 h3, fun h => h2 ?_, h3⟩
  unfold plainI at h
  rw [Bool.and_eq_true] at h
  exact h.1

end Fw
end Go.Proofs.Ytmhcknpjgikgmaa

/-! Sizes by the program, gone through. -/
namespace Go.Proofs.Ytmhcknpjgikgmaa
namespace Fw
open Go

theorem needing_ev {p : List Txt} (hs : Sm p) {wss : List (List Int)} (hn : wss.length ≤ 1000) (hw : ∀ ws ∈ wss, ws.length ≤ 1048576) {wv t : Nat} : Ev Try.prog 53 [eStrs p, .loc 0 wv 0 wss.length] ⟨[.arr wv 30 1 (wss.map eInts)], t⟩ fun v S => ∃ x, v = .tup [x, .bool (needV p wss)] ∧ ((needV p wss) = true → x = eFloor (gP p) (rP p)) ∧ S = ⟨[.arr wv 30 1 (wss.map eInts)], t⟩ := by
  obtain ⟨x, hx, hxy, hxr⟩ := plainOf_ex hs
  refine Ev.of ⟨Try.func53, by kernel_rfl, rfl, by kernel_rfl⟩ tabOk mixed (by show 2 ≤ Try.f53.ntmps; decide) ?_
  refine W.seq_region fun K hK => ?_
  simp (disch := omega) only [↓RU, RV, RH, ↓reduceIte, Nat.reduceEqDiff, reduceCtorEq, if_pos, ↓RS, RG, Nat.reduceAdd, Nat.reduceMul, Nat.reduceLeDiff]
  refine hK _ _ ?_
  clear hK K
  refine W.seq_region fun K hK => ?_
  simp (disch := omega) only [↓RU, RV, RH, ↓reduceIte, Nat.reduceEqDiff, reduceCtorEq, if_pos, List.append_nil, ↓RS, RG, Nat.reduceAdd, Nat.reduceMul, Nat.reduceLeDiff]
  refine CallR.pc (hx) rfl (.inr rfl) ?_
  simp (disch := omega) only [↓RU, RV, RH, ↓reduceIte, Nat.reduceEqDiff, reduceCtorEq, if_pos, List.append_nil, ↓RS, RG, Nat.reduceAdd, Nat.reduceMul, Nat.reduceLeDiff]
  refine hK _ _ ?_
  clear hK K
  refine W.seq ?_
  refine W.seq_region fun K hK => ?_
  simp (disch := omega) only [↓RU, RV, RH, ↓reduceIte, Nat.reduceEqDiff, reduceCtorEq, if_pos, ↓RS, RG, Nat.reduceAdd, Nat.reduceMul, Nat.reduceLeDiff]
  refine hK _ _ ?_
  clear hK K
  refine W.cond rfl (fun h => ?_) (fun h => ?_)
  · try simp only [RL] at h
    refine W.seq_region fun K hK => ?_
    simp (disch := omega) only [↓RU, RV, RH, ↓reduceIte, Nat.reduceEqDiff, reduceCtorEq, if_pos, ↓RS, RG, Nat.reduceAdd, Nat.reduceMul, Nat.reduceLeDiff]
    refine hK _ _ ?_
    clear hK K
    refine W.ret ?_
    refine XThen.ret ?_
    refine BodyQ.ret rfl ?_
    exact ⟨_, _, by rw [needV, h]; rfl, fun h9 => absurd h9 (by unfold needV; rw [h]; exact Bool.false_ne_true), take_all⟩
  · try simp only [RL] at h
    obtain rfl := hxy h
    refine W.skip ?_
    refine XThen.norm ?_
    refine W.seq_region fun K hK => ?_
    simp (disch := omega) only [↓RU, RV, RH, ↓reduceIte, Nat.reduceEqDiff, reduceCtorEq, if_pos, ↓RS, RG, Nat.reduceAdd, Nat.reduceMul, Nat.reduceLeDiff]
    refine hK _ _ ?_
    clear hK K
    refine W.seq ?_
    refine W.seq_region fun K hK => ?_
    simp (disch := omega) only [↓RU, RV, RH, ↓reduceIte, Nat.reduceEqDiff, reduceCtorEq, if_pos, ↓RS, RG, Nat.reduceAdd, Nat.reduceMul, Nat.reduceLeDiff, tyLLint, tyLint, tyint, cells_fn, ic_fn]
    refine hK _ _ ?_
    clear hK K
    refine W.block ?_
    refine W.loop [6, 8, 18, 19, 20] (fun n vs S => ∃ i : Nat, n = wss.length - i ∧ i ≤ wss.length ∧ ((wss.take i).all (needW p) = true) ∧ vs = [eFloor (gP p) (rP p), .fn 83 [], .loc 0 wv 0 wss.length, .int .i64 wss.length, .int .i64 i] ∧ S = ⟨[.arr wv 30 1 (wss.map eInts)], t⟩) (wss.length) ?_ ?_
    · refine ⟨1, 0, rfl, Nat.zero_le _, rfl, ?_, rfl⟩
      simp [Env.put, Env.of, argEnv]
    rintro n vs S - ⟨i, rfl, h_i, hall, rfl, rfl⟩
    refine W.seq_region fun K hK => ?_
    simp (disch := omega) only [↓RU, RV, RH, ↓reduceIte, Nat.reduceEqDiff, reduceCtorEq, if_pos, w64, ↓RS, RG, Nat.reduceAdd, Nat.reduceMul, Nat.reduceLeDiff, tyint]
    refine hK _ _ ?_
    clear hK K
    refine W.seq ?_
    refine W.cond rfl (fun h1 => ?_) (fun h1 => ?_)
    · try simp only [RL] at h1
      obtain ⟨ws, hws, hwm⟩ := get_of (show i < wss.length by omega)
      have hwl := hw ws hwm
      obtain ⟨hokp, -⟩ := plain_okB h
      have hrp : (rP p).length ≤ 1000 := by have := okB_rooms hokp; omega
      refine W.skip ?_
      refine XThen.norm ?_
      refine W.seq ?_
      refine W.block ?_
      refine W.seq_region fun K hK => ?_
      simp (disch := omega) only [↓RU, RV, RH, ↓reduceIte, Nat.reduceEqDiff, reduceCtorEq, if_pos, ↓RS, RG, Nat.reduceAdd, Nat.reduceMul, Nat.reduceLeDiff, tyLLint, tyLint, tyint, hws]
      refine hK _ _ ?_
      clear hK K
      refine W.seq_region fun K hK => ?_
      by_cases hlen : ws.length = (rP p).length
      · skip
        have hd : ((ws.length : Int) != ((rP p).length : Int)) = false := by rw [hlen]; simp
        simp (disch := omega) only [↓RU, RV, RH, ↓reduceIte, Nat.reduceEqDiff, reduceCtorEq, if_pos, w64, List.append_nil, ↓RS, RG, Nat.reduceAdd, Nat.reduceMul, Nat.reduceLeDiff, tyLLint, tyLimpl_rect, tyLint, tyimpl_floor, tyimpl_grid, tyimpl_rect, tyint, tystruct_cells_impl_grid_rooms_Limpl_rect_, tystruct_row_int_col_int_high_int_wide_int_, hd, rcs_len]
        refine CallR.pc (containsInt_pc (l := ws) (by omega) (g := 83) (cap := []) rfl rfl (test := fun n => !needB n) (fun n _ => needing1_pc n)) rfl (.inl rfl) ?_
        simp (disch := omega) only [↓RU, RV, RH, ↓reduceIte, Nat.reduceEqDiff, reduceCtorEq, if_pos, w64, List.append_nil, ↓RS, RG, Nat.reduceAdd, Nat.reduceMul, Nat.reduceLeDiff, tyLLint, tyLimpl_rect, tyLint, tyimpl_floor, tyimpl_grid, tyimpl_rect, tyint, tystruct_cells_impl_grid_rooms_Limpl_rect_, tystruct_row_int_col_int_high_int_wide_int_, hd, rcs_len]
        refine hK _ _ ?_
        clear hK K
        refine W.cond rfl (fun h2 => ?_) (fun h2 => ?_)
        · try simp only [RL] at h2
          have hok : needW p ws = false := by unfold needW; rw [List.all_eq_not_any_not, h2]; simp
          refine W.seq_region fun K hK => ?_
          simp (disch := omega) only [↓RU, RV, RH, ↓reduceIte, Nat.reduceEqDiff, reduceCtorEq, if_pos, ↓RS, RG, Nat.reduceAdd, Nat.reduceMul, Nat.reduceLeDiff]
          refine hK _ _ ?_
          clear hK K
          refine W.ret ?_
          refine XBlock.ret ?_
          refine XThen.ret ?_
          refine XThen.ret ?_
          refine XBlock.ret ?_
          refine XThen.ret ?_
          refine BodyQ.ret rfl ?_
          exact ⟨_, _, by rw [needV_no hwm hok]; rfl, fun h9 => absurd h9 (by rw [needV_no hwm hok]; exact Bool.false_ne_true), take_all⟩
        · try simp only [RL] at h2
          have hok : needW p ws = true := by unfold needW; rw [decide_eq_true hlen, List.all_eq_not_any_not]; simpa using h2
          refine W.skip ?_
          refine XBlock.norm ?_
          refine XThen.norm ?_
          refine W.region_k fun K hK => ?_
          simp (disch := omega) only [↓RU, RV, RH, ↓reduceIte, Nat.reduceEqDiff, reduceCtorEq, if_pos, w64, ↓RS, RG, Nat.reduceAdd, Nat.reduceMul, Nat.reduceLeDiff, tyint]
          refine hK _ _ ?_
          clear hK K
          refine XThen.norm ?_
          refine ⟨wss.length - (i + 1), by omega, 1, i + 1, rfl, by omega, all_tk hws hall hok, ?_, rfl⟩
          simp [Env.put, Env.of]
      · skip
        have hd : ((ws.length : Int) != ((rP p).length : Int)) = true := by simp; omega
        simp (disch := omega) only [↓RU, RV, RH, ↓reduceIte, Nat.reduceEqDiff, reduceCtorEq, if_pos, w64, List.append_nil, ↓RS, RG, Nat.reduceAdd, Nat.reduceMul, Nat.reduceLeDiff, tyLLint, tyLimpl_rect, tyLint, tyimpl_floor, tyimpl_grid, tyimpl_rect, tyint, tystruct_cells_impl_grid_rooms_Limpl_rect_, tystruct_row_int_col_int_high_int_wide_int_, hd, rcs_len]
        refine hK _ _ ?_
        clear hK K
        refine W.cond rfl (fun h2 => ?_) (fun h2 => ?_)
        · try simp only [RL] at h2
          have hok : needW p ws = false := by unfold needW; rw [decide_eq_false hlen]; rfl
          refine W.seq_region fun K hK => ?_
          simp (disch := omega) only [↓RU, RV, RH, ↓reduceIte, Nat.reduceEqDiff, reduceCtorEq, if_pos, ↓RS, RG, Nat.reduceAdd, Nat.reduceMul, Nat.reduceLeDiff]
          refine hK _ _ ?_
          clear hK K
          refine W.ret ?_
          refine XBlock.ret ?_
          refine XThen.ret ?_
          refine XThen.ret ?_
          refine XBlock.ret ?_
          refine XThen.ret ?_
          refine BodyQ.ret rfl ?_
          exact ⟨_, _, by rw [needV_no hwm hok]; rfl, fun h9 => absurd h9 (by rw [needV_no hwm hok]; exact Bool.false_ne_true), take_all⟩
        · try simp only [RL] at h2
          exact absurd h2 (by simp)
    · try simp only [RL] at h1
      obtain rfl : wss.length = i := by omega
      rw [List.take_length] at hall
      refine W.exit ?_
      refine XThen.exit ?_
      refine XThen.exit ?_
      refine XBlock.hit ?_
      refine XThen.norm ?_
      refine W.seq_region fun K hK => ?_
      simp (disch := omega) only [↓RU, RV, RH, ↓reduceIte, Nat.reduceEqDiff, reduceCtorEq, if_pos, ↓RS, RG, Nat.reduceAdd, Nat.reduceMul, Nat.reduceLeDiff]
      refine hK _ _ ?_
      clear hK K
      refine W.ret ?_
      refine BodyQ.ret rfl ?_
      exact ⟨_, _, by rw [needV, h, hall]; rfl, fun _ => rfl, take_all⟩

end Fw
end Go.Proofs.Ytmhcknpjgikgmaa

/-! The two closures of relations are the same. -/
namespace Go.Proofs.Ytmhcknpjgikgmaa
namespace Fw
open Go

/-- A list of lists and a list of sets that say the same. -/
def Same (n : Nat) (M : List (List Bool)) (ms : List Nat) : Prop := Sq n M ∧ ms.length = n ∧ ∀ a b, a < n → b < n → getB M a b = bitOf ms a b

theorem getB_setB {n : Nat} {M : List (List Bool)} (h : Sq n M) {a b x y : Nat} {v : Bool} (ha : a < n) (hb : b < n) : getB (setB M a b v) x y = if x = a ∧ y = b then v else getB M x y := by
  obtain ⟨row, hr, hl, -⟩ := h.at_ ha hb
  rw [setB_is hr]
  unfold getB
  rw [List.getElem?_set]
  by_cases hx : a = x
  · subst hx
    rw [if_pos rfl, if_pos (by rw [h.1]; exact ha), Option.getD_some, List.getElem?_set, hr]
    by_cases hy : b = y
    · subst hy
      rw [if_pos rfl, if_pos (by omega), if_pos ⟨rfl, rfl⟩]; rfl
    · rw [if_neg hy, if_neg (fun h => hy h.2.symm)]; rfl
  · rw [if_neg hx, if_neg (fun h => hx h.1.symm)]

/-- One row of the closure, place by place. -/
theorem clA_to {n : Nat} {M : List (List Bool)} (h : Sq n M) {k a : Nat} (hk : k < n) (ha : a < n) : ∀ i, i ≤ n → Sq n ((List.range i).foldl (clB k a) M) ∧
    ∀ x y, x < n → y < n → getB ((List.range i).foldl (clB k a) M) x y = if x = a ∧ y < i then getB M a y || (getB M a k && getB M k y) else getB M x y
  | 0, _ => ⟨h, fun x y _ _ => by simp⟩
  | i + 1, hi => by
    obtain ⟨h1, h2⟩ := clA_to h hk ha i (by omega)
    rw [foldl_rg]
    generalize (List.range i).foldl (clB k a) M = X at h1 h2 ⊢
    refine ⟨h1.clB ha, fun x y hx hy => ?_⟩
    unfold clB
    rw [getB_setB h1 ha (by omega), h2 a i ha (by omega), h2 a k ha hk, h2 k i hk (by omega), h2 x y hx hy]
    have e1 : (if a = a ∧ k < i then getB M a k || (getB M a k && getB M k k) else getB M a k) = getB M a k := by
      split
      · cases getB M a k <;> simp
      · rfl
    have e2 : (if k = a ∧ i < i then getB M a i || (getB M a k && getB M k i) else getB M k i) = getB M k i := by rw [if_neg (by omega)]
    have e3 : (if a = a ∧ i < i then getB M a i || (getB M a k && getB M k i) else getB M a i) = getB M a i := by rw [if_neg (by omega)]
    rw [e1, e2, e3]
    by_cases hxa : x = a
    · subst hxa
      by_cases hyi : y = i
      · subst hyi; rw [if_pos ⟨rfl, rfl⟩, if_pos ⟨rfl, by omega⟩]
      · rw [if_neg (fun h => hyi h.2)]
        by_cases hlt : y < i
        · rw [if_pos ⟨rfl, hlt⟩, if_pos ⟨rfl, by omega⟩]
        · rw [if_neg (fun h => hlt h.2), if_neg (fun h => hlt (by have := h.2; omega))]
    · rw [if_neg (fun h => hxa h.1), if_neg (fun h => hxa h.1), if_neg (fun h => hxa h.1)]
theorem bitOf_set {ms : List Nat} {a m x y : Nat} (ha : a < ms.length) : bitOf (ms.set a m) x y = if x = a then m.testBit y else bitOf ms x y := by
  unfold bitOf
  rw [List.getElem?_set]
  by_cases h : a = x
  · subst h; rw [if_pos rfl, if_pos ha, if_pos rfl]; rfl
  · rw [if_neg h, if_neg (Ne.symm h)]
theorem allA_len {c a : Nat} {ms : List Nat} : (allA c ms a).length = ms.length := by unfold allA; split <;> simp
theorem Same.clA {n : Nat} {M : List (List Bool)} {ms : List Nat} (h : Same n M ms) {k a : Nat} (hk : k < n) (ha : a < n) : Same n (clA n k M a) (allA k ms a) := by
  obtain ⟨h1, h2, h3⟩ := h
  obtain ⟨k1, k2⟩ := clA_to h1 hk ha n (Nat.le_refl _)
  refine ⟨k1, by rw [allA_len, h2], fun x y hx hy => ?_⟩
  unfold Fw.clA
  rw [k2 x y hx hy]
  obtain ⟨m, hm, -⟩ := get_of (show a < ms.length by omega)
  obtain ⟨c, hc, -⟩ := get_of (show k < ms.length by omega)
  have hak : getB M a k = m.testBit k := by rw [h3 a k ha hk, bitOf_is hm]
  cases hb : m.testBit k with
  | true =>
    rw [allA_yes hm hc hb, bitOf_set (by omega), hak, hb]
    by_cases hxa : x = a
    · subst hxa
      rw [if_pos ⟨rfl, hy⟩, if_pos rfl, Nat.testBit_or, h3 x y hx hy, h3 k y hk hy, bitOf_is hm, bitOf_is hc, Bool.true_and]
    · rw [if_neg (fun h => hxa h.1), if_neg hxa, h3 x y hx hy]
  | false =>
    rw [allA_no hm hb, hak, hb]
    by_cases hxa : x = a
    · subst hxa; rw [if_pos ⟨rfl, hy⟩, Bool.false_and, Bool.or_false, h3 x y hx hy]
    · rw [if_neg (fun h => hxa h.1), h3 x y hx hy]
theorem Same.fold {n : Nat} {f : List (List Bool) → Nat → List (List Bool)} {g : List Nat → Nat → List Nat} : ∀ (i : Nat) {M : List (List Bool)} {ms : List Nat}, i ≤ n → (∀ M ms j, j < n → Same n M ms → Same n (f M j) (g ms j)) → Same n M ms → Same n ((List.range i).foldl f M) ((List.range i).foldl g ms)
  | 0, _, _, _, _, h => h
  | i + 1, M, ms, hi, hs, h => by
    rw [foldl_rg, foldl_rg]
    exact hs _ _ i (by omega) (Same.fold i (by omega) hs h)
theorem Same.close {p : List Txt} {kind : Int} {n : Nat} {M : List (List Bool)} (h : Same n M (just p kind)) : Same n (closeM M) (allS p kind) := by
  unfold closeM allS
  rw [h.1.1, h.2.1]
  exact Same.fold n (Nat.le_refl _) (fun _ _ k hk h => Same.fold n (Nat.le_refl _) (fun _ _ a ha h => h.clA hk ha) h) h
end Fw
end Go.Proofs.Ytmhcknpjgikgmaa

/-! The heaviest sums and the least sizes are the same. -/
namespace Go.Proofs.Ytmhcknpjgikgmaa
namespace Fw
open Go

theorem count_lt {α : Type} {f g : α → Bool} : ∀ {l : List α}, (∀ x ∈ l, f x = true → g x = true) → (∃ x ∈ l, g x = true ∧ f x = false) → l.countP f < l.countP g
  | [], _, h => by obtain ⟨x, hx, _⟩ := h; simp at hx
  | a :: l, h1, h2 => by
    have hle : l.countP f ≤ l.countP g := List.countP_mono_left fun x hx => h1 x (by simp [hx])
    have ha := h1 a (by simp)
    rw [List.countP_cons, List.countP_cons]
    obtain ⟨x, hx, k1, k2⟩ := h2
    rcases List.mem_cons.1 hx with rfl | hx
    · rw [k1, k2]; simp; omega
    · have := count_lt (l := l) (fun x hx => h1 x (by simp [hx])) ⟨x, hx, k1, k2⟩
      cases hf : f a with
      | false => simp; omega
      | true => rw [ha hf]; simp; omega
/-- How many rooms stand ahead of a room. -/
def ahead (n : Nat) (rk : Nat → Nat) (b : Nat) : Nat := (List.range n).countP fun a => decide (rk a < rk b)
theorem ahead_lt {n : Nat} {rk : Nat → Nat} {a b : Nat} (ha : a < n) (h : rk a < rk b) : ahead n rk a < ahead n rk b :=
  count_lt (fun x _ hx => by simp at hx ⊢; omega) ⟨a, by simpa using ha, by simpa using h, by simp⟩
theorem ahead_n {n : Nat} {rk : Nat → Nat} {b : Nat} (hb : b < n) : ahead n rk b < n := by
  have := count_lt (l := List.range n) (f := fun a => decide (rk a < rk b)) (g := fun _ => true) (fun _ _ _ => rfl) ⟨b, by simpa using hb, rfl, by simp⟩
  simpa [ahead] using this

section
variable {M : List (List Bool)} {ms : List Nat} {ws : List Int} {n : Nat} {rk : Nat → Nat}

/-- Where a room must begin at least. -/
def beg (M : List (List Bool)) (ws : List Int) (n b : Nat) : Int := hvF M (HB M ws n) b n
def Low (M : List (List Bool)) (ws : List Int) (n : Nat) (out : List Int) : Prop := out.length = n ∧ ∀ b, b < n → 0 ≤ getI out b ∧ getI out b ≤ beg M ws n b
def Ge (n : Nat) (o out : List Int) : Prop := ∀ b, b < n → getI o b ≤ getI out b
theorem Ge.refl (o : List Int) : Ge n o o := fun _ _ => Int.le_refl _
theorem Ge.trans {a b c : List Int} (h : Ge n a b) (k : Ge n b c) : Ge n a c := fun x hx => Int.le_trans (h x hx) (k x hx)
theorem getI_set {l : List Int} {b y : Nat} {v : Int} (hb : b < l.length) : getI (l.set b v) y = if y = b then v else getI l y := by
  unfold getI
  rw [List.getElem?_set]
  by_cases h : b = y
  · subst h; rw [if_pos rfl, if_pos hb, if_pos rfl]; rfl
  · rw [if_neg h, if_neg (Ne.symm h)]
theorem HB_beg (hu : Up M n rk) {b : Nat} (hb : b < n) : HB M ws n b = beg M ws n b + getI ws b := HB_eq hu hb
theorem plB_step (hs : Same n M ms) (hu : Up M n rk) {out : List Int} (h : Low M ws n out) {a b : Nat} (ha : a < n) (hb : b < n) :
    Low M ws n (plB ms ws a out b) ∧ Ge n out (plB ms ws a out b) ∧ (bitOf ms a b = true → getI out a + getI ws a ≤ getI (plB ms ws a out b) b) := by
  unfold plB
  cases hbit : bitOf ms a b with
  | false => exact ⟨h, Ge.refl _, fun h => by cases h⟩
  | true =>
    have hM : getB M a b = true := by rw [hs.2.2 a b ha hb]; exact hbit
    have hge := hvF_ge (M := M) (g := HB M ws n) (b := b) ha hM
    have h1 := h.2 a ha
    have h2 := h.2 b hb
    have h3 := HB_beg (ws := ws) hu ha
    rw [if_pos rfl]
    refine ⟨⟨by simp [h.1], fun y hy => ?_⟩, fun y hy => ?_, fun _ => ?_⟩
    · rw [getI_set (by rw [h.1]; exact hb)]
      split
      · rename_i e; subst e
        unfold beg at *
        omega
      · exact h.2 y hy
    · rw [getI_set (by rw [h.1]; exact hb)]
      split
      · rename_i e; subst e; omega
      · exact Int.le_refl _
    · rw [getI_set (by rw [h.1]; exact hb), if_pos rfl]; omega
theorem plA_step (hs : Same n M ms) (hu : Up M n rk) {out : List Int} (h : Low M ws n out) {a : Nat} (ha : a < n) : ∀ i, i ≤ n →
    Low M ws n ((List.range i).foldl (plB ms ws a) out) ∧ Ge n out ((List.range i).foldl (plB ms ws a) out) ∧ ∀ b, b < i → bitOf ms a b = true → getI out a + getI ws a ≤ getI ((List.range i).foldl (plB ms ws a) out) b
  | 0, _ => ⟨h, Ge.refl _, fun b hb => by omega⟩
  | i + 1, hi => by
    obtain ⟨h1, h2, h3⟩ := plA_step hs hu h ha i (by omega)
    rw [foldl_rg]
    generalize (List.range i).foldl (plB ms ws a) out = X at h1 h2 h3 ⊢
    obtain ⟨k1, k2, k3⟩ := plB_step hs hu h1 ha (show i < n by omega)
    refine ⟨k1, h2.trans k2, fun b hb hbit => ?_⟩
    by_cases e : b = i
    · subst e
      have := k3 hbit
      have := h2 a ha
      omega
    · have := h3 b (by omega) hbit
      have := k2 b (by omega)
      omega
theorem plN_step (hs : Same n M ms) (hu : Up M n rk) (hl : ws.length = n) {out : List Int} (h : Low M ws n out) : ∀ i, i ≤ n →
    Low M ws n ((List.range i).foldl (plA ms ws) out) ∧ Ge n out ((List.range i).foldl (plA ms ws) out) ∧ ∀ a b, a < i → b < n → bitOf ms a b = true → getI out a + getI ws a ≤ getI ((List.range i).foldl (plA ms ws) out) b
  | 0, _ => ⟨h, Ge.refl _, fun a b ha => by omega⟩
  | i + 1, hi => by
    obtain ⟨h1, h2, h3⟩ := plN_step hs hu hl h i (by omega)
    rw [foldl_rg]
    generalize (List.range i).foldl (plA ms ws) out = X at h1 h2 h3 ⊢
    obtain ⟨k1, k2, k3⟩ := plA_step hs hu h1 (show i < n by omega) n (Nat.le_refl _)
    have e : plA ms ws X i = (List.range n).foldl (plB ms ws i) X := by unfold plA; rw [hl]
    rw [e]
    refine ⟨k1, h2.trans k2, fun a b ha hb hbit => ?_⟩
    by_cases e2 : a = i
    · subst e2
      have := k3 b hb hbit
      have := h2 a (by omega)
      omega
    · have := h3 a b (by omega) hb hbit
      have := k2 b hb
      omega
theorem hvF_le {g : Nat → Int} {b : Nat} {B : Int} (hB : 0 ≤ B) : ∀ {i : Nat}, (∀ a, a < i → getB M a b = true → g a ≤ B) → hvF M g b i ≤ B := fun h => (hvF_bound hB h).2
theorem hvF_pos {g : Nat → Int} {b : Nat} : ∀ i, 0 ≤ hvF M g b i
  | 0 => by simp [hvF]
  | i + 1 => by
    have := hvF_pos (g := g) (b := b) i
    rw [hvF_succ]
    split <;> omega
theorem places_done (hs : Same n M ms) (hu : Up M n rk) (hl : ws.length = n) : ∀ k, k ≤ n → Low M ws n ((List.range k).foldl (plN ms ws) (List.replicate n 0)) ∧
    ∀ b, b < n → ahead n rk b < k → getI ((List.range k).foldl (plN ms ws) (List.replicate n 0)) b = beg M ws n b
  | 0, _ => by
    refine ⟨⟨by simp, fun b hb => ?_⟩, fun b hb h => by omega⟩
    have : getI (List.replicate n 0) b = 0 := by simp [getI, hb]
    have h0 := hvF_pos (M := M) (g := HB M ws n) (b := b) n
    unfold beg
    simp only [List.range_zero, List.foldl_nil]
    omega
  | k + 1, hk => by
    obtain ⟨h1, h2⟩ := places_done hs hu hl k (by omega)
    rw [foldl_rg]
    generalize (List.range k).foldl (plN ms ws) (List.replicate n 0) = X at h1 h2 ⊢
    have e : plN ms ws X k = (List.range n).foldl (plA ms ws) X := by unfold plN; rw [hl]
    rw [e]
    obtain ⟨k1, k2, k3⟩ := plN_step hs hu hl h1 n (Nat.le_refl _)
    refine ⟨k1, fun b hb hc => ?_⟩
    have hlo := k1.2 b hb
    have : beg M ws n b ≤ getI ((List.range n).foldl (plA ms ws) X) b := by
      unfold beg
      refine hvF_le hlo.1 fun a ha hab => ?_
      have hrk := hu.up a b ha hb hab
      have hca := ahead_lt ha hrk
      have h4 := h2 a ha (by omega)
      have h5 := k3 a b ha hb (by rw [← hs.2.2 a b ha hb]; exact hab)
      rw [h4, ← HB_beg hu ha] at h5
      exact h5
    omega
theorem foldl_max_map {f : Nat → Int} {l : List Nat} {m : Int} : (l.map f).foldl max m = l.foldl (fun m a => max m (f a)) m := by
  rw [List.foldl_map]
theorem foldl_congr {α β : Type} {f g : β → α → β} : ∀ {l : List α} {z : β}, (∀ x ∈ l, ∀ z, f z x = g z x) → l.foldl f z = l.foldl g z
  | [], _, _ => rfl
  | a :: l, z, h => by
    rw [List.foldl_cons, List.foldl_cons, h a (by simp)]
    exact foldl_congr fun x hx => h x (by simp [hx])
theorem least_heaviest (hs : Same n M ms) (hu : Up M n rk) (hl : ws.length = n) (hn : 1 ≤ n) (hw : NeedOk ws) : least ms ws = maxL (heaviest M ws n) := by
  obtain ⟨h1, h2⟩ := places_done (ws := ws) hs hu hl n (Nat.le_refl _)
  have hp : places ms ws = (List.range n).foldl (plN ms ws) (List.replicate n 0) := by unfold places; rw [hl]
  have e : least ms ws = (List.range n).foldl (fun m a => max m (HB M ws n a)) 0 := by
    unfold least
    rw [hl, hp]
    refine foldl_congr fun b hb z => ?_
    have hbn : b < n := by simpa using hb
    rw [h2 b hbn (ahead_n hbn), ← HB_beg hu hbn]
  rw [e, ← foldl_max_map]
  show (heaviest M ws n).foldl max 0 = _
  have hlen := heaviest_len (M := M) (ws := ws) (n := n)
  have hpos : ∀ x ∈ heaviest M ws n, 0 ≤ x := by
    intro x hx
    unfold heaviest at hx
    obtain ⟨b, _, rfl⟩ := List.mem_map.1 hx
    exact (HB_bound hw b).1
  generalize heaviest M ws n = l at hlen hpos
  cases l with
  | nil => simp at hlen; omega
  | cons a l =>
    have := hpos a (by simp)
    show l.foldl max (max 0 a) = l.foldl max a
    rw [show max 0 a = a by omega]
end
end Fw
end Go.Proofs.Ytmhcknpjgikgmaa

/-! The program's walls and orders are the specification's. -/
namespace Go.Proofs.Ytmhcknpjgikgmaa
namespace Fw
open Go

def kk (lv : Bool) : Int := if lv then 1 else 0
def encW (w : Wall) : List Int := [kk w.level, w.line, w.fr, w.long]
def pendW (L : Nat) (f : Int) (i : Nat) : List (List Int) := if 0 ≤ f then [[(L : Int), f, (i : Int) - f]] else []

/-- One line: places gone through by both. -/
theorem wlLine_enc {g : List (List Int)} {q : List Txt} {lv : Bool} {L P : Nat} (hd : ∀ j, j < P → difG g lv L j = wallB q L j) {ws0 : List Wall} {pre s0 : List (List Int)} (h0 : ws0.map encW = pre ++ s0.map (kk lv :: ·)) : ∀ i, i ≤ P →
    -1 ≤ (upTo q L s0 i).1 ∧ (wlLine g lv L ws0 i).2 = decide (0 ≤ (upTo q L s0 i).1) ∧
    (wlLine g lv L ws0 i).1.map encW = pre ++ ((upTo q L s0 i).2 ++ pendW L (upTo q L s0 i).1 i).map (kk lv :: ·)
  | 0, _ => by
    refine ⟨by simp [upTo], by simp [wlLine_zero, upTo], ?_⟩
    rw [wlLine_zero]
    simpa [upTo, pendW] using h0
  | i + 1, hi => by
    obtain ⟨h1, h2, h3⟩ := wlLine_enc hd h0 i (by omega)
    have hdi := hd i (by omega)
    rw [wlLine_succ]
    unfold upTo upStep
    rw [hdi]
    generalize wlLine g lv L ws0 i = s at h2 h3 ⊢
    obtain ⟨ws, op⟩ := s
    generalize upTo q L s0 i = u at h1 h2 h3 ⊢
    obtain ⟨f, l⟩ := u
    simp only at h1 h2 h3 ⊢
    cases hw : wallB q L i with
    | false =>
      simp only [wlStep, Bool.false_and, Bool.false_eq_true, if_false, Bool.not_false, Bool.true_and, decide_eq_true_eq]
      by_cases hf : 0 ≤ f
      · rw [if_pos hf]
        refine ⟨by simp, by simp, ?_⟩
        rw [h3]
        simp [pendW, hf]
      · rw [if_neg hf]
        refine ⟨h1, by simp [hf], ?_⟩
        rw [h3]
        simp [pendW, hf]
    | true =>
      simp only [wlStep, Bool.true_and, Bool.not_true, Bool.false_and, Bool.false_eq_true, if_false, if_true, decide_eq_true_eq]
      by_cases hf : 0 ≤ f
      · have hop : op = true := by rw [h2]; simpa using hf
        rw [if_pos hop, if_neg (show ¬ f < 0 by omega)]
        refine ⟨h1, by simp [hf], ?_⟩
        have hne : ws ≠ [] := by
          rintro rfl
          simp [pendW, hf] at h3
        obtain ⟨ws, w, rfl⟩ := last_of hne
        simp only [pendW, hf, if_true, List.map_append, List.map_cons, List.map_nil, ← List.append_assoc] at h3 ⊢
        obtain ⟨e1, e2⟩ := List.append_inj' h3 rfl
        simp only [List.dropLast_concat, List.getLast?_append, List.getLast?_singleton, Option.some_or, Option.map_some, Option.toList_some, List.map_append, List.map_cons, List.map_nil, e1]
        simp only [List.cons.injEq, and_true] at e2
        have e3 : w.level = lv ∧ w.line = L ∧ w.fr = f ∧ w.long = i - f := by
          simp only [encW, List.cons.injEq, and_true] at e2
          refine ⟨?_, e2.2.1, e2.2.2.1, e2.2.2.2⟩
          have := e2.1
          unfold kk at this
          cases hwl : w.level <;> cases hlv : lv <;> simp [hwl, hlv] at this ⊢
        obtain ⟨e4, e5, e6, e7⟩ := e3
        simp only [encW, e4, e5, e6, e7, List.append_cancel_left_eq, List.cons.injEq, true_and, and_true]
        omega
      · have hop : op = false := by rw [h2]; simpa using hf
        rw [if_neg (show ¬ op = true by rw [hop]; exact Bool.false_ne_true), if_pos (show f < 0 by omega)]
        refine ⟨by omega, by simp, ?_⟩
        simp only [pendW, hf, if_false, List.append_nil] at h3
        simp only [pendW, List.map_append, h3, List.map_cons, List.map_nil]
        rw [if_pos (by omega)]
        simp [encW]
        omega
theorem wlLine_all {g : List (List Int)} {q : List Txt} {lv : Bool} {L : Nat} (hd : ∀ j, j < q.length → difG g lv L j = wallB q L j) {ws0 : List Wall} {pre s0 : List (List Int)} (h0 : ws0.map encW = pre ++ s0.map (kk lv :: ·)) :
    (wlLine g lv L ws0 q.length).1.map encW = pre ++ (upTo q L s0 (q.length + 1)).2.map (kk lv :: ·) := by
  obtain ⟨h1, -, h3⟩ := wlLine_enc hd h0 q.length (Nat.le_refl _)
  rw [h3]
  congr 2
  have e : upTo q L s0 (q.length + 1) = upStep (wallB q L q.length) L q.length (upTo q L s0 q.length) := rfl
  rw [e, wallB_end]
  clear e h3 h1
  generalize upTo q L s0 q.length = u
  obtain ⟨f, l⟩ := u
  unfold upStep
  simp only [Bool.false_and, Bool.false_eq_true, if_false, Bool.not_false, Bool.true_and, decide_eq_true_eq, pendW]
  split <;> simp
theorem wlLevel_enc {g : List (List Int)} {q : List Txt} {lv : Bool} {n : Nat} (hd : ∀ L j, 1 ≤ L → L < n → j < q.length → difG g lv L j = wallB q L j) {ws0 : List Wall} : ∀ i, i ≤ n →
    (wlLevel g lv q.length ws0 i).map encW = ws0.map encW ++ (upsTo q i).map (kk lv :: ·)
  | 0, _ => by simp [wlLevel, upsTo]
  | i + 1, hi => by
    have ih := wlLevel_enc hd (ws0 := ws0) i (by omega)
    by_cases h1 : 1 ≤ i
    · rw [wlLevel_succ h1, upsTo_succ h1]
      exact wlLine_all (fun j hj => hd i j h1 (by omega) hj) ih
    · obtain rfl : i = 0 := by omega
      simpa [wlLevel, upsTo] using ih
theorem wallsG_enc {g : List (List Int)} {p : List Txt} (hg : gridB p = true) (hz : ∀ i j, i < p.length → j < (hdRow p).length → gz g i j = cellZ p i j) : (wallsG g p.length (hdRow p).length).map encW = walls p := by
  have hsm := grid_small hg
  obtain ⟨row0, hrow0, hrm0⟩ := get_of hsm.1
  have hhd := hdRow_of hrow0
  have hw1 := row_pos hg hrow0
  have htl := trans_len (p := p)
  have hth := trans_hd (p := p) (by rw [hhd]; omega)
  have d0 : ∀ L j, 1 ≤ L → L < (hdRow p).length → j < p.length → difG g false L j = wallB p L j := by
    intro L j h1 h2 h3
    unfold difG sidesG wallB
    simp only [Bool.false_eq_true, if_false]
    rw [hz j (L - 1) h3 (by omega), hz j L h3 h2]
    simp [h3]
  have d1 : ∀ L j, 1 ≤ L → L < p.length → j < (transP p).length → difG g true L j = wallB (transP p) L j := by
    intro L j h1 h2 h3
    have h3' := h3
    rw [htl] at h3'
    unfold difG sidesG wallB
    simp only [if_true]
    rw [hz (L - 1) j (by omega) h3', hz L j h2 h3', cellZ_trans (by omega) h3', cellZ_trans h2 h3']
    simp [h3]
  unfold wallsG
  have e1 := wlLevel_enc (lv := true) d1 (ws0 := wlLevel g false p.length [] (hdRow p).length) p.length (Nat.le_refl _)
  have e0 := wlLevel_enc (lv := false) d0 (ws0 := []) (hdRow p).length (Nat.le_refl _)
  rw [htl] at e1
  rw [e1, e0]
  unfold walls uprights
  rw [hth]
  simp [kk]
end Fw
end Go.Proofs.Ytmhcknpjgikgmaa

/-! The program's direct orders are the specification's. -/
namespace Go.Proofs.Ytmhcknpjgikgmaa
namespace Fw
open Go

theorem Same.orBit {n : Nat} {M : List (List Bool)} {ms : List Nat} (h : Same n M ms) {a b : Nat} (ha : a < n) (hb : b < n) : Same n (setB M a b true) (orBit ms a b) := by
  obtain ⟨h1, h2, h3⟩ := h
  obtain ⟨m, hm, -⟩ := get_of (show a < ms.length by omega)
  rw [orBit_is hm]
  refine ⟨h1.set ha, by simp [h2], fun x y hx hy => ?_⟩
  rw [getB_setB h1 ha hb, bitOf_set (by omega)]
  by_cases hxa : x = a
  · subst hxa
    rw [if_pos rfl, Nat.testBit_or, Nat.testBit_two_pow, h3 x y hx hy, bitOf_is hm]
    by_cases hyb : y = b
    · subst hyb; simp
    · rw [if_neg (fun h => hyb h.2), decide_eq_false (fun h => hyb h.symm), Bool.or_false]
  · rw [if_neg (fun h => hxa h.1), if_neg hxa, h3 x y hx hy]
def Rm (n : Nat) (l : List Int) : Prop := ∀ x ∈ l, 0 ≤ x ∧ x < n
theorem Same.relB {n : Nat} {a : Int} (ha : 0 ≤ a ∧ a < n) : ∀ {bs : List Int} {M : List (List Bool)} {ms : List Nat}, Rm n bs → Same n M ms → Same n (relB a bs M) (justB a.toNat ms bs)
  | [], _, _, _, h => h
  | b :: bs, M, ms, hb, h => by
    have hb0 := hb b (by simp)
    exact Same.relB ha (bs := bs) (fun x hx => hb x (by simp [hx])) (h.orBit (by omega) (by omega))
theorem Same.relW {n : Nat} {bs : List Int} (hb : Rm n bs) : ∀ {la : List Int} {M : List (List Bool)} {ms : List Nat}, Rm n la → Same n M ms → Same n (relW M la bs) (justA bs ms la)
  | [], _, _, _, h => h
  | a :: la, M, ms, ha, h => Same.relW hb (la := la) (fun x hx => ha x (by simp [hx])) (h.relB (ha a (by simp)) hb)

theorem ddp_snoc {l : List Int} {x : Int} : ddp (l ++ [x]) = putL (ddp l) x := by simp [ddp, List.foldl_append]
theorem sides_eq {g : List (List Int)} {p : List Txt} {lv : Bool} {L fr : Nat} : ∀ n, (∀ j, fr ≤ j → j < fr + n → sidesG g lv L j = if lv then (cellZ p (L - 1) j, cellZ p L j) else (cellZ p j (L - 1), cellZ p j L)) →
    (ddp (alongG g lv L fr n).1, ddp (alongG g lv L fr n).2) = sidesTo p (kk lv).toNat L fr n
  | 0, _ => by simp [alongG, ddp, sidesTo]
  | n + 1, h => by
    have ih := sides_eq n fun j a b => h j a (by omega)
    have hx := h (fr + n) (by omega) (by omega)
    rw [alongG_succ1, alongG_succ2, ddp_snoc, ddp_snoc, hx]
    unfold sidesTo
    rw [← ih]
    cases lv <;> simp [kk]
theorem sidesOf_eq {g : List (List Int)} {p : List Txt} (hz : ∀ i j, i < p.length → j < (hdRow p).length → gz g i j = cellZ p i j) {w : Wall} (hw : WlOk g p.length (hdRow p).length w) : sidesOf g w = sidesW p (encW w) := by
  obtain ⟨line, fr, long, he, hl, hin⟩ := hw
  obtain ⟨lv, wl, wf, wg⟩ := w
  simp only [Wall.mk.injEq, true_and] at he hin
  obtain ⟨rfl, rfl, rfl⟩ := he
  unfold sidesOf sidesW encW
  simp only [Int.toNat_natCast]
  refine sides_eq long fun j a b => ?_
  obtain ⟨⟨h1, h2⟩, -⟩ := hin j a b
  unfold sidesG
  cases lv with
  | false =>
    simp only [Bool.false_eq_true, if_false] at h2 ⊢
    rw [hz j (line - 1) h2.2 (by omega), hz j line h2.2 h2.1]
  | true =>
    simp only [if_true] at h2 ⊢
    rw [hz (line - 1) j (by omega) h2.2, hz line j h2.1 h2.2]
theorem Same.empty {n : Nat} : Same n (emptyM n) (List.replicate n 0) := by
  refine ⟨emptyM_sq n, by simp, fun a b ha hb => ?_⟩
  simp [getB, emptyM, bitOf, ha, hb]
theorem same_ord {g : List (List Int)} {p : List Txt} {n : Nat} (hz : ∀ i j, i < p.length → j < (hdRow p).length → gz g i j = cellZ p i j) (hrm : RmOk g p.length (hdRow p).length n) : ∀ (ws : List Wall), (∀ w ∈ ws, WlOk g p.length (hdRow p).length w) →
    ∀ {M : List (List Bool) × List (List Bool)} {m0 m1 : List Nat}, Same n M.1 m0 → Same n M.2 m1 → Same n (ws.foldl (ordW g) M).1 ((ws.map encW).foldl (justW p 0) m0) ∧ Same n (ws.foldl (ordW g) M).2 ((ws.map encW).foldl (justW p 1) m1)
  | [], _, _, _, _, h0, h1 => ⟨h0, h1⟩
  | w :: ws, hws, M, m0, m1, h0, h1 => by
    have hw := hws w (by simp)
    obtain ⟨hr1, hr2⟩ := sidesOf_rooms hrm hw
    rw [sidesOf_eq hz hw] at hr1 hr2
    rw [List.foldl_cons, List.map_cons, List.foldl_cons, List.foldl_cons]
    refine same_ord hz hrm ws (fun w hw => hws w (by simp [hw])) ?_ ?_
    · unfold ordW justW
      rw [sidesOf_eq hz hw]
      cases hlv : w.level with
      | false => simpa [encW, kk, hlv] using h0.relW hr2 hr1
      | true => simpa [encW, kk, hlv] using h0
    · unfold ordW justW
      rw [sidesOf_eq hz hw]
      cases hlv : w.level with
      | false => simpa [encW, kk, hlv] using h1
      | true => simpa [encW, kk, hlv] using h1.relW hr2 hr1
theorem same_all {g : List (List Int)} {p : List Txt} {n : Nat} (hg : gridB p = true) (hn : (l1Rooms p).toNat = n) (hz : ∀ i j, i < p.length → j < (hdRow p).length → gz g i j = cellZ p i j) (hrm : RmOk g p.length (hdRow p).length n) :
    Same n (leftG g p.length (hdRow p).length n) (allS p 0) ∧ Same n (aboveG g p.length (hdRow p).length n) (allS p 1) := by
  obtain ⟨h0, h1⟩ := same_ord hz hrm (wallsG g p.length (hdRow p).length) wallsG_ok (M := (emptyM n, emptyM n)) Same.empty Same.empty
  rw [wallsG_enc hg hz] at h0 h1
  have e : List.replicate n 0 = List.replicate (l1Rooms p).toNat 0 := by rw [hn]
  rw [e] at h0 h1
  exact ⟨h0.close, h1.close⟩
end Fw
end Go.Proofs.Ytmhcknpjgikgmaa

/-! Sums and counts of cells. -/
namespace Go.Proofs.Ytmhcknpjgikgmaa
namespace Fw
open Go

def sN : Nat → (Nat → Nat) → Nat
  | 0, _ => 0
  | n + 1, f => sN n f + f n
theorem sN_congr {f g : Nat → Nat} : ∀ {n : Nat}, (∀ i, i < n → f i = g i) → sN n f = sN n g
  | 0, _ => rfl
  | n + 1, h => by rw [sN, sN, sN_congr (n := n) fun i hi => h i (by omega), h n (by omega)]
theorem sN_le {f g : Nat → Nat} : ∀ {n : Nat}, (∀ i, i < n → f i ≤ g i) → sN n f ≤ sN n g
  | 0, _ => Nat.le_refl _
  | n + 1, h => by
    have := sN_le (n := n) fun i hi => h i (by omega)
    have := h n (by omega)
    simp only [sN]; omega
theorem sN_eq {f g : Nat → Nat} : ∀ {n : Nat}, (∀ i, i < n → f i ≤ g i) → sN n f = sN n g → ∀ i, i < n → f i = g i
  | 0, _, _, i, hi => by omega
  | n + 1, h, e, i, hi => by
    have h1 := sN_le (n := n) fun i hi => h i (by omega)
    have h2 := h n (by omega)
    simp only [sN] at e
    by_cases hin : i = n
    · subst hin; omega
    · exact sN_eq (n := n) (fun i hi => h i (by omega)) (by omega) i (by omega)
theorem sN_zero : ∀ n, sN n (fun _ => 0) = 0
  | 0 => rfl
  | n + 1 => by rw [sN, sN_zero n]
theorem sN_one : ∀ n, sN n (fun _ => 1) = n
  | 0 => rfl
  | n + 1 => by rw [sN, sN_one n]
theorem sN_const (c : Nat) : ∀ n, sN n (fun _ => c) = n * c
  | 0 => by simp [sN]
  | n + 1 => by rw [sN, sN_const c n, Nat.succ_mul]
theorem sN_add {f g : Nat → Nat} : ∀ n, sN n (fun i => f i + g i) = sN n f + sN n g
  | 0 => rfl
  | n + 1 => by rw [sN, sN, sN, sN_add n]; omega
theorem sN_swap {f : Nat → Nat → Nat} {m : Nat} : ∀ n, sN n (fun i => sN m (fun j => f i j)) = sN m (fun j => sN n (fun i => f i j))
  | 0 => by simp only [sN]; rw [sN_zero]
  | n + 1 => by
    simp only [sN]
    rw [sN_swap n, sN_add]
theorem sN_mul {f : Nat → Nat} {c : Nat} : ∀ n, sN n (fun i => f i * c) = sN n f * c
  | 0 => by simp [sN]
  | n + 1 => by rw [sN, sN, sN_mul n, Nat.add_mul]
def b1 (b : Bool) : Nat := if b then 1 else 0
/-- How many cells hold. -/
def cnt (H W : Nat) (f : Nat → Nat → Bool) : Nat := sN H fun i => sN W fun j => b1 (f i j)
theorem b1_le {a b : Bool} (h : a = true → b = true) : b1 a ≤ b1 b := by
  cases a with
  | false => simp [b1]
  | true => rw [h rfl]; exact Nat.le_refl _
theorem b1_inj {a b : Bool} (h : b1 a = b1 b) : a = b := by cases a <;> cases b <;> simp [b1] at h ⊢
theorem cnt_le {H W : Nat} {f g : Nat → Nat → Bool} (h : ∀ i j, i < H → j < W → f i j = true → g i j = true) : cnt H W f ≤ cnt H W g :=
  sN_le fun i hi => sN_le fun j hj => b1_le (h i j hi hj)
theorem cnt_eq {H W : Nat} {f g : Nat → Nat → Bool} (h : ∀ i j, i < H → j < W → f i j = true → g i j = true) (e : cnt H W f = cnt H W g) : ∀ i j, i < H → j < W → f i j = g i j := by
  intro i j hi hj
  have h1 := sN_eq (n := H) (fun i hi => sN_le fun j hj => b1_le (h i j hi hj)) e i hi
  exact b1_inj (sN_eq (n := W) (fun j hj => b1_le (h i j hi hj)) h1 j hj)
theorem cnt_congr {H W : Nat} {f g : Nat → Nat → Bool} (h : ∀ i j, i < H → j < W → f i j = g i j) : cnt H W f = cnt H W g :=
  sN_congr fun i hi => sN_congr fun j hj => by rw [h i j hi hj]
/-- Numbers from a on, k of them. -/
theorem sN_seg {a k : Nat} : ∀ {n : Nat}, a + k ≤ n → sN n (fun i => b1 (decide (a ≤ i) && decide (i < a + k))) = k
  | 0, h => by simp [sN]; omega
  | n + 1, h => by
    rw [sN]
    by_cases hn : a + k ≤ n
    · rw [sN_seg hn, decide_eq_false (p := n < a + k) (by omega), Bool.and_false]; rfl
    · have hnk : n + 1 = a + k := by omega
      cases k with
      | zero =>
        have : sN n (fun i => b1 (decide (a ≤ i) && decide (i < a + 0))) = sN n (fun _ => 0) := sN_congr fun i hi => by
          rw [decide_eq_false (p := a ≤ i) (by omega)]; rfl
        rw [this, sN_zero, decide_eq_false (p := a ≤ n) (by omega)]; rfl
      | succ k =>
        have e : sN n (fun i => b1 (decide (a ≤ i) && decide (i < a + (k + 1)))) = sN n (fun i => b1 (decide (a ≤ i) && decide (i < a + k))) := sN_congr fun i hi => by
          congr 2
          apply decide_eq_decide.2; omega
        rw [e, sN_seg (k := k) (by omega), decide_eq_true (p := a ≤ n) (by omega), decide_eq_true (p := n < a + (k + 1)) (by omega)]
        rfl
/-- A rectangle: h rows from t on, w columns from l on. -/
def inR (t l h w i j : Nat) : Bool := (decide (t ≤ i) && decide (i < t + h)) && (decide (l ≤ j) && decide (j < l + w))
theorem b1_and {a b : Bool} : b1 (a && b) = b1 a * b1 b := by cases a <;> cases b <;> rfl
theorem cnt_rect {H W t l h w : Nat} (h1 : t + h ≤ H) (h2 : l + w ≤ W) : cnt H W (inR t l h w) = h * w := by
  unfold cnt inR
  have e : (fun i => sN W fun j => b1 ((decide (t ≤ i) && decide (i < t + h)) && (decide (l ≤ j) && decide (j < l + w)))) = fun i => b1 (decide (t ≤ i) && decide (i < t + h)) * w := by
    funext i
    have : (fun j => b1 ((decide (t ≤ i) && decide (i < t + h)) && (decide (l ≤ j) && decide (j < l + w)))) = fun j => b1 (decide (l ≤ j) && decide (j < l + w)) * b1 (decide (t ≤ i) && decide (i < t + h)) := by
      funext j; rw [b1_and, Nat.mul_comm]
    rw [this, sN_mul, sN_seg h2, Nat.mul_comm]
  rw [e, sN_mul, sN_seg h1]
/-- Each cell is in one of n classes. -/
theorem cnt_classes {H W n : Nat} {z : Nat → Nat → Nat} (hz : ∀ i j, i < H → j < W → z i j < n) : sN n (fun r => cnt H W fun i j => decide (z i j = r)) = H * W := by
  unfold cnt
  rw [sN_swap]
  have : sN H (fun i => sN n fun r => sN W fun j => b1 (decide (z i j = r))) = sN H (fun _ => W) := sN_congr fun i hi => by
    rw [sN_swap]
    have : sN W (fun j => sN n fun r => b1 (decide (z i j = r))) = sN W (fun _ => 1) := sN_congr fun j hj => by
      have h1 := hz i j hi hj
      have e : sN n (fun r => b1 (decide (z i j = r))) = sN n (fun r => b1 (decide (z i j ≤ r) && decide (r < z i j + 1))) := sN_congr fun r hr => by
        congr 1
        rw [Bool.eq_iff_iff]
        simp only [Bool.and_eq_true, decide_eq_true_eq]
        omega
      rw [e, sN_seg (by omega)]
    rw [this, sN_one]
  rw [this, sN_const]
end Fw
end Go.Proofs.Ytmhcknpjgikgmaa

/-! The least rectangle around cells, by the program. -/
namespace Go.Proofs.Ytmhcknpjgikgmaa
namespace Fw
open Go

/-- The least rectangle around the cells of pr. -/
structure Hull (pr : Nat → Nat → Prop) (t l lo ri : Int) : Prop where
  inn : ∀ a b, pr a b → t ≤ a ∧ (a : Int) ≤ lo ∧ l ≤ b ∧ (b : Int) ≤ ri
  at_ : ∃ a b : Nat, pr a b ∧ (a : Int) = t
  al : ∃ a b : Nat, pr a b ∧ (b : Int) = l
  ao : ∃ a b : Nat, pr a b ∧ (a : Int) = lo
  ar : ∃ a b : Nat, pr a b ∧ (b : Int) = ri
theorem Hull.uniq {pr : Nat → Nat → Prop} {t l lo ri t' l' lo' ri' : Int} (h : Hull pr t l lo ri) (k : Hull pr t' l' lo' ri') : t = t' ∧ l = l' ∧ lo = lo' ∧ ri = ri' := by
  obtain ⟨a1, b1, p1, e1⟩ := h.at_
  obtain ⟨a2, b2, p2, e2⟩ := h.al
  obtain ⟨a3, b3, p3, e3⟩ := h.ao
  obtain ⟨a4, b4, p4, e4⟩ := h.ar
  obtain ⟨a5, b5, p5, e5⟩ := k.at_
  obtain ⟨a6, b6, p6, e6⟩ := k.al
  obtain ⟨a7, b7, p7, e7⟩ := k.ao
  obtain ⟨a8, b8, p8, e8⟩ := k.ar
  have q1 := k.inn _ _ p1
  have q2 := k.inn _ _ p2
  have q3 := k.inn _ _ p3
  have q4 := k.inn _ _ p4
  have q5 := h.inn _ _ p5
  have q6 := h.inn _ _ p6
  have q7 := h.inn _ _ p7
  have q8 := h.inn _ _ p8
  omega
theorem Hull.congr {pr pr' : Nat → Nat → Prop} {t l lo ri : Int} (h : Hull pr t l lo ri) (e : ∀ a b, pr a b ↔ pr' a b) : Hull pr' t l lo ri := by
  have : pr = pr' := by funext a b; exact propext (e a b)
  exact this ▸ h
theorem Hull.add {pr : Nat → Nat → Prop} {t l lo ri : Int} (h : Hull pr t l lo ri) (i j : Nat) : Hull (fun a b => pr a b ∨ (a = i ∧ b = j)) (min t i) (min l j) (max lo i) (max ri j) := by
  refine ⟨?_, ?_, ?_, ?_, ?_⟩
  · rintro a b (p | ⟨rfl, rfl⟩)
    · have := h.inn a b p; omega
    · omega
  · by_cases e : t ≤ i
    · obtain ⟨a, b, p, q⟩ := h.at_; exact ⟨a, b, .inl p, by omega⟩
    · exact ⟨i, j, .inr ⟨rfl, rfl⟩, by omega⟩
  · by_cases e : l ≤ j
    · obtain ⟨a, b, p, q⟩ := h.al; exact ⟨a, b, .inl p, by omega⟩
    · exact ⟨i, j, .inr ⟨rfl, rfl⟩, by omega⟩
  · by_cases e : (i : Int) ≤ lo
    · obtain ⟨a, b, p, q⟩ := h.ao; exact ⟨a, b, .inl p, by omega⟩
    · exact ⟨i, j, .inr ⟨rfl, rfl⟩, by omega⟩
  · by_cases e : (j : Int) ≤ ri
    · obtain ⟨a, b, p, q⟩ := h.ar; exact ⟨a, b, .inl p, by omega⟩
    · exact ⟨i, j, .inr ⟨rfl, rfl⟩, by omega⟩
theorem Hull.one {pr : Nat → Nat → Prop} (h : ∀ a b, ¬ pr a b) (i j : Nat) : Hull (fun a b => pr a b ∨ (a = i ∧ b = j)) i j i j := by
  refine ⟨?_, ⟨i, j, .inr ⟨rfl, rfl⟩, rfl⟩, ⟨i, j, .inr ⟨rfl, rfl⟩, rfl⟩, ⟨i, j, .inr ⟨rfl, rfl⟩, rfl⟩, ⟨i, j, .inr ⟨rfl, rfl⟩, rfl⟩⟩
  rintro a b (p | ⟨rfl, rfl⟩)
  · exact absurd p (h a b)
  · omega
/-- Cells that are gone through: rows ahead of i, and of row i the first j. -/
def Gone (W i j a b : Nat) : Prop := b < W ∧ (a < i ∨ (a = i ∧ b < j))
theorem gone_succ {W i j a b : Nat} (hj : j < W) : Gone W i (j + 1) a b ↔ Gone W i j a b ∨ (a = i ∧ b = j) := by unfold Gone; omega
theorem gone_row {W i a b : Nat} : Gone W i W a b ↔ Gone W (i + 1) 0 a b := by unfold Gone; omega
/-- Cells of a value that are gone through. -/
def Val (z : Nat → Nat → Int) (W i j : Nat) (v : Int) (a b : Nat) : Prop := z a b = v ∧ Gone W i j a b
theorem val_hit {z : Nat → Nat → Int} {W i j : Nat} {v : Int} (hj : j < W) (h : z i j = v) (a b : Nat) : (Val z W i j v a b ∨ (a = i ∧ b = j)) ↔ Val z W i (j + 1) v a b := by
  unfold Val
  rw [gone_succ hj]
  constructor
  · rintro (⟨h1, h2⟩ | ⟨rfl, rfl⟩)
    · exact ⟨h1, .inl h2⟩
    · exact ⟨h, .inr ⟨rfl, rfl⟩⟩
  · rintro ⟨h1, h2 | h2⟩
    · exact .inl ⟨h1, h2⟩
    · exact .inr h2
theorem val_miss {z : Nat → Nat → Int} {W i j : Nat} {v : Int} (hj : j < W) (h : z i j ≠ v) (a b : Nat) : Val z W i j v a b ↔ Val z W i (j + 1) v a b := by
  unfold Val
  rw [gone_succ hj]
  constructor
  · rintro ⟨h1, h2⟩; exact ⟨h1, .inl h2⟩
  · rintro ⟨h1, h2 | ⟨rfl, rfl⟩⟩
    · exact ⟨h1, h2⟩
    · exact absurd h1 h
theorem val_row {z : Nat → Nat → Int} {W i : Nat} {v : Int} (a b : Nat) : Val z W i W v a b ↔ Val z W (i + 1) 0 v a b := by unfold Val; rw [gone_row]

def HullR (pr : Nat → Nat → Prop) (b : Rect) : Prop := Hull pr b.row b.col (b.row + b.high - 1) (b.col + b.wide - 1)
theorem HullR.both {pr : Nat → Nat → Prop} {b : Rect} (h : HullR pr b) (i j : Nat) : HullR (fun a c => pr a c ∨ (a = i ∧ c = j)) (b.both (oneR i j)) := by
  have := Hull.add h i j
  unfold HullR Rect.both oneR
  simp only
  rw [show min b.row (i : Int) + (max (b.row + b.high) ((i : Int) + 1) - min b.row (i : Int)) - 1 = max (b.row + b.high - 1) i by omega, show min b.col (j : Int) + (max (b.col + b.wide) ((j : Int) + 1) - min b.col (j : Int)) - 1 = max (b.col + b.wide - 1) j by omega]
  exact this
theorem one_both {i j : Nat} : (oneR i j).both (oneR i j) = oneR i j := by
  unfold Rect.both oneR
  simp only [Rect.mk.injEq]
  omega
theorem HullR.one {pr : Nat → Nat → Prop} (h : ∀ a b, ¬ pr a b) (i j : Nat) : HullR (fun a b => pr a b ∨ (a = i ∧ b = j)) (oneR i j) := by
  have := Hull.one h i j
  unfold HullR oneR
  simp only
  rw [show (i : Int) + 1 - 1 = i by omega, show (j : Int) + 1 - 1 = j by omega]
  exact this
theorem HullR.congr {pr pr' : Nat → Nat → Prop} {b : Rect} (h : HullR pr b) (e : ∀ a c, pr a c ↔ pr' a c) : HullR pr' b := Hull.congr h e

/-- Keys and rectangles while cells are gone through. -/
structure SeInv (z : Nat → Nat → Int) (W i j : Nat) (ks : List Int) (rs : List Rect) : Prop where
  nd : ks.Nodup
  len : rs.length = ks.length
  mem : ∀ a b, Gone W i j a b → z a b ∈ ks
  hull : ∀ (m : Nat) v b, ks[m]? = some v → rs[m]? = some b → HullR (Val z W i j v) b
theorem nodup_one {l : List Int} (h : l.Nodup) {a b : Nat} {v : Int} (ha : l[a]? = some v) (hb : l[b]? = some v) : a = b := by
  obtain ⟨p1, q1⟩ := List.getElem?_eq_some_iff.1 ha
  obtain ⟨p2, q2⟩ := List.getElem?_eq_some_iff.1 hb
  have := List.pairwise_iff_getElem.1 h
  rcases Nat.lt_trichotomy a b with hlt | heq | hgt
  · exact absurd (q1.trans q2.symm) (this a b p1 p2 hlt)
  · exact heq
  · exact absurd (q2.trans q1.symm) (this b a p2 p1 hgt)
theorem idxOf_mem {ks : List Int} {z : Int} (h : ¬ ks.idxOf z = ks.length) : ks[ks.idxOf z]? = some z := by
  have hl := idxOf_le (ks := ks) (z := z)
  have : z ∈ ks := by rw [← List.idxOf_lt_length_iff]; omega
  rw [List.getElem?_eq_getElem (List.idxOf_lt_length_iff.2 this), List.getElem_idxOf]
theorem idxOf_not {ks : List Int} {z : Int} (h : ks.idxOf z = ks.length) : z ∉ ks := by
  intro hm
  have := List.idxOf_lt_length_iff.2 hm
  omega
theorem SeInv.step {z : Nat → Nat → Int} {W i j : Nat} {ks : List Int} {rs : List Rect} (h : SeInv z W i j ks rs) (hj : j < W) : SeInv z W i (j + 1) (seKs ks (z i j)) (seRs ks rs (z i j) (oneR i j)) := by
  have hlen := h.len
  by_cases hin : ks.idxOf (z i j) = ks.length
  · have hnm := idxOf_not hin
    have e1 : seKs ks (z i j) = ks ++ [z i j] := by simp [seKs, hin]
    have e2 : seRs ks rs (z i j) (oneR i j) = rs ++ [oneR i j] := by
      unfold seRs seIn
      rw [if_pos hin, hin, ← hlen, List.getD_eq_getElem?_getD]
      simp [one_both]
    rw [e1, e2]
    refine ⟨?_, by simp [hlen], ?_, ?_⟩
    · rw [List.nodup_append]
      refine ⟨h.nd, by simp, ?_⟩
      intro a ha b hb
      rw [List.mem_singleton] at hb
      rintro rfl
      exact hnm (hb ▸ ha)
    · intro a b hab
      rw [gone_succ hj] at hab
      rcases hab with hab | ⟨rfl, rfl⟩
      · exact List.mem_append_left _ (h.mem a b hab)
      · simp
    · intro m v b hm hb
      by_cases hml : m < ks.length
      · rw [List.getElem?_append_left hml] at hm
        rw [List.getElem?_append_left (by omega)] at hb
        have hv : z i j ≠ v := fun e => hnm (e ▸ List.mem_of_getElem? hm)
        exact (h.hull m v b hm hb).congr (val_miss hj hv)
      · have hml2 := len_of hm
        simp only [List.length_append, List.length_singleton] at hml2
        obtain rfl : m = ks.length := by omega
        rw [List.getElem?_append_right (Nat.le_refl _), Nat.sub_self] at hm
        rw [← hlen, List.getElem?_append_right (Nat.le_refl _), Nat.sub_self] at hb
        simp only [List.getElem?_cons_zero, Option.some.injEq] at hm hb
        subst hm hb
        exact (HullR.one (pr := Val z W i j (z i j)) (fun a b hab => hnm (hab.1 ▸ h.mem a b hab.2)) i j).congr (val_hit hj rfl)
  · have hk := idxOf_mem hin
    have hkl := len_of hk
    have e1 : seKs ks (z i j) = ks := by simp [seKs, hin]
    obtain ⟨b0, hb0, -⟩ := get_of (show ks.idxOf (z i j) < rs.length by omega)
    have e2 : seRs ks rs (z i j) (oneR i j) = rs.set (ks.idxOf (z i j)) (b0.both (oneR i j)) := by
      unfold seRs seIn
      rw [if_neg hin, List.getD_eq_getElem?_getD, hb0]; rfl
    rw [e1, e2]
    refine ⟨h.nd, by simp [hlen], ?_, ?_⟩
    · intro a b hab
      rw [gone_succ hj] at hab
      rcases hab with hab | ⟨rfl, rfl⟩
      · exact h.mem a b hab
      · exact List.mem_of_getElem? hk
    · intro m v b hm hb
      rw [List.getElem?_set] at hb
      by_cases e : ks.idxOf (z i j) = m
      · subst e
        rw [if_pos rfl, if_pos (by omega)] at hb
        cases hb
        rw [hk] at hm
        cases hm
        exact ((h.hull _ _ _ hk hb0).both i j).congr (val_hit hj rfl)
      · rw [if_neg e] at hb
        have hv : z i j ≠ v := by
          rintro rfl
          exact e (nodup_one h.nd hk hm)
        exact (h.hull m v b hm hb).congr (val_miss hj hv)
theorem SeInv.nil {z : Nat → Nat → Int} {W : Nat} : SeInv z W 0 0 [] [] := by
  refine ⟨by simp, rfl, ?_, by simp⟩
  intro a b h
  unfold Gone at h; omega
theorem SeInv.row {g : List (List Int)} {W i : Nat} {s : List Int × List Rect} (h : SeInv (gz g) W i 0 s.1 s.2) : ∀ j, j ≤ W → SeInv (gz g) W i j (seRow g i s j).1 (seRow g i s j).2
  | 0, _ => h
  | j + 1, hj => (SeInv.row h j (by omega)).step (by omega)
theorem SeInv.rows {g : List (List Int)} {W : Nat} : ∀ i, SeInv (gz g) W i 0 (seRows g W i).1 (seRows g W i).2
  | 0 => SeInv.nil
  | i + 1 => by
    have h := (SeInv.rows (g := g) (W := W) i).row W (Nat.le_refl _)
    refine ⟨h.nd, h.len, fun a b hab => h.mem a b (gone_row.2 hab), fun m v b hm hb => (h.hull m v b hm hb).congr (fun a c => val_row a c)⟩
/-- The numbers of cells are places among the keys. -/
theorem seRow_pre {g : List (List Int)} {i : Nat} {s : List Int × List Rect} : ∀ {j k : Nat}, j ≤ k → ∃ r, (seRow g i s k).1 = (seRow g i s j).1 ++ r
  | j, 0, h => by
    have hj : j = 0 := by omega
    subst hj; exact ⟨[], by simp⟩
  | j, k + 1, h => by
    by_cases e : j = k + 1
    · subst e; exact ⟨[], by simp⟩
    · obtain ⟨r, hr⟩ := seRow_pre (g := g) (i := i) (s := s) (show j ≤ k by omega)
      simp only [seRow, seKs]
      split
      · exact ⟨r ++ [gz g i k], by rw [hr, List.append_assoc]⟩
      · exact ⟨r, hr⟩
theorem seRows_pre {g : List (List Int)} {W : Nat} : ∀ {i k : Nat}, i ≤ k → ∃ r, (seRows g W k).1 = (seRows g W i).1 ++ r
  | i, 0, h => by
    have hi : i = 0 := by omega
    subst hi; exact ⟨[], by simp⟩
  | i, k + 1, h => by
    by_cases e : i = k + 1
    · subst e; exact ⟨[], by simp⟩
    · obtain ⟨r, hr⟩ := seRows_pre (g := g) (W := W) (show i ≤ k by omega)
      obtain ⟨r2, hr2⟩ := seRow_pre (g := g) (i := k) (s := seRows g W k) (Nat.zero_le W)
      simp only [seRows]
      refine ⟨r ++ r2, ?_⟩
      rw [hr2, ← List.append_assoc, ← hr]; rfl
theorem idxOf_app {l r : List Int} {x : Int} (h : ¬ l.idxOf x = l.length) : (l ++ r).idxOf x = l.idxOf x := by
  have hl := idxOf_le (ks := l) (z := x)
  have hm : x ∈ l := by rw [← List.idxOf_lt_length_iff]; omega
  rw [List.idxOf_append, if_pos hm]
theorem idxOf_new {l r : List Int} {x : Int} (h : l.idxOf x = l.length) : (l ++ [x] ++ r).idxOf x = l.length := by
  have hm : x ∉ l := idxOf_not h
  rw [List.append_assoc, List.idxOf_append, if_neg hm]
  simp
theorem zNum {g : List (List Int)} {W nh i j : Nat} (hi : i < nh) (hj : j < W) : ((seRow g i (seRows g W i) j).1.idxOf (gz g i j)) = (seRows g W nh).1.idxOf (gz g i j) := by
  obtain ⟨r, hr⟩ := seRows_pre (g := g) (W := W) (show i + 1 ≤ nh by omega)
  obtain ⟨r2, hr2⟩ := seRow_pre (g := g) (i := i) (s := seRows g W i) (show j + 1 ≤ W by omega)
  have e : (seRows g W nh).1 = seKs (seRow g i (seRows g W i) j).1 (gz g i j) ++ (r2 ++ r) := by
    rw [hr, ← List.append_assoc]
    congr 1
  rw [e]
  generalize (seRow g i (seRows g W i) j).1 = ks
  unfold seKs
  by_cases hin : ks.idxOf (gz g i j) = ks.length
  · rw [if_pos hin, idxOf_new hin, hin]
  · rw [if_neg hin, idxOf_app hin]
end Fw
end Go.Proofs.Ytmhcknpjgikgmaa
