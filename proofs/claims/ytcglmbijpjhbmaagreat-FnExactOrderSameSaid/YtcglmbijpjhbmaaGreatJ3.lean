/- Parts of the framework and of the proof: Walls of the program, gone through; Lists without neighbours that are the same; the program's relations in plain words; Compact and the sides of walls of the program, gone through; Relations of rooms in plain words, and in the store; Relations, gone through; The program's orders in plain words; Orders of the program, gone through; Heaviest sums in plain words; Numbers put in order by putting one after the other in; Sort, gone through; How many rooms meet at the points of a grid of the program; The text of a grid; How the program numbers rooms and finds the rectangles around them; The numbering of all rooms of a grid; A plan of a grid, as the program finds it; Plans that are read, in plain words; The two closures of relations are the same; The heaviest sums and the least sizes are the same; The program's walls and orders are the specification's; The program's direct orders are the specification's; Sums and counts of cells; The least rectangle around cells, by the program; The least rectangle around a room and its cells, by the specification. -/
import Derived.Test.YtcglmbijpjhbmaaGreatJ2
set_option linter.all false
/-! Walls of the program, gone through. -/
namespace Go.Proofs.YtcglmbijpjhbmaaGreat
namespace Fw
open Go

theorem sides_pc {g : List (List Int)} {nh nw : Nat} (hg : GW g nh nw) (rs : List Rect) {level : Bool} {line at_ : Nat} (hi : InL nh nw level line at_) : PC Tryz.prog 128 [eFloor g rs, .bool level, .int .i64 line, .int .i64 at_] (.tup [.int .i64 (sidesG g level line at_).1, .int .i64 (sidesG g level line at_).2]) true := by
  have hl := hg.1
  obtain ⟨hi1, hi2⟩ := hi
  have hb : line ≤ 6 ∧ at_ ≤ 6 := by have := hg.2.2; cases level <;> simp at hi2 <;> omega
  refine PC.of ⟨Tryz.func128, by kernel_rfl, rfl, by kernel_rfl⟩ tabOk mixed (by show 4 ≤ Tryz.f128.ntmps; decide) ?_
  refine W.seq_region fun K hK => ?_
  simp (disch := omega) only [↓RU, RV, RH, ↓reduceIte, Nat.reduceEqDiff, reduceCtorEq, if_pos, ↓RS, RG, Nat.reduceAdd, Nat.reduceMul, Nat.reduceLeDiff]
  refine hK _ _ ?_
  clear hK K
  refine W.seq ?_
  refine W.seq_region fun K hK => ?_
  simp (disch := omega) only [↓RU, RV, RH, ↓reduceIte, Nat.reduceEqDiff, reduceCtorEq, if_pos, ↓RS, RG, Nat.reduceAdd, Nat.reduceMul, Nat.reduceLeDiff]
  refine hK _ _ ?_
  clear hK K
  refine W.cond rfl (fun h0 => ?_) (fun h0 => ?_)
  · try simp only [RL] at h0
    subst h0
    simp only [if_true] at hi2
    obtain ⟨r1, hr1, hl1, hx1⟩ := hg.at_ (i := line - 1) (j := at_) (by omega) hi2.2
    obtain ⟨r2, hr2, hl2, hx2⟩ := hg.at_ (i := line) (j := at_) hi2.1 hi2.2
    refine W.seq_draw (by kernel_rfl) fun K hK => ?_
    simp (disch := omega) only [↓RU, RV, RH, ↓reduceIte, Nat.reduceEqDiff, reduceCtorEq, if_pos, w64, ↓RS, RG, Nat.reduceAdd, Nat.reduceMul, Nat.reduceLeDiff, tyLLint, tyLimpl_rect, tyLint, tyimpl_floor, tyimpl_grid, tyimpl_rect, tyint, tystruct_cells_impl_grid_rooms_Limpl_rect_, tystruct_row_int_col_int_high_int_wide_int_, hr1, hx1, hr2, hx2, toNat_pred]
    refine hK _ _ ?_
    clear hK K
    refine W.ret ?_
    refine XThen.ret ?_
    refine BodyQ.ret rfl ?_
    rfl
  · try simp only [RL] at h0
    subst h0
    simp only [Bool.false_eq_true, if_false] at hi2
    obtain ⟨r1, hr1, hl1, hx1⟩ := hg.at_ (i := at_) (j := line - 1) hi2.2 (by omega)
    obtain ⟨r2, hr2, hl2, hx2⟩ := hg.at_ (i := at_) (j := line) hi2.2 hi2.1
    obtain rfl : r1 = r2 := by rw [hr1] at hr2; exact Option.some.inj hr2
    refine W.skip ?_
    refine XThen.norm ?_
    refine W.seq_draw (by kernel_rfl) fun K hK => ?_
    simp (disch := omega) only [↓RU, RV, RH, ↓reduceIte, Nat.reduceEqDiff, reduceCtorEq, if_pos, w64, ↓RS, RG, Nat.reduceAdd, Nat.reduceMul, Nat.reduceLeDiff, tyLLint, tyLimpl_rect, tyLint, tyimpl_floor, tyimpl_grid, tyimpl_rect, tyint, tystruct_cells_impl_grid_rooms_Limpl_rect_, tystruct_row_int_col_int_high_int_wide_int_, hr1, hx1, hr2, hx2, toNat_pred]
    refine hK _ _ ?_
    clear hK K
    refine W.ret ?_
    refine BodyQ.ret rfl ?_
    rfl

theorem differ_pc {g : List (List Int)} {nh nw : Nat} (hg : GW g nh nw) (rs : List Rect) {level : Bool} {line at_ : Nat} (hi : InL nh nw level line at_) : PC Tryz.prog 127 [eFloor g rs, .bool level, .int .i64 line, .int .i64 at_] (.bool (difG g level line at_)) true := by
  refine PC.of ⟨Tryz.func127, by kernel_rfl, rfl, by kernel_rfl⟩ tabOk mixed (by show 4 ≤ Tryz.f127.ntmps; decide) ?_
  refine W.seq_region fun K hK => ?_
  simp (disch := omega) only [↓RU, RV, RH, ↓reduceIte, Nat.reduceEqDiff, reduceCtorEq, if_pos]
  refine hK _ _ ?_
  clear hK K
  refine W.seq_region fun K hK => ?_
  simp (disch := omega) only [↓RU, RV, RH, ↓reduceIte, Nat.reduceEqDiff, reduceCtorEq, if_pos, List.append_nil]
  refine CallR.pc (sides_pc hg rs hi) rfl (.inl rfl) ?_
  simp (disch := omega) only [↓RU, RV, RH, ↓reduceIte, Nat.reduceEqDiff, reduceCtorEq, if_pos, List.append_nil]
  refine hK _ _ ?_
  clear hK K
  refine W.seq_region fun K hK => ?_
  simp (disch := omega) only [↓RU, RV, RH, ↓reduceIte, Nat.reduceEqDiff, reduceCtorEq, if_pos, w64, tyint]
  refine hK _ _ ?_
  clear hK K
  refine W.ret ?_
  refine BodyQ.ret rfl ?_
  rw [show difG g level line at_ = ((sidesG g level line at_).1 != (sidesG g level line at_).2) by rw [bne_int, difG]; simp]
  rfl

theorem walls_pc {g : List (List Int)} {nh nw : Nat} (hg : GW g nh nw) (rs : List Rect) : PC Tryz.prog 105 [eFloor g rs] (eWalls (wallsG g nh nw)) true := by
  have hl := hg.1
  obtain ⟨hg1, hg2, hg3, hg4⟩ := hg.2.2
  obtain ⟨row0, hrow0, hrl0, -⟩ := hg.at_ (i := 0) (j := 0) (by omega) (by omega)
  refine PC.of ⟨Tryz.func105, by kernel_rfl, rfl, by kernel_rfl⟩ tabOk mixed (by show 1 ≤ Tryz.f105.ntmps; decide) ?_
  refine W.seq_region fun K hK => ?_
  simp (disch := omega) only [↓RU, RV, RH, ↓reduceIte, Nat.reduceEqDiff, reduceCtorEq, if_pos, ↓RS, RG, Nat.reduceAdd, Nat.reduceMul, Nat.reduceLeDiff]
  refine hK _ _ ?_
  clear hK K
  refine W.seq_region fun K hK => ?_
  simp (disch := omega) only [↓RU, RV, RH, ↓reduceIte, Nat.reduceEqDiff, reduceCtorEq, if_pos, ↓RS, RG, Nat.reduceAdd, Nat.reduceMul, Nat.reduceLeDiff]
  refine hK _ _ ?_
  clear hK K
  refine W.seq ?_
  refine W.seq_region fun K hK => ?_
  simp (disch := omega) only [↓RU, RV, RH, ↓reduceIte, Nat.reduceEqDiff, reduceCtorEq, if_pos, ↓RS, RG, Nat.reduceAdd, Nat.reduceMul, Nat.reduceLeDiff, tyLbool, tybool]
  refine hK _ _ ?_
  clear hK K
  refine W.block ?_
  refine W.loopS [0, 12, 13, 14, 3] (fun n vs S => ∃ i v t : Nat, n = 2 - i ∧ (i ≤ 2) ∧ vs = [eFloor g rs, .sl [.bool false, .bool true] 2, .int .i64 2, .int .i64 i, slW (wsI g nh nw i) v] ∧ S = stW (wsI g nh nw i) v t) 2 ?_ ?_
  · refine ⟨0, [], [eFloor g rs, .sl [.bool false, .bool true] 2, .int .i64 2, .int .i64 (0 : Nat), .nils], ⟨[], 2⟩, ?_, ?_, 0, 0, 2, rfl, by omega, rfl, rfl⟩
    · simp [-List.mapM_map, Env.put, Env.of, argEnv, Srn_eq, rnObs_cons, rnObs_nil, rnOb_arr, rnOb_map, rn_loc, rn_ref, rn_mp, rn_int, rn_bool, rn_str, rn_ip, rn_sl, rn_nils, rn_nilp, rn_undef, rn_agg, rn_tup, rn_fn, rfq_loc, rfq_int, rfq_bool, rfq_str, rfq_sl, frOf, List.range_succ, List.mapM_append, List.mapM_cons]
    · simp [-List.mapM_map, Env.put, Env.of, argEnv, Srn_eq, rnObs_cons, rnObs_nil, rnOb_arr, rnOb_map, rn_loc, rn_ref, rn_mp, rn_int, rn_bool, rn_str, rn_ip, rn_sl, rn_nils, rn_nilp, rn_undef, rn_agg, rn_tup, rn_fn, rfq_loc, rfq_int, rfq_bool, rfq_str, rfq_sl, frOf, List.range_succ, List.mapM_append, List.mapM_cons]
  rintro n vs S - ⟨i, v, t, rfl, h_i, rfl, rfl⟩
  refine W.seq_region fun K hK => ?_
  simp (disch := omega) only [↓RU, RV, RH, ↓reduceIte, Nat.reduceEqDiff, reduceCtorEq, if_pos, w64, ↓RS, RG, Nat.reduceAdd, Nat.reduceMul, Nat.reduceLeDiff, tyint]
  refine hK _ _ ?_
  clear hK K
  refine W.seq ?_
  refine W.cond rfl (fun h => ?_) (fun h => ?_)
  · try simp only [RL] at h
    have hi2 : i < 2 := by omega
    obtain ⟨ls, hls⟩ : ∃ ls : Nat, (if i = 1 then nh else nw) = ls := ⟨_, rfl⟩
    obtain ⟨ps, hps⟩ : ∃ ps : Nat, (if i = 1 then nw else nh) = ps := ⟨_, rfl⟩
    have hlp : 1 ≤ ls ∧ ls ≤ 6 ∧ 1 ≤ ps ∧ ps ≤ 6 := by subst hls hps; split <;> omega
    have hwl := wsI_len (g := g) (nh := nh) (nw := nw) (i := i) hg2 hg4
    have hlong := wsI_long (g := g) (nh := nh) (nw := nw) (i := i) hg2 hg4
    have hlev : [PV.bool false, PV.bool true][i]? = some (.bool (decide (i = 1))) := by rcases (show i = 0 ∨ i = 1 by omega) with rfl | rfl <;> rfl
    refine W.skip ?_
    refine XThen.norm ?_
    refine W.seq ?_
    refine W.block ?_
    refine W.seq_region fun K hK => ?_
    simp (disch := omega) only [↓RU, RV, RH, ↓reduceIte, Nat.reduceEqDiff, reduceCtorEq, if_pos, ↓RS, RG, Nat.reduceAdd, Nat.reduceMul, Nat.reduceLeDiff, tyLbool, tybool, hlev]
    refine hK _ _ ?_
    clear hK K
    refine W.seq_region fun K hK => ?_
    simp (disch := omega) only [↓RU, RV, RH, ↓reduceIte, Nat.reduceEqDiff, reduceCtorEq, if_pos, List.append_nil, ↓RS, RG, Nat.reduceAdd, Nat.reduceMul, Nat.reduceLeDiff, hl, hrl0]
    refine CallR.pc (wide_pc hrow0 rs) rfl (.inl rfl) ?_
    simp (disch := omega) only [↓RU, RV, RH, ↓reduceIte, Nat.reduceEqDiff, reduceCtorEq, if_pos, List.append_nil, ↓RS, RG, Nat.reduceAdd, Nat.reduceMul, Nat.reduceLeDiff, hl, hrl0]
    refine CallR.pc (high_pc g rs) rfl (.inl rfl) ?_
    simp (disch := omega) only [↓RU, RV, RH, ↓reduceIte, Nat.reduceEqDiff, reduceCtorEq, if_pos, List.append_nil, ↓RS, RG, Nat.reduceAdd, Nat.reduceMul, Nat.reduceLeDiff, hl, hrl0]
    refine hK _ _ ?_
    clear hK K
    refine W.join [0, 12, 13, 14, 3, 5, 6, 7] (fun vs S => vs = [eFloor g rs, .sl [.bool false, .bool true] 2, .int .i64 2, .int .i64 i, slW (wsI g nh nw i) v, .bool (decide (i = 1)), .int .i64 ls, .int .i64 ps] ∧ S = stW (wsI g nh nw i) v t) ?_ ?_
    ·
      refine W.seq_region fun K hK => ?_
      simp (disch := omega) only [↓RU, RV, RH, ↓reduceIte, Nat.reduceEqDiff, reduceCtorEq, if_pos, ↓RS, RG, Nat.reduceAdd, Nat.reduceMul, Nat.reduceLeDiff]
      refine hK _ _ ?_
      clear hK K
      refine W.cond rfl (fun h1 => ?_) (fun h1 => ?_)
      · try simp only [RL] at h1
        refine W.region_k fun K hK => ?_
        simp (disch := omega) only [↓RU, RV, RH, ↓reduceIte, Nat.reduceEqDiff, reduceCtorEq, if_pos, ↓RS, RG, Nat.reduceAdd, Nat.reduceMul, Nat.reduceLeDiff]
        refine hK _ _ ?_
        clear hK K
        refine XThen.norm ?_
        refine ⟨_, ?_, take_all⟩
        subst hls hps
        simp [Env.put, Env.of, h1]
      · try simp only [RL] at h1
        refine W.skip ?_
        refine XThen.norm ?_
        refine ⟨_, ?_, take_all⟩
        subst hls hps
        simp [Env.put, Env.of, h1]
    rintro vs S - ⟨rfl, rfl⟩
    refine W.seq_region fun K hK => ?_
    simp (disch := omega) only [↓RU, RV, RH, ↓reduceIte, Nat.reduceEqDiff, reduceCtorEq, if_pos, ↓RS, RG, Nat.reduceAdd, Nat.reduceMul, Nat.reduceLeDiff]
    refine hK _ _ ?_
    clear hK K
    refine W.block ?_
    refine W.loopS [0, 12, 13, 14, 3, 5, 6, 7, 8] (fun n vs S => ∃ line v t : Nat, n = ls - line ∧ (1 ≤ line) ∧ (line ≤ ls) ∧ vs = [eFloor g rs, .sl [.bool false, .bool true] 2, .int .i64 2, .int .i64 i, slW (wlLevel g (decide (i = 1)) ps (wsI g nh nw i) line) v, .bool (decide (i = 1)), .int .i64 ls, .int .i64 ps, .int .i64 line] ∧ S = stW (wlLevel g (decide (i = 1)) ps (wsI g nh nw i) line) v t) (ls - 1) ?_ ?_
    · refine ⟨_, [], [eFloor g rs, .sl [.bool false, .bool true] 2, .int .i64 2, .int .i64 i, slW (wsI g nh nw i) v, .bool (decide (i = 1)), .int .i64 ls, .int .i64 ps, .int .i64 (1 : Nat)], stW (wsI g nh nw i) v (t + 1), ?_, rn_stW, 1, v, t + 1, rfl, by omega, by omega, by rw [wlLevel_one], by rw [wlLevel_one]⟩
      simp [-List.mapM_map, Env.put, Env.of, argEnv, Srn_eq, rnObs_cons, rnObs_nil, rnOb_arr, rnOb_map, rn_loc, rn_ref, rn_mp, rn_int, rn_bool, rn_str, rn_ip, rn_sl, rn_nils, rn_nilp, rn_undef, rn_agg, rn_tup, rn_fn, rfq_loc, rfq_int, rfq_bool, rfq_str, rfq_sl, frOf, List.range_succ, List.mapM_append, List.mapM_cons, rn_slW]
    rintro n vs S - ⟨line, v, t, rfl, h1l, h_l, rfl, rfl⟩
    refine W.seq ?_
    refine W.seq_region fun K hK => ?_
    simp (disch := omega) only [↓RU, RV, RH, ↓reduceIte, Nat.reduceEqDiff, reduceCtorEq, if_pos, w64, ↓RS, RG, Nat.reduceAdd, Nat.reduceMul, Nat.reduceLeDiff, tyint]
    refine hK _ _ ?_
    clear hK K
    refine W.cond rfl (fun h2 => ?_) (fun h2 => ?_)
    · try simp only [RL] at h2
      have hwl2 := wlLevel_len g (decide (i = 1)) hlp.2.2.2 (wsI g nh nw i) line
      have hlong2 := wlLevel_long g (decide (i = 1)) hlp.2.2.2 (M := 100) (by omega) hlong line
      generalize hWs : (wlLevel g (decide (i = 1)) ps (wsI g nh nw i) line) = Ws at hwl2 hlong2
      refine W.skip ?_
      refine XThen.norm ?_
      refine W.seq ?_
      refine W.block ?_
      refine W.seq_region fun K hK => ?_
      simp (disch := omega) only [↓RU, RV, RH, ↓reduceIte, Nat.reduceEqDiff, reduceCtorEq, if_pos, ↓RS, RG, Nat.reduceAdd, Nat.reduceMul, Nat.reduceLeDiff]
      refine hK _ _ ?_
      clear hK K
      refine W.seq_region fun K hK => ?_
      simp (disch := omega) only [↓RU, RV, RH, ↓reduceIte, Nat.reduceEqDiff, reduceCtorEq, if_pos, ↓RS, RG, Nat.reduceAdd, Nat.reduceMul, Nat.reduceLeDiff]
      refine hK _ _ ?_
      clear hK K
      refine W.block ?_
      refine W.loopS [0, 12, 13, 14, 3, 5, 6, 7, 8, 9, 30, 31] (fun n vs S => ∃ at_ v t : Nat, n = ps - at_ ∧ (at_ ≤ ps) ∧ vs = [eFloor g rs, .sl [.bool false, .bool true] 2, .int .i64 2, .int .i64 i, slW (wlLine g (decide (i = 1)) line Ws at_).1 v, .bool (decide (i = 1)), .int .i64 ls, .int .i64 ps, .int .i64 line, .bool (wlLine g (decide (i = 1)) line Ws at_).2, .int .i64 ps, .int .i64 at_] ∧ S = stW (wlLine g (decide (i = 1)) line Ws at_).1 v t) ps ?_ ?_
      · refine ⟨_, [], [eFloor g rs, .sl [.bool false, .bool true] 2, .int .i64 2, .int .i64 i, slW Ws v, .bool (decide (i = 1)), .int .i64 ls, .int .i64 ps, .int .i64 line, .bool false, .int .i64 ps, .int .i64 (0 : Nat)], stW Ws v (t + 1), ?_, rn_stW, 0, v, t + 1, rfl, by omega, rfl, rfl⟩
        simp [-List.mapM_map, Env.put, Env.of, argEnv, Srn_eq, rnObs_cons, rnObs_nil, rnOb_arr, rnOb_map, rn_loc, rn_ref, rn_mp, rn_int, rn_bool, rn_str, rn_ip, rn_sl, rn_nils, rn_nilp, rn_undef, rn_agg, rn_tup, rn_fn, rfq_loc, rfq_int, rfq_bool, rfq_str, rfq_sl, frOf, List.range_succ, List.mapM_append, List.mapM_cons, rn_slW]
      rintro n vs S - ⟨at_, v, t, rfl, h_a, rfl, rfl⟩
      refine W.seq_region fun K hK => ?_
      simp (disch := omega) only [↓RU, RV, RH, ↓reduceIte, Nat.reduceEqDiff, reduceCtorEq, if_pos, w64, ↓RS, RG, Nat.reduceAdd, Nat.reduceMul, Nat.reduceLeDiff, tyint]
      refine hK _ _ ?_
      clear hK K
      refine W.seq ?_
      refine W.cond rfl (fun h3 => ?_) (fun h3 => ?_)
      · try simp only [RL] at h3
        have hop := (wlLine_open g (decide (i = 1)) line Ws at_)
        have hlong3 := wlLine_long g (decide (i = 1)) line (M := 100 + 6 * line) (by omega) hlong2 at_
        have hin : InL nh nw (decide (i = 1)) line at_ := by refine ⟨h1l, ?_⟩; rcases (show i = 0 ∨ i = 1 by omega) with rfl | rfl <;> simp at hls hps ⊢ <;> omega
        generalize hs : wlLine g (decide (i = 1)) line Ws at_ = s at hop hlong3
        obtain ⟨ws, op⟩ := s
        simp only at hop hlong3
        refine W.skip ?_
        refine XThen.norm ?_
        refine W.seq ?_
        refine W.block ?_
        refine W.seq_region fun K hK => ?_
        simp (disch := omega) only [↓RU, RV, RH, ↓reduceIte, Nat.reduceEqDiff, reduceCtorEq, if_pos, ↓RS, RG, Nat.reduceAdd, Nat.reduceMul, Nat.reduceLeDiff]
        refine hK _ _ ?_
        clear hK K
        refine W.seq_region fun K hK => ?_
        simp (disch := omega) only [↓RU, RV, RH, ↓reduceIte, Nat.reduceEqDiff, reduceCtorEq, if_pos, List.append_nil, ↓RS, RG, Nat.reduceAdd, Nat.reduceMul, Nat.reduceLeDiff]
        refine CallR.pc (differ_pc hg rs hin) rfl (.inl rfl) ?_
        simp (disch := omega) only [↓RU, RV, RH, ↓reduceIte, Nat.reduceEqDiff, reduceCtorEq, if_pos, List.append_nil, ↓RS, RG, Nat.reduceAdd, Nat.reduceMul, Nat.reduceLeDiff]
        refine hK _ _ ?_
        clear hK K
        refine W.seq ?_
        refine W.block ?_
        refine W.seq_region fun K hK => ?_
        obtain hd | ⟨hd, rfl, rfl⟩ | ⟨hd, rfl, hw⟩ | ⟨hd, rfl, hw⟩ := wl_cases (d := difG g (decide (i = 1)) line at_) hop.1
        · skip
          simp (disch := omega) only [↓RU, RV, RH, ↓reduceIte, Nat.reduceEqDiff, reduceCtorEq, if_pos, ↓RS, RG, Nat.reduceAdd, Nat.reduceMul, Nat.reduceLeDiff, hd]
          refine hK _ _ ?_
          clear hK K
          refine W.cond rfl (fun h4 => ?_) (fun h4 => ?_)
          · try simp only [RL] at h4
            exact absurd h4 (by simp)
          · try simp only [RL] at h4
            refine W.seq_region fun K hK => ?_
            simp (disch := omega) only [↓RU, RV, RH, ↓reduceIte, Nat.reduceEqDiff, reduceCtorEq, if_pos, ↓RS, RG, Nat.reduceAdd, Nat.reduceMul, Nat.reduceLeDiff]
            refine hK _ _ ?_
            clear hK K
            refine W.cond rfl (fun h5 => ?_) (fun h5 => ?_)
            · try simp only [RL] at h5
              exact absurd h5 (by simp)
            · try simp only [RL] at h5
              refine W.skip ?_
              refine XBlock.norm ?_
              refine XThen.norm ?_
              refine W.region_k fun K hK => ?_
              simp (disch := omega) only [↓RU, RV, RH, ↓reduceIte, Nat.reduceEqDiff, reduceCtorEq, if_pos, ↓RS, RG, Nat.reduceAdd, Nat.reduceMul, Nat.reduceLeDiff]
              refine hK _ _ ?_
              clear hK K
              refine XBlock.norm ?_
              refine XThen.norm ?_
              refine W.region_k fun K hK => ?_
              simp (disch := omega) only [↓RU, RV, RH, ↓reduceIte, Nat.reduceEqDiff, reduceCtorEq, if_pos, w64, ↓RS, RG, Nat.reduceAdd, Nat.reduceMul, Nat.reduceLeDiff, tyint]
              refine hK _ _ ?_
              clear hK K
              refine XThen.norm ?_
              have hnx : wlLine g (decide (i = 1)) line Ws (at_ + 1) = (ws, false) := by rw [wlLine_succ, hs, hd]; simp [wlStep]
              refine ⟨ps - (at_ + 1), by omega, (stW ws v t).obs.length, [], [eFloor g rs, .sl [.bool false, .bool true] 2, .int .i64 2, .int .i64 i, slW (wlLine g (decide (i = 1)) line Ws (at_ + 1)).1 v, .bool (decide (i = 1)), .int .i64 ls, .int .i64 ps, .int .i64 line, .bool (wlLine g (decide (i = 1)) line Ws (at_ + 1)).2, .int .i64 ps, .int .i64 ((at_ + 1 : Nat) : Int)], stW (wlLine g (decide (i = 1)) line Ws (at_ + 1)).1 v (t + 1), ?_, ?_, at_ + 1, v, (t + 1), rfl, by omega, rfl, rfl⟩
              · rw [hnx]; simp [-List.mapM_map, Env.put, Env.of, argEnv, Srn_eq, rnObs_cons, rnObs_nil, rnOb_arr, rnOb_map, rn_loc, rn_ref, rn_mp, rn_int, rn_bool, rn_str, rn_ip, rn_sl, rn_nils, rn_nilp, rn_undef, rn_agg, rn_tup, rn_fn, rfq_loc, rfq_int, rfq_bool, rfq_str, rfq_sl, frOf, List.range_succ, List.mapM_append, List.mapM_cons, rn_slW]
              · rw [hnx]; exact rn_stW
        · skip
          rw [slW_nil, stW_nil]
          simp (disch := omega) only [↓RU, RV, RH, ↓reduceIte, Nat.reduceEqDiff, reduceCtorEq, if_pos, ↓RS, RG, Nat.reduceAdd, Nat.reduceMul, Nat.reduceLeDiff, hd]
          refine hK _ _ ?_
          clear hK K
          refine W.cond rfl (fun h4 => ?_) (fun h4 => ?_)
          · try simp only [RL] at h4
            exact absurd h4 (by simp)
          · try simp only [RL] at h4
            refine W.seq_region fun K hK => ?_
            simp (disch := omega) only [↓RU, RV, RH, ↓reduceIte, Nat.reduceEqDiff, reduceCtorEq, if_pos, ↓RS, RG, Nat.reduceAdd, Nat.reduceMul, Nat.reduceLeDiff]
            refine hK _ _ ?_
            clear hK K
            refine W.cond rfl (fun h5 => ?_) (fun h5 => ?_)
            · try simp only [RL] at h5
              refine W.region_k fun K hK => ?_
              simp (disch := omega) only [↓RU, RV, RH, ↓reduceIte, Nat.reduceEqDiff, reduceCtorEq, if_pos, ↓RS, RG, Nat.reduceAdd, Nat.reduceMul, Nat.reduceLeDiff, tyLimpl_wall, tybool, tyimpl_wall, tyint, tystruct_level_bool_line_int_from_int_long_int_, wcs_len, wcs_tk]
              refine hK _ _ ?_
              clear hK K
              refine XBlock.norm ?_
              refine XThen.norm ?_
              refine W.region_k fun K hK => ?_
              simp (disch := omega) only [↓RU, RV, RH, ↓reduceIte, Nat.reduceEqDiff, reduceCtorEq, if_pos, ↓RS, RG, Nat.reduceAdd, Nat.reduceMul, Nat.reduceLeDiff]
              refine hK _ _ ?_
              clear hK K
              refine XBlock.norm ?_
              refine XThen.norm ?_
              refine W.region_k fun K hK => ?_
              simp (disch := omega) only [↓RU, RV, RH, ↓reduceIte, Nat.reduceEqDiff, reduceCtorEq, if_pos, w64, ↓RS, RG, Nat.reduceAdd, Nat.reduceMul, Nat.reduceLeDiff, tyint]
              refine hK _ _ ?_
              clear hK K
              refine XThen.norm ?_
              have hnx : wlLine g (decide (i = 1)) line Ws (at_ + 1) = ([⟨decide (i = 1), line, at_, 1⟩], true) := by rw [wlLine_succ, hs, hd]; simp [wlStep]
              refine ⟨ps - (at_ + 1), by omega, 0, [1], [eFloor g rs, .sl [.bool false, .bool true] 2, .int .i64 2, .int .i64 i, slW (wlLine g (decide (i = 1)) line Ws (at_ + 1)).1 (t + 2), .bool (decide (i = 1)), .int .i64 ls, .int .i64 ps, .int .i64 line, .bool (wlLine g (decide (i = 1)) line Ws (at_ + 1)).2, .int .i64 ps, .int .i64 ((at_ + 1 : Nat) : Int)], stW (wlLine g (decide (i = 1)) line Ws (at_ + 1)).1 (t + 2) (t + 3), ?_, ?_, at_ + 1, (t + 2), (t + 3), rfl, by omega, rfl, rfl⟩
              · rw [hnx]; simp [-List.mapM_map, Env.put, Env.of, argEnv, Srn_eq, rnObs_cons, rnObs_nil, rnOb_arr, rnOb_map, rn_loc, rn_ref, rn_mp, rn_int, rn_bool, rn_str, rn_ip, rn_sl, rn_nils, rn_nilp, rn_undef, rn_agg, rn_tup, rn_fn, rfq_loc, rfq_int, rfq_bool, rfq_str, rfq_sl, frOf, List.range_succ, List.mapM_append, List.mapM_cons, slW_ne]
              · rw [hnx]; simp [-List.mapM_map, Env.put, Env.of, argEnv, Srn_eq, rnObs_cons, rnObs_nil, rnOb_arr, rnOb_map, rn_loc, rn_ref, rn_mp, rn_int, rn_bool, rn_str, rn_ip, rn_sl, rn_nils, rn_nilp, rn_undef, rn_agg, rn_tup, rn_fn, rfq_loc, rfq_int, rfq_bool, rfq_str, rfq_sl, frOf, List.range_succ, List.mapM_append, List.mapM_cons, stW_ne, wcs, Wall.cells]
            · try simp only [RL] at h5
              exact absurd h5 (by simp)
        · skip
          rw [slW_ne hw, stW_ne hw]
          simp (disch := omega) only [↓RU, RV, RH, ↓reduceIte, Nat.reduceEqDiff, reduceCtorEq, if_pos, ↓RS, RG, Nat.reduceAdd, Nat.reduceMul, Nat.reduceLeDiff, hd]
          refine hK _ _ ?_
          clear hK K
          refine W.cond rfl (fun h4 => ?_) (fun h4 => ?_)
          · try simp only [RL] at h4
            exact absurd h4 (by simp)
          · try simp only [RL] at h4
            refine W.seq_region fun K hK => ?_
            simp (disch := omega) only [↓RU, RV, RH, ↓reduceIte, Nat.reduceEqDiff, reduceCtorEq, if_pos, ↓RS, RG, Nat.reduceAdd, Nat.reduceMul, Nat.reduceLeDiff]
            refine hK _ _ ?_
            clear hK K
            refine W.cond rfl (fun h5 => ?_) (fun h5 => ?_)
            · try simp only [RL] at h5
              refine W.region_k fun K hK => ?_
              simp (disch := omega) only [↓RU, RV, RH, ↓reduceIte, Nat.reduceEqDiff, reduceCtorEq, if_pos, ↓RS, RG, Nat.reduceAdd, Nat.reduceMul, Nat.reduceLeDiff, tyLimpl_wall, tybool, tyimpl_wall, tyint, tystruct_level_bool_line_int_from_int_long_int_, wcs_len, wcs_tk]
              refine hK _ _ ?_
              clear hK K
              refine XBlock.norm ?_
              refine XThen.norm ?_
              refine W.region_k fun K hK => ?_
              simp (disch := omega) only [↓RU, RV, RH, ↓reduceIte, Nat.reduceEqDiff, reduceCtorEq, if_pos, ↓RS, RG, Nat.reduceAdd, Nat.reduceMul, Nat.reduceLeDiff]
              refine hK _ _ ?_
              clear hK K
              refine XBlock.norm ?_
              refine XThen.norm ?_
              refine W.region_k fun K hK => ?_
              simp (disch := omega) only [↓RU, RV, RH, ↓reduceIte, Nat.reduceEqDiff, reduceCtorEq, if_pos, w64, ↓RS, RG, Nat.reduceAdd, Nat.reduceMul, Nat.reduceLeDiff, tyint]
              refine hK _ _ ?_
              clear hK K
              refine XThen.norm ?_
              have hnx : wlLine g (decide (i = 1)) line Ws (at_ + 1) = (ws ++ [⟨decide (i = 1), line, at_, 1⟩], true) := by rw [wlLine_succ, hs, hd]; simp [wlStep]
              refine ⟨ps - (at_ + 1), by omega, 1, [], [eFloor g rs, .sl [.bool false, .bool true] 2, .int .i64 2, .int .i64 i, slW (wlLine g (decide (i = 1)) line Ws (at_ + 1)).1 (t + 1), .bool (decide (i = 1)), .int .i64 ls, .int .i64 ps, .int .i64 line, .bool (wlLine g (decide (i = 1)) line Ws (at_ + 1)).2, .int .i64 ps, .int .i64 ((at_ + 1 : Nat) : Int)], stW (wlLine g (decide (i = 1)) line Ws (at_ + 1)).1 (t + 1) (t + 3), ?_, ?_, at_ + 1, (t + 1), (t + 3), rfl, by omega, rfl, rfl⟩
              · rw [hnx]; simp [-List.mapM_map, Env.put, Env.of, argEnv, Srn_eq, rnObs_cons, rnObs_nil, rnOb_arr, rnOb_map, rn_loc, rn_ref, rn_mp, rn_int, rn_bool, rn_str, rn_ip, rn_sl, rn_nils, rn_nilp, rn_undef, rn_agg, rn_tup, rn_fn, rfq_loc, rfq_int, rfq_bool, rfq_str, rfq_sl, frOf, List.range_succ, List.mapM_append, List.mapM_cons, slW_ne]
              · rw [hnx]; simp [-List.mapM_map, Env.put, Env.of, argEnv, Srn_eq, rnObs_cons, rnObs_nil, rnOb_arr, rnOb_map, rn_loc, rn_ref, rn_mp, rn_int, rn_bool, rn_str, rn_ip, rn_sl, rn_nils, rn_nilp, rn_undef, rn_agg, rn_tup, rn_fn, rfq_loc, rfq_int, rfq_bool, rfq_str, rfq_sl, frOf, List.range_succ, List.mapM_append, List.mapM_cons, stW_ne, rn_wcs, wcs_snoc, Wall.cells]
            · try simp only [RL] at h5
              exact absurd h5 (by simp)
        · skip
          obtain ⟨ws, w, rfl⟩ := last_of hw
          rw [slW_ne hw, stW_ne hw]
          have hwlg := hlong3 w (by simp)
          have hwl3 : ws.length + 1 ≤ 200 := by have := hop.2.1; simp at this; omega
          simp (disch := omega) only [↓RU, RV, RH, ↓reduceIte, Nat.reduceEqDiff, reduceCtorEq, if_pos, ↓RS, RG, Nat.reduceAdd, Nat.reduceMul, Nat.reduceLeDiff, hd]
          refine hK _ _ ?_
          clear hK K
          refine W.cond rfl (fun h4 => ?_) (fun h4 => ?_)
          · try simp only [RL] at h4
            refine W.region_k fun K hK => ?_
            simp (disch := omega) only [↓RU, RV, RH, ↓reduceIte, Nat.reduceEqDiff, reduceCtorEq, if_pos, w64, ↓RS, RG, Nat.reduceAdd, Nat.reduceMul, Nat.reduceLeDiff, tyLimpl_wall, tybool, tyimpl_wall, tyint, tystruct_level_bool_line_int_from_int_long_int_, List.length_append, wcs_len, wcs_long, wcs_set, toNat_last]
            refine hK _ _ ?_
            clear hK K
            refine XBlock.norm ?_
            refine XThen.norm ?_
            refine W.region_k fun K hK => ?_
            simp (disch := omega) only [↓RU, RV, RH, ↓reduceIte, Nat.reduceEqDiff, reduceCtorEq, if_pos, ↓RS, RG, Nat.reduceAdd, Nat.reduceMul, Nat.reduceLeDiff]
            refine hK _ _ ?_
            clear hK K
            refine XBlock.norm ?_
            refine XThen.norm ?_
            refine W.region_k fun K hK => ?_
            simp (disch := omega) only [↓RU, RV, RH, ↓reduceIte, Nat.reduceEqDiff, reduceCtorEq, if_pos, w64, ↓RS, RG, Nat.reduceAdd, Nat.reduceMul, Nat.reduceLeDiff, tyint]
            refine hK _ _ ?_
            clear hK K
            refine XThen.norm ?_
            have hnx : wlLine g (decide (i = 1)) line Ws (at_ + 1) = (ws ++ [{ w with long := w.long + 1 }], true) := by rw [wlLine_succ, hs, hd]; simp [wlStep]
            refine ⟨ps - (at_ + 1), by omega, 1, [], [eFloor g rs, .sl [.bool false, .bool true] 2, .int .i64 2, .int .i64 i, slW (wlLine g (decide (i = 1)) line Ws (at_ + 1)).1 v, .bool (decide (i = 1)), .int .i64 ls, .int .i64 ps, .int .i64 line, .bool (wlLine g (decide (i = 1)) line Ws (at_ + 1)).2, .int .i64 ps, .int .i64 ((at_ + 1 : Nat) : Int)], stW (wlLine g (decide (i = 1)) line Ws (at_ + 1)).1 v (t + 1), ?_, ?_, at_ + 1, v, (t + 1), rfl, by omega, rfl, rfl⟩
            · rw [hnx]; simp [-List.mapM_map, Env.put, Env.of, argEnv, Srn_eq, rnObs_cons, rnObs_nil, rnOb_arr, rnOb_map, rn_loc, rn_ref, rn_mp, rn_int, rn_bool, rn_str, rn_ip, rn_sl, rn_nils, rn_nilp, rn_undef, rn_agg, rn_tup, rn_fn, rfq_loc, rfq_int, rfq_bool, rfq_str, rfq_sl, frOf, List.range_succ, List.mapM_append, List.mapM_cons, slW_ne]
            · rw [hnx]; simp [-List.mapM_map, Env.put, Env.of, argEnv, Srn_eq, rnObs_cons, rnObs_nil, rnOb_arr, rnOb_map, rn_loc, rn_ref, rn_mp, rn_int, rn_bool, rn_str, rn_ip, rn_sl, rn_nils, rn_nilp, rn_undef, rn_agg, rn_tup, rn_fn, rfq_loc, rfq_int, rfq_bool, rfq_str, rfq_sl, frOf, List.range_succ, List.mapM_append, List.mapM_cons, stW_ne, rn_wcs]
          · try simp only [RL] at h4
            exact absurd h4 (by simp)
      · try simp only [RL] at h3
        obtain rfl : ps = at_ := by omega
        refine W.exit ?_
        refine XThen.exit ?_
        refine XThen.exit ?_
        refine XBlock.hit ?_
        refine XBlock.norm ?_
        refine XThen.norm ?_
        refine W.region_k fun K hK => ?_
        simp (disch := omega) only [↓RU, RV, RH, ↓reduceIte, Nat.reduceEqDiff, reduceCtorEq, if_pos, w64, ↓RS, RG, Nat.reduceAdd, Nat.reduceMul, Nat.reduceLeDiff, tyint]
        refine hK _ _ ?_
        clear hK K
        refine XThen.norm ?_
        refine ⟨ls - (line + 1), by omega, (stW (wlLine g (decide (i = 1)) line Ws ps).1 v t).obs.length, [], [eFloor g rs, .sl [.bool false, .bool true] 2, .int .i64 2, .int .i64 i, slW (wlLevel g (decide (i = 1)) ps (wsI g nh nw i) (line + 1)) v, .bool (decide (i = 1)), .int .i64 ls, .int .i64 ps, .int .i64 ((line + 1 : Nat) : Int)], stW (wlLevel g (decide (i = 1)) ps (wsI g nh nw i) (line + 1)) v (t + 1), ?_, ?_, line + 1, v, t + 1, rfl, by omega, by omega, rfl, rfl⟩
        rotate_left
        · rw [wlLevel_succ h1l, hWs]; exact rn_stW
        · rw [wlLevel_succ h1l, hWs]; simp [-List.mapM_map, Env.put, Env.of, argEnv, Srn_eq, rnObs_cons, rnObs_nil, rnOb_arr, rnOb_map, rn_loc, rn_ref, rn_mp, rn_int, rn_bool, rn_str, rn_ip, rn_sl, rn_nils, rn_nilp, rn_undef, rn_agg, rn_tup, rn_fn, rfq_loc, rfq_int, rfq_bool, rfq_str, rfq_sl, frOf, List.range_succ, List.mapM_append, List.mapM_cons, rn_slW]
    · try simp only [RL] at h2
      obtain rfl : ls = line := by omega
      refine W.exit ?_
      refine XThen.exit ?_
      refine XThen.exit ?_
      refine XBlock.hit ?_
      refine XBlock.norm ?_
      refine XThen.norm ?_
      refine W.region_k fun K hK => ?_
      simp (disch := omega) only [↓RU, RV, RH, ↓reduceIte, Nat.reduceEqDiff, reduceCtorEq, if_pos, w64, ↓RS, RG, Nat.reduceAdd, Nat.reduceMul, Nat.reduceLeDiff, tyint]
      refine hK _ _ ?_
      clear hK K
      refine XThen.norm ?_
      have hwn := wsI_succ (g := g) (nh := nh) (nw := nw) hi2
      rw [hps, hls] at hwn
      refine ⟨2 - (i + 1), by omega, (stW (wlLevel g (decide (i = 1)) ps (wsI g nh nw i) ls) v t).obs.length, [], [eFloor g rs, .sl [.bool false, .bool true] 2, .int .i64 2, .int .i64 ((i + 1 : Nat) : Int), slW (wsI g nh nw (i + 1)) v], stW (wsI g nh nw (i + 1)) v (t + 1), ?_, ?_, i + 1, v, t + 1, rfl, by omega, rfl, rfl⟩
      rotate_left
      · rw [hwn]; exact rn_stW
      · rw [hwn]; simp [-List.mapM_map, Env.put, Env.of, argEnv, Srn_eq, rnObs_cons, rnObs_nil, rnOb_arr, rnOb_map, rn_loc, rn_ref, rn_mp, rn_int, rn_bool, rn_str, rn_ip, rn_sl, rn_nils, rn_nilp, rn_undef, rn_agg, rn_tup, rn_fn, rfq_loc, rfq_int, rfq_bool, rfq_str, rfq_sl, frOf, List.range_succ, List.mapM_append, List.mapM_cons, rn_slW]
  · try simp only [RL] at h
    refine W.exit ?_
    refine XThen.exit ?_
    refine XThen.exit ?_
    refine XBlock.hit ?_
    refine XThen.norm ?_
    refine W.seq_region fun K hK => ?_
    simp (disch := omega) only [↓RU, RV, RH, ↓reduceIte, Nat.reduceEqDiff, reduceCtorEq, if_pos, ↓RS, RG, Nat.reduceAdd, Nat.reduceMul, Nat.reduceLeDiff]
    refine hK _ _ ?_
    clear hK K
    refine W.ret ?_
    refine BodyQ.ret rfl ?_
    obtain rfl : i = 2 := by omega
    rw [show wsI g nh nw 2 = wallsG g nh nw from rfl]
    exact reify_slW

end Fw
end Go.Proofs.YtcglmbijpjhbmaaGreat

/-! Lists without neighbours that are the same; the program's relations in plain words. -/
namespace Go.Proofs.YtcglmbijpjhbmaaGreat
namespace Fw
open Go

theorem gF {F R : List Ob} {a : Ob} : (F ++ a :: R)[F.length]? = some a := by simp
theorem setF {F R : List Ob} {a b : Ob} : (F ++ a :: R).set F.length b = F ++ b :: R := by simp

theorem set_app2 {α : Type} {f : α → PV} {l : List α} {x : α} {a n : Nat} : (l.map f).take a ++ (List.replicate n x).map f ++ (l.map f).drop (a + n) = (l.take a ++ List.replicate n x ++ l.drop (a + n)).map f := by simp
theorem allc_int {q : IntKind} {l : List Int} : allCells (l.map (PV.int q)) = True := eq_true (allCells_map (fun _ => rfl) l)
/-- A list without numbers that stand behind the same number. -/
def ddp (l : List Int) : List Int := l.foldl putL []
theorem ddp_succ {l : List Int} {p : Nat} {x : Int} (h : l[p]? = some x) : ddp (l.take (p + 1)) = putL (ddp (l.take p)) x := foldl_tk h
theorem putL_last (l : List Int) (x : Int) : (putL l x).getLast? = some x := by
  unfold putL; split
  · assumption
  · simp
theorem ddp_last {l : List Int} {p : Nat} {y : Int} (h : l[p]? = some y) : (ddp (l.take (p + 1))).getLast? = some y := by rw [ddp_succ h]; exact putL_last _ _
theorem ddp_same {l : List Int} {p : Nat} {x y : Int} (hp : 1 ≤ p) (h0 : l[p - 1]? = some y) (h : l[p]? = some x) (e : x = y) : ddp (l.take (p + 1)) = ddp (l.take p) := by
  have := ddp_last h0
  rw [show p - 1 + 1 = p by omega] at this
  rw [ddp_succ h, putL, this, e]; simp
theorem ddp_new {l : List Int} {p : Nat} {x y : Int} (hp : 1 ≤ p) (h0 : l[p - 1]? = some y) (h : l[p]? = some x) (e : ¬ x = y) : ddp (l.take (p + 1)) = ddp (l.take p) ++ [x] := by
  have := ddp_last h0
  rw [show p - 1 + 1 = p by omega] at this
  rw [ddp_succ h, putL, this, if_neg (by simpa using Ne.symm e)]
theorem ddp_one {l : List Int} (h : 1 ≤ l.length) : ddp (l.take 1) = l.take 1 := by
  cases l with
  | nil => simp at h
  | cons a l => rfl
theorem ddp_short {l : List Int} (h : l.length < 2) : ddp l = l := by
  match l, h with
  | [], _ => rfl
  | [a], _ => rfl
theorem ddp_len (l : List Int) : (ddp l).length ≤ l.length := by
  unfold ddp
  have : ∀ (l m : List Int), (l.foldl putL m).length ≤ m.length + l.length := by
    intro l
    induction l with
    | nil => intro m; simp
    | cons a l ih => intro m; have := ih (putL m a); have := putL_len (l := m) (x := a); simp only [List.foldl_cons, List.length_cons]; omega
  have := this l []
  simpa using this
/-- What stands in the cells while numbers are put to the front. -/
structure DC (l c : List Int) (k p : Nat) : Prop where
  len : c.length = l.length
  dk : (ddp (l.take p)).length = k
  hd : c.take k = ddp (l.take p)
  dr : c.drop (p - 1) = l.drop (p - 1)
  kp : k + 1 ≤ p
theorem DC.get {l c : List Int} {k p j : Nat} (h : DC l c k p) (hj : p - 1 ≤ j) : c[j]? = l[j]? := by
  have := congrArg (fun x => x[j - (p - 1)]?) h.dr
  simp only [List.getElem?_drop] at this
  rwa [show p - 1 + (j - (p - 1)) = j by omega] at this
theorem DC.first {l : List Int} {k : Nat} {x y : Int} (h1 : 1 ≤ k) (hd : ddp (l.take k) = l.take k) (hy : l[k - 1]? = some y) (hx : l[k]? = some x) (e : x = y) : DC l l k (k + 1) := by
  have hk := len_of hx
  refine ⟨rfl, ?_, ?_, rfl, Nat.le_refl _⟩
  · rw [ddp_same h1 hy hx e, hd, List.length_take]; omega
  · rw [ddp_same h1 hy hx e, hd]
theorem DC.same {l c : List Int} {k p : Nat} {x y : Int} (h : DC l c k p) (h1 : 1 ≤ p) (hy : l[p - 1]? = some y) (hx : l[p]? = some x) (e : x = y) : DC l c k (p + 1) := by
  refine ⟨h.len, ?_, ?_, ?_, by have := h.kp; omega⟩
  · rw [ddp_same h1 hy hx e]; exact h.dk
  · rw [ddp_same h1 hy hx e]; exact h.hd
  · have := congrArg (List.drop 1) h.dr
    rw [List.drop_drop, List.drop_drop] at this
    rwa [show p - 1 + 1 = p by omega] at this
theorem DC.new {l c : List Int} {k p : Nat} {x y : Int} (h : DC l c k p) (h1 : 1 ≤ p) (hy : l[p - 1]? = some y) (hx : l[p]? = some x) (e : ¬ x = y) : DC l (c.set k x) (k + 1) (p + 1) := by
  have hp := len_of hx
  have hk := h.kp
  have hl := h.len
  refine ⟨by simpa using hl, ?_, ?_, ?_, by omega⟩
  · rw [ddp_new h1 hy hx e, List.length_append, h.dk]; rfl
  · rw [ddp_new h1 hy hx e, ← h.hd]
    have : (c.set k x)[k]? = some x := by rw [List.getElem?_set]; simp; omega
    rw [tk this, List.take_set_of_le (Nat.le_refl _)]
  · rw [Nat.add_sub_cancel, List.drop_set_of_lt (by omega)]
    have := congrArg (List.drop 1) h.dr
    rw [List.drop_drop, List.drop_drop] at this
    rwa [show p - 1 + 1 = p by omega] at this

/-! ### The sides of a wall -/
def alongG (g : List (List Int)) (level : Bool) (line fr : Nat) (n : Nat) : List Int × List Int :=
  ((List.range n).map fun j => (sidesG g level line (fr + j)).1, (List.range n).map fun j => (sidesG g level line (fr + j)).2)
theorem alongG_succ1 {g : List (List Int)} {level : Bool} {line fr n : Nat} : (alongG g level line fr (n + 1)).1 = (alongG g level line fr n).1 ++ [(sidesG g level line (fr + n)).1] := by simp [alongG, List.range_succ]
theorem alongG_succ2 {g : List (List Int)} {level : Bool} {line fr n : Nat} : (alongG g level line fr (n + 1)).2 = (alongG g level line fr n).2 ++ [(sidesG g level line (fr + n)).2] := by simp [alongG, List.range_succ]
theorem alongG_len {g : List (List Int)} {level : Bool} {line fr n : Nat} : (alongG g level line fr n).1.length = n ∧ (alongG g level line fr n).2.length = n := by simp [alongG]
def slL (l : List Int) (k v : Nat) : PV := match l with | [] => .nils | _ => .loc k v 0 l.length
def tlL (l m : List Int) (v0 v1 : Nat) : List Ob := match l with | [] => [] | _ => [.arr v0 3 1 (l.map (.int .i64)), .arr v1 3 1 (m.map (.int .i64))]
theorem slL_ne {l : List Int} {k v : Nat} (h : l ≠ []) : slL l k v = .loc k v 0 l.length := by cases l with | nil => exact absurd rfl h | cons a l => rfl
theorem tlL_ne {l m : List Int} {v0 v1 : Nat} (h : l ≠ []) : tlL l m v0 v1 = [.arr v0 3 1 (l.map (.int .i64)), .arr v1 3 1 (m.map (.int .i64))] := by cases l with | nil => exact absurd rfl h | cons a l => rfl
theorem rn_ints {S : Store} {k f : Nat} {sel : List Nat} {q : IntKind} (l : List Int) : (l.map (PV.int q)).mapM (rn S k sel (f + 1)) = some (l.map (PV.int q)) :=
  mapM_same fun x hx => by obtain ⟨a, _, rfl⟩ := List.mem_map.1 hx; rfl

theorem reify_pre {S : Store} {im : Bool} {k o ver et : Nat} {l z : List Int} (h : S.obs[o]? = some (.arr ver et 1 ((l ++ z).map (.int .i64)))) : reify S im (k + 2) (.loc o ver 0 l.length) = some (eInts l) := by
  simp only [reify, h, Nat.zero_add, Nat.mul_one, List.length_map, List.length_append, Nat.le_add_right, and_self, if_true, List.drop_zero, List.map_append]
  rw [List.take_append_of_le_length (by simp), List.take_of_length_le (by simp)]
  have := mapM_int (S := S) (im := im) (k := k) (q := .i64) l
  simp only [eInts]
  exact congrArg (Option.map fun x => PV.sl x l.length) this

end Fw
end Go.Proofs.YtcglmbijpjhbmaaGreat

/-! Compact and the sides of walls of the program, gone through. -/
namespace Go.Proofs.YtcglmbijpjhbmaaGreat
namespace Fw
open Go

theorem compact_ev {F R : List Ob} {ver t : Nat} {l : List Int} (hl : l.length < 2147483648) : Ev Tryz.prog 129 [.loc F.length ver 0 l.length] ⟨F ++ .arr ver 3 1 (l.map (.int .i64)) :: R, t⟩ fun v S => ∃ z : List Int, v = .loc F.length ver 0 (ddp l).length ∧ S = ⟨F ++ .arr ver 3 1 ((ddp l ++ z).map (.int .i64)) :: R, t⟩ := by
  refine Ev.of ⟨Tryz.func129, by kernel_rfl, rfl, by kernel_rfl⟩ tabOk mixed (by show 1 ≤ Tryz.f129.ntmps; decide) ?_
  refine W.seq_region fun K hK => ?_
  simp (disch := omega) only [↓RU, RV, RH, ↓reduceIte, Nat.reduceEqDiff, reduceCtorEq, if_pos, ↓RS, RG, Nat.reduceAdd, Nat.reduceMul, Nat.reduceLeDiff, gF, setF]
  refine hK _ _ ?_
  clear hK K
  refine W.seq ?_
  refine W.seq_region fun K hK => ?_
  simp (disch := omega) only [↓RU, RV, RH, ↓reduceIte, Nat.reduceEqDiff, reduceCtorEq, if_pos, w64, ↓RS, RG, Nat.reduceAdd, Nat.reduceMul, Nat.reduceLeDiff, tyLint, tyint, gF, setF]
  refine hK _ _ ?_
  clear hK K
  refine W.cond rfl (fun h => ?_) (fun h => ?_)
  · try simp only [RL] at h
    refine W.seq_region fun K hK => ?_
    simp (disch := omega) only [↓RU, RV, RH, ↓reduceIte, Nat.reduceEqDiff, reduceCtorEq, if_pos, ↓RS, RG, Nat.reduceAdd, Nat.reduceMul, Nat.reduceLeDiff, gF, setF]
    refine hK _ _ ?_
    clear hK K
    refine W.ret ?_
    refine XThen.ret ?_
    refine BodyQ.ret rfl ?_
    refine ⟨(F ++ Ob.arr ver 3 1 (l.map (.int .i64)) :: R).length, [], ?_, ?_⟩
    · rw [ddp_short (by omega)]; rfl
    · rw [List.append_nil, ddp_short (by omega)]; exact take_all
  · try simp only [RL] at h
    refine W.skip ?_
    refine XThen.norm ?_
    refine W.seq ?_
    refine W.seq_region fun K hK => ?_
    simp (disch := omega) only [↓RU, RV, RH, ↓reduceIte, Nat.reduceEqDiff, reduceCtorEq, if_pos, ↓RS, RG, Nat.reduceAdd, Nat.reduceMul, Nat.reduceLeDiff, gF, setF]
    refine hK _ _ ?_
    clear hK K
    refine W.block ?_
    refine W.loop [0, 3] (fun n vs S => ∃ k0 : Nat, n = l.length - k0 ∧ k0 ≤ l.length ∧ (1 ≤ k0) ∧ (ddp (l.take k0) = l.take k0) ∧ vs = [.loc F.length ver 0 l.length, .int .i64 k0] ∧ S = ⟨F ++ .arr ver 3 1 (l.map (.int .i64)) :: R, t⟩) (l.length - 1) ?_ ?_
    · refine ⟨_, 1, rfl, by omega, Nat.le_refl _, ddp_one (by omega), ?_, take_all⟩
      simp [Env.put, Env.of, argEnv]
    rintro n vs S - ⟨k0, rfl, h_k0, h1k, hd, rfl, rfl⟩
    refine W.seq ?_
    refine W.seq_region fun K hK => ?_
    simp (disch := omega) only [↓RU, RV, RH, ↓reduceIte, Nat.reduceEqDiff, reduceCtorEq, if_pos, w64, ↓RS, RG, Nat.reduceAdd, Nat.reduceMul, Nat.reduceLeDiff, tyLint, tyint, gF, setF]
    refine hK _ _ ?_
    clear hK K
    refine W.cond rfl (fun h1 => ?_) (fun h1 => ?_)
    · try simp only [RL] at h1
      obtain ⟨x, hx, -⟩ := get_of (show k0 < l.length by omega)
      obtain ⟨y, hy, -⟩ := get_of (show k0 - 1 < l.length by omega)
      refine W.skip ?_
      refine XThen.norm ?_
      refine W.seq ?_
      refine W.block ?_
      refine W.seq_draw (by kernel_rfl) fun K hK => ?_
      simp (disch := omega) only [↓RU, RV, RH, ↓reduceIte, Nat.reduceEqDiff, reduceCtorEq, if_pos, w64, ↓RS, RG, Nat.reduceAdd, Nat.reduceMul, Nat.reduceLeDiff, tyLint, tyint, gF, setF, hx, hy, toNat_pred]
      refine hK _ _ ?_
      clear hK K
      refine W.cond rfl (fun h2 => ?_) (fun h2 => ?_)
      · try simp only [RL] at h2
        refine W.seq_region fun K hK => ?_
        simp (disch := omega) only [↓RU, RV, RH, ↓reduceIte, Nat.reduceEqDiff, reduceCtorEq, if_pos, Option.map_none, ↓RS, RG, Nat.reduceAdd, Nat.reduceMul, Nat.reduceLeDiff, tyLint, tyint, gF, setF]
        refine hK _ _ ?_
        clear hK K
        refine W.seq ?_
        refine W.seq_region fun K hK => ?_
        simp (disch := omega) only [↓RU, RV, RH, ↓reduceIte, Nat.reduceEqDiff, reduceCtorEq, if_pos, ↓RS, RG, Nat.reduceAdd, Nat.reduceMul, Nat.reduceLeDiff, gF, setF]
        refine hK _ _ ?_
        clear hK K
        refine W.block ?_
        refine W.loop [0, 3, 4, 5] (fun n vs S => ∃ k p : Nat, ∃ c : List Int, n = l.length - p ∧ DC l c k p ∧ k0 + 1 ≤ p ∧ p ≤ l.length ∧ vs = [.loc F.length ver 0 l.length, .int .i64 k, .loc F.length ver k0 (l.length - k0), .int .i64 ((p - k0 : Nat) : Int)] ∧ S = ⟨F ++ .arr ver 3 1 (c.map (.int .i64)) :: R, t⟩) (l.length - (k0 + 1)) ?_ ?_
        · refine ⟨_, k0, k0 + 1, l, rfl, DC.first h1k hd hy hx h2, Nat.le_refl _, by omega, ?_, take_all⟩
          simp [Env.put, Env.of]
        rintro n vs S - ⟨k, p, c, rfl, hdc, hk0, h_p, rfl, rfl⟩
        refine W.seq ?_
        refine W.seq_region fun K hK => ?_
        simp (disch := omega) only [↓RU, RV, RH, ↓reduceIte, Nat.reduceEqDiff, reduceCtorEq, if_pos, w64, ↓RS, RG, Nat.reduceAdd, Nat.reduceMul, Nat.reduceLeDiff, tyLint, tyint, gF, setF]
        refine hK _ _ ?_
        clear hK K
        refine W.cond rfl (fun h3 => ?_) (fun h3 => ?_)
        · try simp only [RL] at h3
          have hkp := hdc.kp
          obtain ⟨x2, hx2, -⟩ := get_of (show p < l.length by omega)
          obtain ⟨y2, hy2, -⟩ := get_of (show p - 1 < l.length by omega)
          have hcx := hdc.get (j := p) (by omega)
          have hcy := hdc.get (j := p - 1) (by omega)
          rw [hx2] at hcx
          rw [hy2] at hcy
          have hcl := hdc.len
          have e1 : k0 + (p - k0) = p := by omega
          have e2 : k0 + (p - k0 - 1) = p - 1 := by omega
          refine W.skip ?_
          refine XThen.norm ?_
          refine W.seq ?_
          refine W.block ?_
          refine W.seq_draw (by kernel_rfl) fun K hK => ?_
          simp (disch := omega) only [↓RU, RV, RH, ↓reduceIte, Nat.reduceEqDiff, reduceCtorEq, if_pos, w64, ↓RS, RG, Nat.reduceAdd, Nat.reduceMul, Nat.reduceLeDiff, tyLint, tyint, gF, setF, hcx, hcy, toNat_pred, e1, e2]
          refine hK _ _ ?_
          clear hK K
          refine W.cond rfl (fun h4 => ?_) (fun h4 => ?_)
          · try simp only [RL] at h4
            refine W.seq_region fun K hK => ?_
            simp (disch := omega) only [↓RU, RV, RH, ↓reduceIte, Nat.reduceEqDiff, reduceCtorEq, if_pos, ↓RS, RG, Nat.reduceAdd, Nat.reduceMul, Nat.reduceLeDiff, tyLint, tyint, gF, setF, hcx, e1, hcl, set_spl, set_int]
            refine hK _ _ ?_
            clear hK K
            refine W.region_k fun K hK => ?_
            simp (disch := omega) only [↓RU, RV, RH, ↓reduceIte, Nat.reduceEqDiff, reduceCtorEq, if_pos, w64, ↓RS, RG, Nat.reduceAdd, Nat.reduceMul, Nat.reduceLeDiff, tyint, gF, setF]
            refine hK _ _ ?_
            clear hK K
            refine XBlock.norm ?_
            refine XThen.norm ?_
            refine W.region_k fun K hK => ?_
            simp (disch := omega) only [↓RU, RV, RH, ↓reduceIte, Nat.reduceEqDiff, reduceCtorEq, if_pos, w64, ↓RS, RG, Nat.reduceAdd, Nat.reduceMul, Nat.reduceLeDiff, tyint, gF, setF]
            refine hK _ _ ?_
            clear hK K
            refine XThen.norm ?_
            refine ⟨l.length - (p + 1), by omega, _, k + 1, p + 1, c.set k x2, rfl, hdc.new (by omega) hy2 hx2 h4, by omega, by omega, ?_, take_all⟩
            simp [Env.put, Env.of, show p + 1 - k0 = p - k0 + 1 by omega]
          · try simp only [RL] at h4
            refine W.skip ?_
            refine XBlock.norm ?_
            refine XThen.norm ?_
            refine W.region_k fun K hK => ?_
            simp (disch := omega) only [↓RU, RV, RH, ↓reduceIte, Nat.reduceEqDiff, reduceCtorEq, if_pos, w64, ↓RS, RG, Nat.reduceAdd, Nat.reduceMul, Nat.reduceLeDiff, tyint, gF, setF]
            refine hK _ _ ?_
            clear hK K
            refine XThen.norm ?_
            refine ⟨l.length - (p + 1), by omega, _, k, p + 1, c, rfl, hdc.same (by omega) hy2 hx2 h4, by omega, by omega, ?_, take_all⟩
            simp [Env.put, Env.of, show p + 1 - k0 = p - k0 + 1 by omega]
        · try simp only [RL] at h3
          have hkp := hdc.kp
          have hcl := hdc.len
          obtain rfl : p = l.length := by omega
          refine W.exit ?_
          refine XThen.exit ?_
          refine XThen.exit ?_
          refine XBlock.hit ?_
          refine XThen.norm ?_
          refine W.seq_region fun K hK => ?_
          simp (disch := omega) only [↓RU, RV, RH, ↓reduceIte, Nat.reduceEqDiff, reduceCtorEq, if_pos, Option.map_none, repz_length, repz_int, ↓RS, RG, Nat.reduceAdd, Nat.reduceMul, Nat.reduceLeDiff, tyLint, tyint, gF, setF, hcl, repz_int, set_app2, allc_int, List.length_replicate]
          refine hK _ _ ?_
          clear hK K
          refine W.seq_region fun K hK => ?_
          simp (disch := omega) only [↓RU, RV, RH, ↓reduceIte, Nat.reduceEqDiff, reduceCtorEq, if_pos, Option.map_none, ↓RS, RG, Nat.reduceAdd, Nat.reduceMul, Nat.reduceLeDiff, tyLint, tyint, gF, setF]
          refine hK _ _ ?_
          clear hK K
          refine W.ret ?_
          refine XBlock.ret ?_
          refine XThen.ret ?_
          refine XThen.ret ?_
          refine XBlock.ret ?_
          refine XThen.ret ?_
          refine BodyQ.ret rfl ?_
          have hdk := hdc.dk
          rw [List.take_length] at hdk
          have htk := hdc.hd
          rw [List.take_length] at htk
          have hdrop : c.drop (k + (l.length - k)) = [] := List.drop_of_length_le (by omega)
          rw [hdrop, List.append_nil, htk]
          refine ⟨(F ++ Ob.arr ver 3 1 ((ddp l ++ List.replicate (l.length - k) 0).map (.int .i64)) :: R).length, _, ?_, take_all⟩
          rw [hdk]; rfl
      · try simp only [RL] at h2
        refine W.skip ?_
        refine XBlock.norm ?_
        refine XThen.norm ?_
        refine W.region_k fun K hK => ?_
        simp (disch := omega) only [↓RU, RV, RH, ↓reduceIte, Nat.reduceEqDiff, reduceCtorEq, if_pos, w64, ↓RS, RG, Nat.reduceAdd, Nat.reduceMul, Nat.reduceLeDiff, tyint, gF, setF]
        refine hK _ _ ?_
        clear hK K
        refine XThen.norm ?_
        refine ⟨l.length - (k0 + 1), by omega, _, k0 + 1, rfl, by omega, by omega, by rw [ddp_new h1k hy hx h2, hd, ← tk hx], ?_, take_all⟩
        simp [Env.put, Env.of]
    · try simp only [RL] at h1
      refine W.exit ?_
      refine XThen.exit ?_
      refine XThen.exit ?_
      refine XBlock.hit ?_
      refine XThen.norm ?_
      refine W.seq_region fun K hK => ?_
      simp (disch := omega) only [↓RU, RV, RH, ↓reduceIte, Nat.reduceEqDiff, reduceCtorEq, if_pos, ↓RS, RG, Nat.reduceAdd, Nat.reduceMul, Nat.reduceLeDiff, gF, setF]
      refine hK _ _ ?_
      clear hK K
      refine W.ret ?_
      refine BodyQ.ret rfl ?_
      obtain rfl : k0 = l.length := by omega
      refine ⟨(F ++ Ob.arr ver 3 1 (l.map (.int .i64)) :: R).length, [], ?_, ?_⟩
      · rw [show ddp l = l by simpa using hd]; rfl
      · rw [List.append_nil, show ddp l = l by simpa using hd]; exact take_all

theorem along_pc {g : List (List Int)} {nh nw : Nat} (hg : GW g nh nw) (rs : List Rect) {level : Bool} {line fr long : Nat} (h1 : 1 ≤ long) (hin : ∀ j, fr ≤ j → j < fr + long → InL nh nw level line j) : PC Tryz.prog 106 [eFloor g rs, eWall ⟨level, line, fr, long⟩] (.tup [eInts (ddp (alongG g level line fr long).1), eInts (ddp (alongG g level line fr long).2)]) true := by
  have hgg := hg.2.2
  have hb : fr + long ≤ 6 := by have h := hin (fr + long - 1) (by omega) (by omega); unfold InL at h; cases level <;> simp at h <;> omega
  simp only [eWall, Wall.cells]
  refine PC.of ⟨Tryz.func106, by kernel_rfl, rfl, by kernel_rfl⟩ tabOk mixed (by show 2 ≤ Tryz.f106.ntmps; decide) ?_
  refine W.seq_region fun K hK => ?_
  simp (disch := omega) only [↓RU, RV, RH, ↓reduceIte, Nat.reduceEqDiff, reduceCtorEq, if_pos, ↓RS, RG, Nat.reduceAdd, Nat.reduceMul, Nat.reduceLeDiff, tybool, tyimpl_wall, tyint, tystruct_level_bool_line_int_from_int_long_int_]
  refine hK _ _ ?_
  clear hK K
  refine W.seq_region fun K hK => ?_
  simp (disch := omega) only [↓RU, RV, RH, ↓reduceIte, Nat.reduceEqDiff, reduceCtorEq, if_pos, ↓RS, RG, Nat.reduceAdd, Nat.reduceMul, Nat.reduceLeDiff]
  refine hK _ _ ?_
  clear hK K
  refine W.seq ?_
  refine W.seq_region fun K hK => ?_
  simp (disch := omega) only [↓RU, RV, RH, ↓reduceIte, Nat.reduceEqDiff, reduceCtorEq, if_pos, ↓RS, RG, Nat.reduceAdd, Nat.reduceMul, Nat.reduceLeDiff, tybool, tyimpl_wall, tyint, tystruct_level_bool_line_int_from_int_long_int_]
  refine hK _ _ ?_
  clear hK K
  refine W.block ?_
  refine W.loopS [0, 3, 6, 7, 8] (fun n vs S => ∃ j v0 v1 t : Nat, n = long - j ∧ j ≤ long ∧ vs = [eFloor g rs, .ref 0 0 0, slL (alongG g level line fr j).1 1 v0, slL (alongG g level line fr j).2 2 v1, .int .i64 (((fr + j : Nat) : Int))] ∧ S = ⟨(.arr 0 100 4 [.bool level, .int .i64 line, .int .i64 fr, .int .i64 long]) :: tlL (alongG g level line fr j).1 (alongG g level line fr j).2 v0 v1, t⟩) long ?_ ?_
  · refine ⟨1, [], [eFloor g rs, .ref 0 0 0, slL (alongG g level line fr 0).1 1 0, slL (alongG g level line fr 0).2 2 0, .int .i64 (((fr + 0 : Nat) : Int))], ⟨(.arr 0 100 4 [.bool level, .int .i64 line, .int .i64 fr, .int .i64 long]) :: tlL (alongG g level line fr 0).1 (alongG g level line fr 0).2 0 0, 2⟩, ?_, ?_, 0, 0, 0, 2, rfl, by omega, rfl, rfl⟩
    · simp [-List.mapM_map, Env.put, Env.of, argEnv, Srn_eq, rnObs_cons, rnObs_nil, rnOb_arr, rnOb_map, rn_loc, rn_ref, rn_mp, rn_int, rn_bool, rn_str, rn_ip, rn_sl, rn_nils, rn_nilp, rn_undef, rn_agg, rn_tup, rn_fn, rfq_loc, rfq_int, rfq_bool, rfq_str, rfq_sl, frOf, List.range_succ, List.mapM_append, List.mapM_cons, alongG, slL]
    · simp [-List.mapM_map, Env.put, Env.of, argEnv, Srn_eq, rnObs_cons, rnObs_nil, rnOb_arr, rnOb_map, rn_loc, rn_ref, rn_mp, rn_int, rn_bool, rn_str, rn_ip, rn_sl, rn_nils, rn_nilp, rn_undef, rn_agg, rn_tup, rn_fn, rfq_loc, rfq_int, rfq_bool, rfq_str, rfq_sl, frOf, List.range_succ, List.mapM_append, List.mapM_cons, alongG, tlL]
  rintro n vs S - ⟨j, v0, v1, t, rfl, h_j, rfl, rfl⟩
  refine W.seq ?_
  refine W.seq_region fun K hK => ?_
  simp (disch := omega) only [↓RU, RV, RH, ↓reduceIte, Nat.reduceEqDiff, reduceCtorEq, if_pos, w64, ↓RS, RG, Nat.reduceAdd, Nat.reduceMul, Nat.reduceLeDiff, tybool, tyimpl_wall, tyint, tystruct_level_bool_line_int_from_int_long_int_]
  refine hK _ _ ?_
  clear hK K
  refine W.cond rfl (fun h => ?_) (fun h => ?_)
  · try simp only [RL] at h
    have hjl : j < long := by omega
    have hij := hin (fr + j) (by omega) (by omega)
    have hal := alongG_len (g := g) (level := level) (line := line) (fr := fr) (n := j)
    refine W.skip ?_
    refine XThen.norm ?_
    refine W.seq ?_
    refine W.block ?_
    refine W.seq_region fun K hK => ?_
    simp (disch := omega) only [↓RU, RV, RH, ↓reduceIte, Nat.reduceEqDiff, reduceCtorEq, if_pos, List.append_nil, ↓RS, RG, Nat.reduceAdd, Nat.reduceMul, Nat.reduceLeDiff, tybool, tyimpl_wall, tyint, tystruct_level_bool_line_int_from_int_long_int_]
    refine CallR.pc (sides_pc hg rs hij) rfl (.inl rfl) ?_
    simp (disch := omega) only [↓RU, RV, RH, ↓reduceIte, Nat.reduceEqDiff, reduceCtorEq, if_pos, List.append_nil, ↓RS, RG, Nat.reduceAdd, Nat.reduceMul, Nat.reduceLeDiff, tybool, tyimpl_wall, tyint, tystruct_level_bool_line_int_from_int_long_int_]
    refine hK _ _ ?_
    clear hK K
    refine W.region_k fun K hK => ?_
    by_cases hj0 : j = 0
    · skip
      subst hj0
      rw [show (alongG g level line fr 0) = ([], []) from rfl]
      rw [show slL ([], []).1 1 v0 = .nils from rfl, show slL ([], []).2 2 v1 = .nils from rfl, show tlL ([], []).1 ([], []).2 v0 v1 = [] from rfl]
      simp (disch := omega) only [↓RU, RV, RH, ↓reduceIte, Nat.reduceEqDiff, reduceCtorEq, if_pos, ↓RS, RG, Nat.reduceAdd, Nat.reduceMul, Nat.reduceLeDiff, tyLint, tyint]
      refine hK _ _ ?_
      clear hK K
      refine XBlock.norm ?_
      refine XThen.norm ?_
      refine W.region_k fun K hK => ?_
      simp (disch := omega) only [↓RU, RV, RH, ↓reduceIte, Nat.reduceEqDiff, reduceCtorEq, if_pos, w64, ↓RS, RG, Nat.reduceAdd, Nat.reduceMul, Nat.reduceLeDiff, tyint]
      refine hK _ _ ?_
      clear hK K
      refine XThen.norm ?_
      refine ⟨long - ((0 + 1)), by omega, 1, [2, 4], [eFloor g rs, .ref 0 0 0, slL (alongG g level line fr (0 + 1)).1 1 (t + 4), slL (alongG g level line fr (0 + 1)).2 2 (t + 4), .int .i64 (((fr + (0 + 1) : Nat) : Int))], ⟨(.arr 0 100 4 [.bool level, .int .i64 line, .int .i64 fr, .int .i64 long]) :: tlL (alongG g level line fr (0 + 1)).1 (alongG g level line fr (0 + 1)).2 (t + 4) (t + 4), (t + 5)⟩, ?_, ?_, (0 + 1), (t + 4), (t + 4), (t + 5), rfl, by omega, rfl, rfl⟩
      · simp [-List.mapM_map, Env.put, Env.of, argEnv, Srn_eq, rnObs_cons, rnObs_nil, rnOb_arr, rnOb_map, rn_loc, rn_ref, rn_mp, rn_int, rn_bool, rn_str, rn_ip, rn_sl, rn_nils, rn_nilp, rn_undef, rn_agg, rn_tup, rn_fn, rfq_loc, rfq_int, rfq_bool, rfq_str, rfq_sl, frOf, List.range_succ, List.mapM_append, List.mapM_cons, show alongG g level line fr 0 = ([], []) from rfl, show List.idxOf 4 [2, 4] = 1 from rfl, Int.add_assoc, alongG_succ1, alongG_succ2, slL_ne, hal.1, hal.2]
      · simp [-List.mapM_map, Env.put, Env.of, argEnv, Srn_eq, rnObs_cons, rnObs_nil, rnOb_arr, rnOb_map, rn_loc, rn_ref, rn_mp, rn_int, rn_bool, rn_str, rn_ip, rn_sl, rn_nils, rn_nilp, rn_undef, rn_agg, rn_tup, rn_fn, rfq_loc, rfq_int, rfq_bool, rfq_str, rfq_sl, frOf, List.range_succ, List.mapM_append, List.mapM_cons, show alongG g level line fr 0 = ([], []) from rfl, show List.idxOf 4 [2, 4] = 1 from rfl, alongG_succ1, alongG_succ2, tlL_ne, rn_ints, tk_le, hal.1, hal.2]
    · skip
      have hne1 : (alongG g level line fr j).1 ≠ [] := by intro h; have := hal.1; rw [h] at this; simp at this; omega
      have hne2 : (alongG g level line fr j).2 ≠ [] := by intro h; have := hal.2; rw [h] at this; simp at this; omega
      rw [slL_ne hne1, slL_ne hne2, tlL_ne hne1]
      simp (disch := omega) only [↓RU, RV, RH, ↓reduceIte, Nat.reduceEqDiff, reduceCtorEq, if_pos, ↓RS, RG, Nat.reduceAdd, Nat.reduceMul, Nat.reduceLeDiff, tyLint, tyint, hal.1, hal.2]
      refine hK _ _ ?_
      clear hK K
      refine XBlock.norm ?_
      refine XThen.norm ?_
      refine W.region_k fun K hK => ?_
      simp (disch := omega) only [↓RU, RV, RH, ↓reduceIte, Nat.reduceEqDiff, reduceCtorEq, if_pos, w64, ↓RS, RG, Nat.reduceAdd, Nat.reduceMul, Nat.reduceLeDiff, tyint]
      refine hK _ _ ?_
      clear hK K
      refine XThen.norm ?_
      refine ⟨long - ((j + 1)), by omega, 3, [], [eFloor g rs, .ref 0 0 0, slL (alongG g level line fr (j + 1)).1 1 (t + 1), slL (alongG g level line fr (j + 1)).2 2 (t + 3), .int .i64 (((fr + (j + 1) : Nat) : Int))], ⟨(.arr 0 100 4 [.bool level, .int .i64 line, .int .i64 fr, .int .i64 long]) :: tlL (alongG g level line fr (j + 1)).1 (alongG g level line fr (j + 1)).2 (t + 1) (t + 3), (t + 5)⟩, ?_, ?_, (j + 1), (t + 1), (t + 3), (t + 5), rfl, by omega, rfl, rfl⟩
      · simp [-List.mapM_map, Env.put, Env.of, argEnv, Srn_eq, rnObs_cons, rnObs_nil, rnOb_arr, rnOb_map, rn_loc, rn_ref, rn_mp, rn_int, rn_bool, rn_str, rn_ip, rn_sl, rn_nils, rn_nilp, rn_undef, rn_agg, rn_tup, rn_fn, rfq_loc, rfq_int, rfq_bool, rfq_str, rfq_sl, frOf, List.range_succ, List.mapM_append, List.mapM_cons, Int.add_assoc, alongG_succ1, alongG_succ2, slL_ne, hal.1, hal.2]
      · simp [-List.mapM_map, Env.put, Env.of, argEnv, Srn_eq, rnObs_cons, rnObs_nil, rnOb_arr, rnOb_map, rn_loc, rn_ref, rn_mp, rn_int, rn_bool, rn_str, rn_ip, rn_sl, rn_nils, rn_nilp, rn_undef, rn_agg, rn_tup, rn_fn, rfq_loc, rfq_int, rfq_bool, rfq_str, rfq_sl, frOf, List.range_succ, List.mapM_append, List.mapM_cons, alongG_succ1, alongG_succ2, tlL_ne, rn_ints, tk_le, hal.1, hal.2]
  · try simp only [RL] at h
    obtain rfl : long = j := by omega
    refine W.exit ?_
    refine XThen.exit ?_
    refine XThen.exit ?_
    refine XBlock.hit ?_
    refine XThen.norm ?_
    refine W.seq_region fun K hK => ?_
    have hal := alongG_len (g := g) (level := level) (line := line) (fr := fr) (n := long)
    have hne1 : (alongG g level line fr long).1 ≠ [] := by intro h; have := hal.1; rw [h] at this; simp at this; omega
    have hne2 : (alongG g level line fr long).2 ≠ [] := by intro h; have := hal.2; rw [h] at this; simp at this; omega
    rw [slL_ne hne1, slL_ne hne2, tlL_ne hne1]
    simp (disch := omega) only [↓RU, RV, RH, ↓reduceIte, Nat.reduceEqDiff, reduceCtorEq, if_pos, List.append_nil, ↓RS, RG, Nat.reduceAdd, Nat.reduceMul, Nat.reduceLeDiff]
    refine CallR.ev (compact_ev (F := [(.arr 0 100 4 [.bool level, .int .i64 line, .int .i64 fr, .int .i64 long])]) (R := [.arr v1 3 1 ((alongG g level line fr long).2.map (.int .i64))]) (l := (alongG g level line fr long).1) (by omega)) ?_
    rintro _ _ ⟨z1, rfl, rfl⟩
    simp (disch := omega) only [↓RU, RV, RH, ↓reduceIte, Nat.reduceEqDiff, reduceCtorEq, if_pos, List.append_nil, ↓RS, RG, Nat.reduceAdd, Nat.reduceMul, Nat.reduceLeDiff]
    refine CallR.ev (compact_ev (F := [(.arr 0 100 4 [.bool level, .int .i64 line, .int .i64 fr, .int .i64 long]), .arr v0 3 1 ((ddp (alongG g level line fr long).1 ++ z1).map (.int .i64))]) (R := []) (l := (alongG g level line fr long).2) (by omega)) ?_
    rintro _ _ ⟨z2, rfl, rfl⟩
    simp (disch := omega) only [↓RU, RV, RH, ↓reduceIte, Nat.reduceEqDiff, reduceCtorEq, if_pos, List.append_nil, ↓RS, RG, Nat.reduceAdd, Nat.reduceMul, Nat.reduceLeDiff]
    refine hK _ _ ?_
    clear hK K
    refine W.ret ?_
    refine BodyQ.ret rfl ?_
    exact reify_tup2 (reify_pre (k := 7) rfl) (reify_pre (k := 7) rfl)

end Fw
end Go.Proofs.YtcglmbijpjhbmaaGreat

/-! Relations of rooms in plain words, and in the store. -/
namespace Go.Proofs.YtcglmbijpjhbmaaGreat
namespace Fw
open Go

abbrev eBools (l : List Bool) : PV := .sl (l.map .bool) l.length
abbrev eRel (M : List (List Bool)) : PV := .sl (M.map eBools) M.length
theorem take_all_of {S S' : Store} (h : S = S') : S.take S.obs.length = S' := by rw [take_all, h]
/-- A relation of n rooms. -/
def Sq (n : Nat) (M : List (List Bool)) : Prop := M.length = n ∧ ∀ r ∈ M, r.length = n
def getB (M : List (List Bool)) (a b : Nat) : Bool := (M[a]?.getD [])[b]?.getD false
def setB (M : List (List Bool)) (a b : Nat) (x : Bool) : List (List Bool) := M.set a ((M[a]?.getD []).set b x)
theorem Sq.at_ {n : Nat} {M : List (List Bool)} (h : Sq n M) {a b : Nat} (ha : a < n) (hb : b < n) : ∃ row, M[a]? = some row ∧ row.length = n ∧ row[b]? = some (getB M a b) := by
  obtain ⟨row, hr, hm⟩ := get_of (show a < M.length by rw [h.1]; exact ha)
  have hl := h.2 row hm
  obtain ⟨x, hx, -⟩ := get_of (show b < row.length by omega)
  exact ⟨row, hr, hl, by simp [getB, hr, hx]⟩
theorem Sq.set {n : Nat} {M : List (List Bool)} (h : Sq n M) {a b : Nat} {x : Bool} (ha : a < n) : Sq n (setB M a b x) := by
  obtain ⟨row, hr, hm⟩ := get_of (show a < M.length by rw [h.1]; exact ha)
  refine ⟨by simp [setB, h.1], fun r hr' => ?_⟩
  rcases List.mem_or_eq_of_mem_set hr' with h1 | rfl
  · exact h.2 r h1
  · simp [hr, h.2 row hm]
theorem setB_is {M : List (List Bool)} {a b : Nat} {x : Bool} {row : List Bool} (h : M[a]? = some row) : setB M a b x = M.set a (row.set b x) := by simp [setB, h]
def emptyM (n : Nat) : List (List Bool) := List.replicate n (List.replicate n false)
theorem emptyM_sq (n : Nat) : Sq n (emptyM n) := ⟨by simp [emptyM], fun r hr => by rw [(List.mem_replicate.1 hr).2]; simp⟩

/-- A relation's objects: its rows behind it. -/
def relObs (k t : Nat) (M : List (List Bool)) : List Ob :=
  .arr t 103 1 ((List.range M.length).map fun i => .loc (k + 1 + i) t 0 M.length) :: M.map fun r => .arr t 4 1 (r.map .bool)
theorem relObs_len {k t : Nat} {M : List (List Bool)} : (relObs k t M).length = M.length + 1 := by simp [relObs]
theorem rel0 {F R : List Ob} {t : Nat} {M : List (List Bool)} {n : Nat} (h : M.length = n) : (F ++ (relObs F.length t M ++ R))[F.length]? = some (.arr t 103 1 ((List.range n).map fun i => .loc (F.length + 1 + i) t 0 n)) := by
  subst h; simp [relObs]
theorem relR {F R : List Ob} {t a : Nat} {M : List (List Bool)} {row : List Bool} (h : M[a]? = some row) : (F ++ (relObs F.length t M ++ R))[F.length + 1 + a]? = some (.arr t 4 1 (row.map .bool)) := by
  have ha := len_of h
  rw [List.getElem?_append_right (by omega), List.getElem?_append_left (by rw [relObs_len]; omega), show F.length + 1 + a - F.length = a + 1 by omega]
  simp [relObs, h]
theorem relSet {F R : List Ob} {t a : Nat} {M : List (List Bool)} {row : List Bool} {n : Nat} (hn : M.length = n) (h : a < n) : (F ++ (relObs F.length t M ++ R)).set (F.length + 1 + a) (.arr t 4 1 (row.map .bool)) = F ++ (relObs F.length t (M.set a row) ++ R) := by
  subst hn
  rw [List.set_append_right _ _ (by omega), List.set_append_left _ _ (by rw [relObs_len]; omega), show F.length + 1 + a - F.length = a + 1 by omega]
  simp [relObs, List.map_set]
theorem rg_get {n a : Nat} (h : a < n) : (List.range n)[a]? = some a := List.getElem?_range h
theorem set_bool {l : List Bool} {a : Nat} {x : Bool} : (l.map PV.bool).set a (.bool x) = (l.set a x).map PV.bool := by rw [List.map_set]
theorem repz_bool : ∀ (n : Nat), repz [PV.bool false] n = (List.replicate n false).map PV.bool
  | 0 => rfl
  | n + 1 => by rw [repz_succ, repz_bool n, List.replicate_succ]; rfl
theorem repz_nils : ∀ (n : Nat), repz [PV.nils] n = List.replicate n PV.nils
  | 0 => rfl
  | n + 1 => by rw [repz_succ, repz_nils n, List.replicate_succ]; rfl

theorem mapM_of {α : Type} {f : α → PV} {g : PV → Option PV} {h : α → PV} : ∀ {l : List α}, (∀ a ∈ l, g (f a) = some (h a)) → (l.map f).mapM g = some (l.map h)
  | [], _ => rfl
  | a :: l, H => by
    rw [List.map_cons, List.mapM_cons, H a (by simp), mapM_of (l := l) fun x hx => H x (by simp [hx])]; rfl
theorem shObs_of {α : Type} {f h : α → Ob} {S : Store} {im : Bool} : ∀ {l : List α}, (∀ a ∈ l, shOb S im (f a) = some (h a)) → shObs S im (l.map f) = some (l.map h)
  | [], _ => rfl
  | a :: l, H => by
    rw [List.map_cons, shObs, H a (by simp), Option.bind_some, shObs_of (l := l) fun x hx => H x (by simp [hx])]; rfl

/-- What stands while a relation is being made: i rows, of versions of their own. -/
def grX (n i : Nat) : List PV := ((List.range i).map fun j => PV.loc (j + 1) (j + 1) 0 n) ++ List.replicate (n - i) .nils
def grY (n i : Nat) : List Ob := (List.range i).map fun j => .arr (j + 1) 4 1 ((List.replicate n false).map .bool)
theorem grX_len {n i : Nat} (h : i ≤ n) : (grX n i).length = n := by simp [grX]; omega
theorem grY_len {n i : Nat} : (grY n i).length = i := by simp [grY]
theorem grY_succ {n i : Nat} : grY n (i + 1) = grY n i ++ [.arr (i + 1) 4 1 ((List.replicate n false).map .bool)] := by simp [grY, List.range_succ]
theorem grX_succ {n i : Nat} (h : i < n) : (grX n i).take i ++ [.loc (i + 1) (i + 1) 0 n] ++ (grX n i).drop (i + 1) = grX n (i + 1) := by
  unfold grX
  have e : ((List.range i).map fun j => PV.loc (j + 1) (j + 1) 0 n).length = i := by simp
  rw [List.take_append_of_le_length (by omega), List.take_of_length_le (by omega)]
  have : (((List.range i).map fun j => PV.loc (j + 1) (j + 1) 0 n) ++ List.replicate (n - i) PV.nils).drop (i + 1) = List.replicate (n - (i + 1)) PV.nils := by
    rw [List.drop_append, List.drop_of_length_le (by omega), e, List.nil_append, List.drop_replicate]; congr 1; omega
  rw [this, List.range_succ]; simp
def growObs (n i : Nat) : List Ob := .arr 0 103 1 (grX n i) :: grY n i
theorem grow_sh {n t : Nat} {im : Bool} : ∃ k, sh (Store.take ⟨growObs n n, t⟩ k) im 10 (.loc 0 0 0 n) = some (.loc 0 0 0 n) ∧ shObs (Store.take ⟨growObs n n, t⟩ k) im (Store.take ⟨growObs n n, t⟩ k).obs = some (relObs 0 0 (emptyM n)) := by
  refine ⟨(growObs n n).length, ?_⟩
  have e : Store.take ⟨growObs n n, t⟩ (growObs n n).length = ⟨growObs n n, t⟩ := take_all
  rw [e]
  refine ⟨rfl, ?_⟩
  have hrow : ∀ j, j < n → (growObs n n)[j + 1]? = some (.arr (j + 1) 4 1 ((List.replicate n false).map .bool)) := by
    intro j hj; simp [growObs, grY, hj]
  have h1 : ((List.range n).map fun j => PV.loc (j + 1) (j + 1) 0 n).mapM (sh ⟨growObs n n, t⟩ im 10) = some ((List.range n).map fun j => PV.loc (0 + 1 + j) 0 0 n) := by
    refine mapM_of fun j hj => ?_
    have hj := List.mem_range.1 hj
    simp only [sh, hrow j hj, if_true]
    congr 2; omega
  have h2 : shObs ⟨growObs n n, t⟩ im ((List.range n).map fun j => .arr (j + 1) 4 1 ((List.replicate n false).map .bool)) = some ((List.range n).map fun _ => .arr 0 4 1 ((List.replicate n false).map .bool)) := by
    refine shObs_of fun j _ => ?_
    simp only [shOb]
    rw [sh_scal (by simp [List.all_replicate, scal])]; rfl
  have h3 : (emptyM n).length = n := by simp [emptyM]
  show shObs ⟨growObs n n, t⟩ im (growObs n n) = _
  conv => lhs; arg 3; unfold growObs grX grY
  rw [shObs, Nat.sub_self, List.replicate_zero, List.append_nil]
  simp only [shOb]
  rw [h1]
  simp only [Option.map_some, Option.bind_some]
  rw [h2]
  simp only [Option.map_some, relObs, h3]
  congr 2
  simp [emptyM, List.map_const']

theorem up_rel {k t : Nat} {M : List (List Bool)} : (relObs 0 0 M).map (upOb k t) = relObs k t M := by
  simp only [relObs, List.map_cons, upOb_arr, List.map_map]
  congr 1
  · congr 1
    apply List.map_congr_left
    intro i _
    simp only [Function.comp, up_loc]
    congr 1; omega
  · apply List.map_congr_left
    intro r _
    simp only [Function.comp, upOb_arr, up_bools]

/-- A relation out of the store. -/
theorem reify_rel {S : Store} {im : Bool} {f k t : Nat} {M : List (List Bool)} {n : Nat} (hM : Sq n M) (h0 : S.obs[k]? = some (.arr t 103 1 ((List.range n).map fun i => .loc (k + 1 + i) t 0 n)))
    (h1 : ∀ a row, M[a]? = some row → S.obs[k + 1 + a]? = some (.arr t 4 1 (row.map .bool))) : reify S im (f + 3) (.loc k t 0 n) = some (eRel M) := by
  have hm : ((List.range n).map fun i => PV.loc (k + 1 + i) t 0 n).mapM (reify S im (f + 2)) = some ((List.range n).map fun i => eBools (M[i]?.getD [])) := by
    refine mapM_of fun i hi => ?_
    have hi := List.mem_range.1 hi
    obtain ⟨row, hr, hm⟩ := get_of (show i < M.length by rw [hM.1]; exact hi)
    have hl := hM.2 row hm
    rw [hr]
    have := reify_loc (n := n) (k := f + 1) (im := im) (h1 i row hr) (by simp [hl]) (mapM_bool row)
    rw [this]
    simp [eBools, hl]
  have := reify_loc (n := n) (k := f + 2) (im := im) h0 (by simp) hm
  rw [this]
  have e : ((List.range n).map fun i => eBools (M[i]?.getD [])) = M.map eBools := by
    apply List.ext_getElem
    · simp [hM.1]
    · intro i a b
      have : i < M.length := by rw [hM.1]; simpa using a
      simp [this]
  rw [e]
  simp [eRel, hM.1]

/-! ### Closing -/
def clB (k a : Nat) (M : List (List Bool)) (b : Nat) : List (List Bool) := setB M a b (getB M a b || (getB M a k && getB M k b))
def clA (n k : Nat) (M : List (List Bool)) (a : Nat) : List (List Bool) := (List.range n).foldl (clB k a) M
def clK (n : Nat) (M : List (List Bool)) (k : Nat) : List (List Bool) := (List.range n).foldl (clA n k) M
def closeM (M : List (List Bool)) : List (List Bool) := (List.range M.length).foldl (clK M.length) M
theorem Sq.foldl {n : Nat} {f : List (List Bool) → Nat → List (List Bool)} : ∀ (i : Nat) {M : List (List Bool)}, (∀ M j, j < i → Sq n M → Sq n (f M j)) → Sq n M → Sq n ((List.range i).foldl f M)
  | 0, M, _, h => by simpa using h
  | i + 1, M, hf, h => by
    rw [foldl_rg]
    exact hf _ i (Nat.lt_succ_self i) (Sq.foldl i (fun M j hj => hf M j (by omega)) h)
theorem Sq.clB {n : Nat} {M : List (List Bool)} {k a b : Nat} (h : Sq n M) (ha : a < n) : Sq n (clB k a M b) := h.set ha
theorem Sq.clA {n : Nat} {M : List (List Bool)} {k a : Nat} (h : Sq n M) (ha : a < n) : Sq n (clA n k M a) := Sq.foldl n (fun _ _ _ h => h.clB ha) h
theorem Sq.clK {n : Nat} {M : List (List Bool)} {k : Nat} (h : Sq n M) : Sq n (clK n M k) := Sq.foldl n (fun _ _ hj h => h.clA hj) h
theorem Sq.close {n : Nat} {M : List (List Bool)} (h : Sq n M) : Sq n (closeM M) := by
  unfold closeM; rw [h.1]; exact Sq.foldl n (fun _ _ _ h => h.clK) h

end Fw
end Go.Proofs.YtcglmbijpjhbmaaGreat

/-! Relations, gone through. -/
namespace Go.Proofs.YtcglmbijpjhbmaaGreat
namespace Fw
open Go

theorem emptyRel_pn {nr : Nat} (hn : nr ≤ 9) : PN Tryz.prog 104 [.int .i64 nr] (.loc 0 0 0 nr) (relObs 0 0 (emptyM nr)) false := by
  refine PN.of ⟨Tryz.func104, by kernel_rfl, rfl, by kernel_rfl⟩ tabOk mixed (by show 1 ≤ Tryz.f104.ntmps; decide) ?_
  refine W.seq_region fun K hK => ?_
  simp (disch := omega) only [↓RU, RV, RH, ↓reduceIte, Nat.reduceEqDiff, reduceCtorEq, if_pos, ↓RS, RG, Nat.reduceAdd, Nat.reduceMul, Nat.reduceLeDiff]
  refine hK _ _ ?_
  clear hK K
  refine W.seq_region fun K hK => ?_
  simp (disch := omega) only [↓RU, RV, RH, ↓reduceIte, Nat.reduceEqDiff, reduceCtorEq, if_pos, ↓RS, RG, Nat.reduceAdd, Nat.reduceMul, Nat.reduceLeDiff, tyLLbool, tyLbool, tybool, tyimpl_relation, repz_nils, ile_true]
  refine hK _ _ ?_
  clear hK K
  refine W.seq ?_
  refine W.seq_region fun K hK => ?_
  simp (disch := omega) only [↓RU, RV, RH, ↓reduceIte, Nat.reduceEqDiff, reduceCtorEq, if_pos, ↓RS, RG, Nat.reduceAdd, Nat.reduceMul, Nat.reduceLeDiff, tyLLbool, tyLbool, tybool, tyimpl_relation]
  refine hK _ _ ?_
  clear hK K
  refine W.block ?_
  refine W.loop [0, 3, 8, 9] (fun n vs S => ∃ i : Nat, n = nr - i ∧ i ≤ nr ∧ vs = [.int .i64 nr, .loc 0 0 0 nr, .int .i64 nr, .int .i64 i] ∧ S = ⟨.arr 0 103 1 (grX nr i) :: grY nr i, i + 1⟩) (nr) ?_ ?_
  · refine ⟨_, 0, rfl, Nat.zero_le _, ?_, take_all_of (by simp [grX, grY])⟩
    simp [Env.put, Env.of, argEnv]
  rintro n vs S - ⟨i, rfl, h_i, rfl, rfl⟩
  refine W.seq_region fun K hK => ?_
  simp (disch := omega) only [↓RU, RV, RH, ↓reduceIte, Nat.reduceEqDiff, reduceCtorEq, if_pos, w64, ↓RS, RG, Nat.reduceAdd, Nat.reduceMul, Nat.reduceLeDiff, tyint]
  refine hK _ _ ?_
  clear hK K
  refine W.seq ?_
  refine W.cond rfl (fun h => ?_) (fun h => ?_)
  · try simp only [RL] at h
    have hx := grX_len (show i ≤ nr by omega)
    refine W.skip ?_
    refine XThen.norm ?_
    refine W.seq ?_
    refine W.block ?_
    refine W.seq_region fun K hK => ?_
    simp (disch := omega) only [↓RU, RV, RH, ↓reduceIte, Nat.reduceEqDiff, reduceCtorEq, if_pos, ↓RS, RG, Nat.reduceAdd, Nat.reduceMul, Nat.reduceLeDiff]
    refine hK _ _ ?_
    clear hK K
    refine W.region_k fun K hK => ?_
    simp (disch := omega) only [↓RU, RV, RH, ↓reduceIte, Nat.reduceEqDiff, reduceCtorEq, if_pos, ↓RS, RG, Nat.reduceAdd, Nat.reduceMul, Nat.reduceLeDiff, tyLLbool, tyLbool, tybool, tyimpl_relation, repz_bool, ile_true, grY_len, hx, grX_succ]
    refine hK _ _ ?_
    clear hK K
    refine XBlock.norm ?_
    refine XThen.norm ?_
    refine W.region_k fun K hK => ?_
    simp (disch := omega) only [↓RU, RV, RH, ↓reduceIte, Nat.reduceEqDiff, reduceCtorEq, if_pos, w64, ↓RS, RG, Nat.reduceAdd, Nat.reduceMul, Nat.reduceLeDiff, tyint]
    refine hK _ _ ?_
    clear hK K
    refine XThen.norm ?_
    refine ⟨nr - (i + 1), by omega, _, i + 1, rfl, by omega, ?_, take_all_of (by simp [grY_succ])⟩
    simp [Env.put, Env.of]
  · try simp only [RL] at h
    refine W.exit ?_
    refine XThen.exit ?_
    refine XThen.exit ?_
    refine XBlock.hit ?_
    refine XThen.norm ?_
    refine W.seq_region fun K hK => ?_
    simp (disch := omega) only [↓RU, RV, RH, ↓reduceIte, Nat.reduceEqDiff, reduceCtorEq, if_pos, ↓RS, RG, Nat.reduceAdd, Nat.reduceMul, Nat.reduceLeDiff]
    refine hK _ _ ?_
    clear hK K
    refine W.ret ?_
    refine BodyQ.ret rfl ?_
    obtain rfl : nr = i := by omega
    exact grow_sh

theorem close_ev {F R : List Ob} {t tk nr : Nat} {M : List (List Bool)} (hM : Sq nr M) (hn : nr ≤ 9) : Ev Tryz.prog 107 [.loc F.length t 0 nr] ⟨F ++ (relObs F.length t (M) ++ R), tk⟩ fun v S => v = .tup [] ∧ S = ⟨F ++ (relObs F.length t (closeM M) ++ R), tk⟩ := by
  refine Ev.of ⟨Tryz.func107, by kernel_rfl, rfl, by kernel_rfl⟩ tabOk mixed (by show 1 ≤ Tryz.f107.ntmps; decide) ?_
  refine W.seq_region fun K hK => ?_
  simp (disch := omega) only [↓RU, RV, RH, ↓reduceIte, Nat.reduceEqDiff, reduceCtorEq, if_pos, ↓RS, RG, Nat.reduceAdd, Nat.reduceMul, Nat.reduceLeDiff, tyLLbool, tyLbool, tybool, tyimpl_relation, rel0 hM.1]
  refine hK _ _ ?_
  clear hK K
  refine W.block ?_
  refine W.loop [0, 6, 7] (fun n vs S => ∃ k : Nat, n = nr - k ∧ k ≤ nr ∧ vs = [.loc F.length t 0 nr, .int .i64 nr, .int .i64 k] ∧ S = ⟨F ++ (relObs F.length t ((List.range k).foldl (clK nr) M) ++ R), tk⟩) (nr) ?_ ?_
  · refine ⟨_, 0, rfl, Nat.zero_le _, ?_, take_all_of rfl⟩
    simp [Env.put, Env.of, argEnv]
  rintro n vs S - ⟨k, rfl, h_k, rfl, rfl⟩
  refine W.seq_region fun K hK => ?_
  simp (disch := omega) only [↓RU, RV, RH, ↓reduceIte, Nat.reduceEqDiff, reduceCtorEq, if_pos, w64, ↓RS, RG, Nat.reduceAdd, Nat.reduceMul, Nat.reduceLeDiff, tyint]
  refine hK _ _ ?_
  clear hK K
  refine W.seq ?_
  refine W.cond rfl (fun h => ?_) (fun h => ?_)
  · try simp only [RL] at h
    have hX := Sq.foldl (f := clK nr) k (fun _ _ _ h => h.clK) hM
    generalize hXe : (List.range k).foldl (clK nr) M = X at hX
    refine W.skip ?_
    refine XThen.norm ?_
    refine W.seq ?_
    refine W.block ?_
    refine W.seq_region fun K hK => ?_
    simp (disch := omega) only [↓RU, RV, RH, ↓reduceIte, Nat.reduceEqDiff, reduceCtorEq, if_pos, ↓RS, RG, Nat.reduceAdd, Nat.reduceMul, Nat.reduceLeDiff]
    refine hK _ _ ?_
    clear hK K
    refine W.seq_region fun K hK => ?_
    simp (disch := omega) only [↓RU, RV, RH, ↓reduceIte, Nat.reduceEqDiff, reduceCtorEq, if_pos, ↓RS, RG, Nat.reduceAdd, Nat.reduceMul, Nat.reduceLeDiff, tyLLbool, tyLbool, tybool, tyimpl_relation, hXe, rel0 hX.1]
    refine hK _ _ ?_
    clear hK K
    refine W.block ?_
    refine W.loop [0, 2, 6, 7, 11, 12] (fun n vs S => ∃ a : Nat, n = nr - a ∧ a ≤ nr ∧ vs = [.loc F.length t 0 nr, .int .i64 k, .int .i64 nr, .int .i64 k, .int .i64 nr, .int .i64 a] ∧ S = ⟨F ++ (relObs F.length t ((List.range a).foldl (clA nr k) X) ++ R), tk⟩) (nr) ?_ ?_
    · refine ⟨_, 0, rfl, Nat.zero_le _, ?_, take_all_of rfl⟩
      simp [Env.put, Env.of, argEnv]
    rintro n vs S - ⟨a, rfl, h_a, rfl, rfl⟩
    refine W.seq_region fun K hK => ?_
    simp (disch := omega) only [↓RU, RV, RH, ↓reduceIte, Nat.reduceEqDiff, reduceCtorEq, if_pos, w64, ↓RS, RG, Nat.reduceAdd, Nat.reduceMul, Nat.reduceLeDiff, tyint]
    refine hK _ _ ?_
    clear hK K
    refine W.seq ?_
    refine W.cond rfl (fun h1 => ?_) (fun h1 => ?_)
    · try simp only [RL] at h1
      have hY := Sq.foldl (f := clA nr k) a (fun _ _ hj h => h.clA (by omega)) hX
      generalize hYe : (List.range a).foldl (clA nr k) X = Y at hY
      refine W.skip ?_
      refine XThen.norm ?_
      refine W.seq ?_
      refine W.block ?_
      refine W.seq_region fun K hK => ?_
      simp (disch := omega) only [↓RU, RV, RH, ↓reduceIte, Nat.reduceEqDiff, reduceCtorEq, if_pos, ↓RS, RG, Nat.reduceAdd, Nat.reduceMul, Nat.reduceLeDiff]
      refine hK _ _ ?_
      clear hK K
      refine W.seq_region fun K hK => ?_
      simp (disch := omega) only [↓RU, RV, RH, ↓reduceIte, Nat.reduceEqDiff, reduceCtorEq, if_pos, ↓RS, RG, Nat.reduceAdd, Nat.reduceMul, Nat.reduceLeDiff, tyLLbool, tyLbool, tybool, tyimpl_relation, hYe, rel0 hY.1]
      refine hK _ _ ?_
      clear hK K
      refine W.block ?_
      refine W.loop [0, 2, 3, 6, 7, 11, 12, 16, 17] (fun n vs S => ∃ b : Nat, n = nr - b ∧ b ≤ nr ∧ vs = [.loc F.length t 0 nr, .int .i64 k, .int .i64 a, .int .i64 nr, .int .i64 k, .int .i64 nr, .int .i64 a, .int .i64 nr, .int .i64 b] ∧ S = ⟨F ++ (relObs F.length t ((List.range b).foldl (clB k a) Y) ++ R), tk⟩) (nr) ?_ ?_
      · refine ⟨_, 0, rfl, Nat.zero_le _, ?_, take_all_of rfl⟩
        simp [Env.put, Env.of, argEnv]
      rintro n vs S - ⟨b, rfl, h_b, rfl, rfl⟩
      refine W.seq_region fun K hK => ?_
      simp (disch := omega) only [↓RU, RV, RH, ↓reduceIte, Nat.reduceEqDiff, reduceCtorEq, if_pos, w64, ↓RS, RG, Nat.reduceAdd, Nat.reduceMul, Nat.reduceLeDiff, tyint]
      refine hK _ _ ?_
      clear hK K
      refine W.seq ?_
      refine W.cond rfl (fun h2 => ?_) (fun h2 => ?_)
      · try simp only [RL] at h2
        have hZ := Sq.foldl (f := clB k a) b (fun _ _ _ h => h.clB (show a < nr by omega)) hY
        generalize hZe : (List.range b).foldl (clB k a) Y = Z at hZ
        have hZl := hZ.1
        obtain ⟨ra, hra, hral, hrab⟩ := hZ.at_ (show a < nr by omega) (show b < nr by omega)
        obtain ⟨ra2, hra2, -, hrak⟩ := hZ.at_ (show a < nr by omega) (show k < nr by omega)
        obtain ⟨rk, hrk, hrkl, hrkb⟩ := hZ.at_ (show k < nr by omega) (show b < nr by omega)
        obtain rfl : ra = ra2 := by rw [hra] at hra2; exact Option.some.inj hra2
        refine W.skip ?_
        refine XThen.norm ?_
        refine W.seq ?_
        refine W.block ?_
        refine W.seq_region fun K hK => ?_
        simp (disch := omega) only [↓RU, RV, RH, ↓reduceIte, Nat.reduceEqDiff, reduceCtorEq, if_pos, ↓RS, RG, Nat.reduceAdd, Nat.reduceMul, Nat.reduceLeDiff]
        refine hK _ _ ?_
        clear hK K
        refine W.draw_k (by kernel_rfl) fun K hK => ?_
        rcases hv : (getB Z a b, getB Z a k, getB Z k b) with ⟨_ | _, _ | _, _ | _⟩
        · skip
          simp only [Prod.mk.injEq] at hv
          obtain ⟨hv1, hv2, hv3⟩ := hv
          rw [hv1] at hrab
          rw [hv2] at hrak
          rw [hv3] at hrkb
          simp (disch := omega) only [↓RU, RV, RH, ↓reduceIte, Nat.reduceEqDiff, reduceCtorEq, if_pos, ↓RS, RG, Nat.reduceAdd, Nat.reduceMul, Nat.reduceLeDiff, tyLLbool, tyLbool, tybool, tyimpl_relation, hZe, rel0 hZl, rg_get, relR hra, relR hrk, hrab, hrak, hrkb, set_spl, set_bool, hral, relSet hZl]
          refine hK _ _ ?_
          clear hK K
          refine XBlock.norm ?_
          refine XThen.norm ?_
          refine W.region_k fun K hK => ?_
          simp (disch := omega) only [↓RU, RV, RH, ↓reduceIte, Nat.reduceEqDiff, reduceCtorEq, if_pos, w64, ↓RS, RG, Nat.reduceAdd, Nat.reduceMul, Nat.reduceLeDiff, tyint]
          refine hK _ _ ?_
          clear hK K
          refine XThen.norm ?_
          refine ⟨nr - (b + 1), by omega, _, b + 1, rfl, by omega, ?_, take_all_of (by rw [foldl_rg, hZe, clB, setB_is hra]; simp [hv1, hv2, hv3])⟩
          simp [Env.put, Env.of]
        · skip
          simp only [Prod.mk.injEq] at hv
          obtain ⟨hv1, hv2, hv3⟩ := hv
          rw [hv1] at hrab
          rw [hv2] at hrak
          rw [hv3] at hrkb
          simp (disch := omega) only [↓RU, RV, RH, ↓reduceIte, Nat.reduceEqDiff, reduceCtorEq, if_pos, ↓RS, RG, Nat.reduceAdd, Nat.reduceMul, Nat.reduceLeDiff, tyLLbool, tyLbool, tybool, tyimpl_relation, hZe, rel0 hZl, rg_get, relR hra, relR hrk, hrab, hrak, hrkb, set_spl, set_bool, hral, relSet hZl]
          refine hK _ _ ?_
          clear hK K
          refine XBlock.norm ?_
          refine XThen.norm ?_
          refine W.region_k fun K hK => ?_
          simp (disch := omega) only [↓RU, RV, RH, ↓reduceIte, Nat.reduceEqDiff, reduceCtorEq, if_pos, w64, ↓RS, RG, Nat.reduceAdd, Nat.reduceMul, Nat.reduceLeDiff, tyint]
          refine hK _ _ ?_
          clear hK K
          refine XThen.norm ?_
          refine ⟨nr - (b + 1), by omega, _, b + 1, rfl, by omega, ?_, take_all_of (by rw [foldl_rg, hZe, clB, setB_is hra]; simp [hv1, hv2, hv3])⟩
          simp [Env.put, Env.of]
        · skip
          simp only [Prod.mk.injEq] at hv
          obtain ⟨hv1, hv2, hv3⟩ := hv
          rw [hv1] at hrab
          rw [hv2] at hrak
          rw [hv3] at hrkb
          simp (disch := omega) only [↓RU, RV, RH, ↓reduceIte, Nat.reduceEqDiff, reduceCtorEq, if_pos, ↓RS, RG, Nat.reduceAdd, Nat.reduceMul, Nat.reduceLeDiff, tyLLbool, tyLbool, tybool, tyimpl_relation, hZe, rel0 hZl, rg_get, relR hra, relR hrk, hrab, hrak, hrkb, set_spl, set_bool, hral, relSet hZl]
          refine hK _ _ ?_
          clear hK K
          refine XBlock.norm ?_
          refine XThen.norm ?_
          refine W.region_k fun K hK => ?_
          simp (disch := omega) only [↓RU, RV, RH, ↓reduceIte, Nat.reduceEqDiff, reduceCtorEq, if_pos, w64, ↓RS, RG, Nat.reduceAdd, Nat.reduceMul, Nat.reduceLeDiff, tyint]
          refine hK _ _ ?_
          clear hK K
          refine XThen.norm ?_
          refine ⟨nr - (b + 1), by omega, _, b + 1, rfl, by omega, ?_, take_all_of (by rw [foldl_rg, hZe, clB, setB_is hra]; simp [hv1, hv2, hv3])⟩
          simp [Env.put, Env.of]
        · skip
          simp only [Prod.mk.injEq] at hv
          obtain ⟨hv1, hv2, hv3⟩ := hv
          rw [hv1] at hrab
          rw [hv2] at hrak
          rw [hv3] at hrkb
          simp (disch := omega) only [↓RU, RV, RH, ↓reduceIte, Nat.reduceEqDiff, reduceCtorEq, if_pos, ↓RS, RG, Nat.reduceAdd, Nat.reduceMul, Nat.reduceLeDiff, tyLLbool, tyLbool, tybool, tyimpl_relation, hZe, rel0 hZl, rg_get, relR hra, relR hrk, hrab, hrak, hrkb, set_spl, set_bool, hral, relSet hZl]
          refine hK _ _ ?_
          clear hK K
          refine XBlock.norm ?_
          refine XThen.norm ?_
          refine W.region_k fun K hK => ?_
          simp (disch := omega) only [↓RU, RV, RH, ↓reduceIte, Nat.reduceEqDiff, reduceCtorEq, if_pos, w64, ↓RS, RG, Nat.reduceAdd, Nat.reduceMul, Nat.reduceLeDiff, tyint]
          refine hK _ _ ?_
          clear hK K
          refine XThen.norm ?_
          refine ⟨nr - (b + 1), by omega, _, b + 1, rfl, by omega, ?_, take_all_of (by rw [foldl_rg, hZe, clB, setB_is hra]; simp [hv1, hv2, hv3])⟩
          simp [Env.put, Env.of]
        · skip
          simp only [Prod.mk.injEq] at hv
          obtain ⟨hv1, hv2, hv3⟩ := hv
          rw [hv1] at hrab
          rw [hv2] at hrak
          rw [hv3] at hrkb
          simp (disch := omega) only [↓RU, RV, RH, ↓reduceIte, Nat.reduceEqDiff, reduceCtorEq, if_pos, ↓RS, RG, Nat.reduceAdd, Nat.reduceMul, Nat.reduceLeDiff, tyLLbool, tyLbool, tybool, tyimpl_relation, hZe, rel0 hZl, rg_get, relR hra, relR hrk, hrab, hrak, hrkb, set_spl, set_bool, hral, relSet hZl]
          refine hK _ _ ?_
          clear hK K
          refine XBlock.norm ?_
          refine XThen.norm ?_
          refine W.region_k fun K hK => ?_
          simp (disch := omega) only [↓RU, RV, RH, ↓reduceIte, Nat.reduceEqDiff, reduceCtorEq, if_pos, w64, ↓RS, RG, Nat.reduceAdd, Nat.reduceMul, Nat.reduceLeDiff, tyint]
          refine hK _ _ ?_
          clear hK K
          refine XThen.norm ?_
          refine ⟨nr - (b + 1), by omega, _, b + 1, rfl, by omega, ?_, take_all_of (by rw [foldl_rg, hZe, clB, setB_is hra]; simp [hv1, hv2, hv3])⟩
          simp [Env.put, Env.of]
        · skip
          simp only [Prod.mk.injEq] at hv
          obtain ⟨hv1, hv2, hv3⟩ := hv
          rw [hv1] at hrab
          rw [hv2] at hrak
          rw [hv3] at hrkb
          simp (disch := omega) only [↓RU, RV, RH, ↓reduceIte, Nat.reduceEqDiff, reduceCtorEq, if_pos, ↓RS, RG, Nat.reduceAdd, Nat.reduceMul, Nat.reduceLeDiff, tyLLbool, tyLbool, tybool, tyimpl_relation, hZe, rel0 hZl, rg_get, relR hra, relR hrk, hrab, hrak, hrkb, set_spl, set_bool, hral, relSet hZl]
          refine hK _ _ ?_
          clear hK K
          refine XBlock.norm ?_
          refine XThen.norm ?_
          refine W.region_k fun K hK => ?_
          simp (disch := omega) only [↓RU, RV, RH, ↓reduceIte, Nat.reduceEqDiff, reduceCtorEq, if_pos, w64, ↓RS, RG, Nat.reduceAdd, Nat.reduceMul, Nat.reduceLeDiff, tyint]
          refine hK _ _ ?_
          clear hK K
          refine XThen.norm ?_
          refine ⟨nr - (b + 1), by omega, _, b + 1, rfl, by omega, ?_, take_all_of (by rw [foldl_rg, hZe, clB, setB_is hra]; simp [hv1, hv2, hv3])⟩
          simp [Env.put, Env.of]
        · skip
          simp only [Prod.mk.injEq] at hv
          obtain ⟨hv1, hv2, hv3⟩ := hv
          rw [hv1] at hrab
          rw [hv2] at hrak
          rw [hv3] at hrkb
          simp (disch := omega) only [↓RU, RV, RH, ↓reduceIte, Nat.reduceEqDiff, reduceCtorEq, if_pos, ↓RS, RG, Nat.reduceAdd, Nat.reduceMul, Nat.reduceLeDiff, tyLLbool, tyLbool, tybool, tyimpl_relation, hZe, rel0 hZl, rg_get, relR hra, relR hrk, hrab, hrak, hrkb, set_spl, set_bool, hral, relSet hZl]
          refine hK _ _ ?_
          clear hK K
          refine XBlock.norm ?_
          refine XThen.norm ?_
          refine W.region_k fun K hK => ?_
          simp (disch := omega) only [↓RU, RV, RH, ↓reduceIte, Nat.reduceEqDiff, reduceCtorEq, if_pos, w64, ↓RS, RG, Nat.reduceAdd, Nat.reduceMul, Nat.reduceLeDiff, tyint]
          refine hK _ _ ?_
          clear hK K
          refine XThen.norm ?_
          refine ⟨nr - (b + 1), by omega, _, b + 1, rfl, by omega, ?_, take_all_of (by rw [foldl_rg, hZe, clB, setB_is hra]; simp [hv1, hv2, hv3])⟩
          simp [Env.put, Env.of]
        · skip
          simp only [Prod.mk.injEq] at hv
          obtain ⟨hv1, hv2, hv3⟩ := hv
          rw [hv1] at hrab
          rw [hv2] at hrak
          rw [hv3] at hrkb
          simp (disch := omega) only [↓RU, RV, RH, ↓reduceIte, Nat.reduceEqDiff, reduceCtorEq, if_pos, ↓RS, RG, Nat.reduceAdd, Nat.reduceMul, Nat.reduceLeDiff, tyLLbool, tyLbool, tybool, tyimpl_relation, hZe, rel0 hZl, rg_get, relR hra, relR hrk, hrab, hrak, hrkb, set_spl, set_bool, hral, relSet hZl]
          refine hK _ _ ?_
          clear hK K
          refine XBlock.norm ?_
          refine XThen.norm ?_
          refine W.region_k fun K hK => ?_
          simp (disch := omega) only [↓RU, RV, RH, ↓reduceIte, Nat.reduceEqDiff, reduceCtorEq, if_pos, w64, ↓RS, RG, Nat.reduceAdd, Nat.reduceMul, Nat.reduceLeDiff, tyint]
          refine hK _ _ ?_
          clear hK K
          refine XThen.norm ?_
          refine ⟨nr - (b + 1), by omega, _, b + 1, rfl, by omega, ?_, take_all_of (by rw [foldl_rg, hZe, clB, setB_is hra]; simp [hv1, hv2, hv3])⟩
          simp [Env.put, Env.of]
      · try simp only [RL] at h2
        obtain rfl : nr = b := by omega
        refine W.exit ?_
        refine XThen.exit ?_
        refine XThen.exit ?_
        refine XBlock.hit ?_
        refine XBlock.norm ?_
        refine XThen.norm ?_
        refine W.region_k fun K hK => ?_
        simp (disch := omega) only [↓RU, RV, RH, ↓reduceIte, Nat.reduceEqDiff, reduceCtorEq, if_pos, w64, ↓RS, RG, Nat.reduceAdd, Nat.reduceMul, Nat.reduceLeDiff, tyint]
        refine hK _ _ ?_
        clear hK K
        refine XThen.norm ?_
        refine ⟨nr - (a + 1), by omega, _, a + 1, rfl, by omega, ?_, take_all_of (by rw [foldl_rg, hYe]; rfl)⟩
        simp [Env.put, Env.of]
    · try simp only [RL] at h1
      obtain rfl : nr = a := by omega
      refine W.exit ?_
      refine XThen.exit ?_
      refine XThen.exit ?_
      refine XBlock.hit ?_
      refine XBlock.norm ?_
      refine XThen.norm ?_
      refine W.region_k fun K hK => ?_
      simp (disch := omega) only [↓RU, RV, RH, ↓reduceIte, Nat.reduceEqDiff, reduceCtorEq, if_pos, w64, ↓RS, RG, Nat.reduceAdd, Nat.reduceMul, Nat.reduceLeDiff, tyint]
      refine hK _ _ ?_
      clear hK K
      refine XThen.norm ?_
      refine ⟨nr - (k + 1), by omega, _, k + 1, rfl, by omega, ?_, take_all_of (by rw [foldl_rg, hXe]; rfl)⟩
      simp [Env.put, Env.of]
  · try simp only [RL] at h
    obtain rfl : nr = k := by omega
    refine W.exit ?_
    refine XThen.exit ?_
    refine XThen.exit ?_
    refine XBlock.hit ?_
    refine BodyQ.norm rfl ?_
    refine ⟨_, rfl, take_all_of ?_⟩
    rw [closeM, hM.1]

end Fw
end Go.Proofs.YtcglmbijpjhbmaaGreat

/-! The program's orders in plain words. -/
namespace Go.Proofs.YtcglmbijpjhbmaaGreat
namespace Fw
open Go

def relB (a : Int) (bs : List Int) (M : List (List Bool)) : List (List Bool) := bs.foldl (fun M b => setB M a.toNat b.toNat true) M
def relW (M : List (List Bool)) (la bs : List Int) : List (List Bool) := la.foldl (fun M a => relB a bs M) M
def sidesOf (g : List (List Int)) (w : Wall) : List Int × List Int :=
  (ddp (alongG g w.level w.line.toNat w.fr.toNat w.long.toNat).1, ddp (alongG g w.level w.line.toNat w.fr.toNat w.long.toNat).2)
def ordW (g : List (List Int)) (M : List (List Bool) × List (List Bool)) (w : Wall) : List (List Bool) × List (List Bool) :=
  if w.level then (M.1, relW M.2 (sidesOf g w).1 (sidesOf g w).2) else (relW M.1 (sidesOf g w).1 (sidesOf g w).2, M.2)
def ordM (g : List (List Int)) (nh nw n : Nat) : List (List Bool) × List (List Bool) := (wallsG g nh nw).foldl (ordW g) (emptyM n, emptyM n)
def leftG (g : List (List Int)) (nh nw n : Nat) : List (List Bool) := closeM (ordM g nh nw n).1
def aboveG (g : List (List Int)) (nh nw n : Nat) : List (List Bool) := closeM (ordM g nh nw n).2

/-! ### Walls of the program are walls -/
def WlOk (g : List (List Int)) (nh nw : Nat) (w : Wall) : Prop :=
  ∃ line fr long : Nat, w = ⟨w.level, line, fr, long⟩ ∧ 1 ≤ long ∧ ∀ j, fr ≤ j → j < fr + long → InL nh nw w.level line j ∧ difG g w.level line j = true
theorem wlLine_ok {g : List (List Int)} {nh nw : Nat} {level : Bool} {line places : Nat} (hin : ∀ j, j < places → InL nh nw level line j) {ws : List Wall} (hws : ∀ w ∈ ws, WlOk g nh nw w) : ∀ n, n ≤ places →
    (∀ w ∈ (wlLine g level line ws n).1, WlOk g nh nw w) ∧ ((wlLine g level line ws n).2 = true → ∃ ws0, ∃ fr long : Nat, (wlLine g level line ws n).1 = ws0 ++ [⟨level, line, fr, long⟩] ∧ fr + long = n ∧ 1 ≤ long ∧ ∀ j, fr ≤ j → j < fr + long → InL nh nw level line j ∧ difG g level line j = true)
  | 0, _ => ⟨hws, by simp [wlLine]⟩
  | n + 1, hn => by
    obtain ⟨ih1, ih2⟩ := wlLine_ok hin hws n (by omega)
    rw [wlLine_succ]
    generalize wlLine g level line ws n = s at ih1 ih2
    obtain ⟨ws', op⟩ := s
    simp only at ih1 ih2
    cases hd : difG g level line n with
    | false => simp only [wlStep, Bool.false_and, Bool.false_eq_true, if_false]; exact ⟨ih1, by simp⟩
    | true =>
      cases op with
      | false =>
        simp only [wlStep, Bool.and_false, Bool.false_eq_true, if_false, if_true]
        have hnew : ∀ j, n ≤ j → j < n + 1 → InL nh nw level line j ∧ difG g level line j = true := by
          intro j h1 h2
          obtain rfl : j = n := by omega
          exact ⟨hin _ (by omega), hd⟩
        refine ⟨fun w hw => ?_, fun _ => ⟨ws', n, 1, rfl, rfl, Nat.le_refl _, hnew⟩⟩
        rcases List.mem_append.1 hw with h | h
        · exact ih1 w h
        · rw [List.mem_singleton] at h; subst h
          exact ⟨line, n, 1, rfl, Nat.le_refl _, hnew⟩
      | true =>
        obtain ⟨ws0, fr, long, e, h1, h2, h3⟩ := ih2 rfl
        subst e
        have hnew : ∀ j, fr ≤ j → j < fr + (long + 1) → InL nh nw level line j ∧ difG g level line j = true := by
          intro j a b
          by_cases hj : j = n
          · subst hj; exact ⟨hin _ (by omega), hd⟩
          · exact h3 j a (by omega)
        simp only [wlStep, Bool.and_self, if_true, List.dropLast_concat, List.getLast?_concat, Option.map_some, Option.toList_some]
        refine ⟨fun w hw => ?_, fun _ => ⟨ws0, fr, long + 1, rfl, by omega, by omega, hnew⟩⟩
        rcases List.mem_append.1 hw with h | h
        · exact ih1 w (List.mem_append_left _ h)
        · rw [List.mem_singleton] at h; subst h
          exact ⟨line, fr, long + 1, rfl, by omega, hnew⟩
theorem wlLevel_ok {g : List (List Int)} {nh nw : Nat} {level : Bool} {lines places : Nat} (hin : ∀ l j, 1 ≤ l → l < lines → j < places → InL nh nw level l j) {ws : List Wall} (hws : ∀ w ∈ ws, WlOk g nh nw w) : ∀ line, line ≤ lines →
    ∀ w ∈ wlLevel g level places ws line, WlOk g nh nw w
  | 0, _ => by simpa [wlLevel] using hws
  | line + 1, hl => by
    have ih := wlLevel_ok hin hws line (by omega)
    by_cases h : 1 ≤ line
    · rw [wlLevel_succ h]
      exact (wlLine_ok (fun j hj => hin line j h (by omega) hj) ih places (Nat.le_refl _)).1
    · have : line = 0 := by omega
      subst this
      simpa [wlLevel] using hws
theorem wallsG_ok {g : List (List Int)} {nh nw : Nat} : ∀ w ∈ wallsG g nh nw, WlOk g nh nw w :=
  wlLevel_ok (lines := nh) (fun l j h1 h2 h3 => ⟨h1, by simp; omega⟩) (wlLevel_ok (lines := nw) (fun l j h1 h2 h3 => ⟨h1, by simp; omega⟩) (by simp) nw (Nat.le_refl _)) nh (Nat.le_refl _)

/-- All cells are numbers of rooms. -/
def RmOk (g : List (List Int)) (nh nw n : Nat) : Prop := ∀ i j, i < nh → j < nw → 0 ≤ gz g i j ∧ gz g i j < n
theorem sides_rooms {g : List (List Int)} {nh nw n : Nat} (h : RmOk g nh nw n) {level : Bool} {line j : Nat} (hi : InL nh nw level line j) :
    0 ≤ (sidesG g level line j).1 ∧ (sidesG g level line j).1 < n ∧ 0 ≤ (sidesG g level line j).2 ∧ (sidesG g level line j).2 < n := by
  obtain ⟨h1, h2⟩ := hi
  cases level with
  | true => simp only [if_true] at h2; have a := h (line - 1) j (by omega) h2.2; have b := h line j h2.1 h2.2; simp only [sidesG, if_true]; omega
  | false => simp only [Bool.false_eq_true, if_false] at h2; have a := h j (line - 1) h2.2 (by omega); have b := h j line h2.2 h2.1; simp only [sidesG, Bool.false_eq_true, if_false]; omega
theorem ddp_mem {l : List Int} {x : Int} (h : x ∈ ddp l) : x ∈ l := by
  unfold ddp at h
  have : ∀ (l m : List Int), x ∈ l.foldl putL m → x ∈ m ∨ x ∈ l := by
    intro l
    induction l with
    | nil => intro m h; exact .inl h
    | cons a l ih =>
      intro m h
      rcases ih _ h with h | h
      · rcases putL_mem h with h | h
        · exact .inl h
        · exact .inr (by simp [h])
      · exact .inr (by simp [h])
  rcases this l [] h with h | h
  · simp at h
  · exact h
theorem sidesOf_rooms {g : List (List Int)} {nh nw n : Nat} (h : RmOk g nh nw n) {w : Wall} (hw : WlOk g nh nw w) : (∀ x ∈ (sidesOf g w).1, 0 ≤ x ∧ x < n) ∧ (∀ x ∈ (sidesOf g w).2, 0 ≤ x ∧ x < n) := by
  obtain ⟨line, fr, long, e, h1, h2⟩ := hw
  have e1 : w.line.toNat = line := by rw [e]; simp
  have e2 : w.fr.toNat = fr := by rw [e]; simp
  have e3 : w.long.toNat = long := by rw [e]; simp
  simp only [sidesOf, e1, e2, e3]
  refine ⟨fun x hx => ?_, fun x hx => ?_⟩
  · have := ddp_mem hx
    simp only [alongG, List.mem_map, List.mem_range] at this
    obtain ⟨j, hj, rfl⟩ := this
    have := sides_rooms h (h2 (fr + j) (by omega) (by omega)).1
    omega
  · have := ddp_mem hx
    simp only [alongG, List.mem_map, List.mem_range] at this
    obtain ⟨j, hj, rfl⟩ := this
    have := sides_rooms h (h2 (fr + j) (by omega) (by omega)).1
    omega
theorem sidesOf_len {g : List (List Int)} {nh nw : Nat} (hg : GW g nh nw) {w : Wall} (hw : WlOk g nh nw w) : (sidesOf g w).1.length ≤ 6 ∧ (sidesOf g w).2.length ≤ 6 := by
  obtain ⟨line, fr, long, e, h1, h2⟩ := hw
  have hgg := hg.2.2
  have hb : fr + long ≤ 6 := by
    have h := (h2 (fr + long - 1) (by omega) (by omega)).1.2
    cases hl : w.level <;> rw [hl] at h <;> simp at h <;> omega
  have e3 : w.long.toNat = long := by rw [e]; simp
  have h3 := alongG_len (g := g) (level := w.level) (line := w.line.toNat) (fr := w.fr.toNat) (n := long)
  simp only [sidesOf, e3]
  exact ⟨Nat.le_trans (ddp_len _) (by omega), Nat.le_trans (ddp_len _) (by omega)⟩
theorem Sq.relB {n : Nat} {a : Int} (ha : a.toNat < n) : ∀ {bs : List Int} {M : List (List Bool)}, Sq n M → Sq n (relB a bs M)
  | [], M, h => h
  | b :: bs, M, h => by
    show Sq n (Fw.relB a bs (setB M a.toNat b.toNat true))
    exact Sq.relB ha (h.set ha)
theorem Sq.relW {n : Nat} {bs : List Int} : ∀ {la : List Int} {M : List (List Bool)}, (∀ a ∈ la, a.toNat < n) → Sq n M → Sq n (relW M la bs)
  | [], M, _, h => h
  | a :: la, M, ha, h => by
    show Sq n (Fw.relW (Fw.relB a bs M) la bs)
    exact Sq.relW (fun x hx => ha x (by simp [hx])) (h.relB (ha a (by simp)))
theorem ordW_sq {g : List (List Int)} {nh nw n : Nat} (h : RmOk g nh nw n) {w : Wall} (hw : WlOk g nh nw w) {M : List (List Bool) × List (List Bool)} (h1 : Sq n M.1) (h2 : Sq n M.2) : Sq n (ordW g M w).1 ∧ Sq n (ordW g M w).2 := by
  have hs := (sidesOf_rooms h hw).1
  unfold ordW
  split
  · exact ⟨h1, h2.relW fun a ha => by have := hs a ha; omega⟩
  · exact ⟨h1.relW fun a ha => by have := hs a ha; omega, h2⟩
theorem ordTo_sq {g : List (List Int)} {nh nw n : Nat} (h : RmOk g nh nw n) : ∀ {ws : List Wall}, (∀ w ∈ ws, WlOk g nh nw w) → ∀ {M : List (List Bool) × List (List Bool)}, Sq n M.1 → Sq n M.2 → Sq n (ws.foldl (ordW g) M).1 ∧ Sq n (ws.foldl (ordW g) M).2
  | [], _, M, h1, h2 => ⟨h1, h2⟩
  | w :: ws, hw, M, h1, h2 => by
    obtain ⟨k1, k2⟩ := ordW_sq h (hw w (by simp)) h1 h2
    exact ordTo_sq h (ws := ws) (fun x hx => hw x (by simp [hx])) k1 k2

/-! ### Two relations in the store, in whatever order they were made -/
theorem rel0' {F R : List Ob} {k t : Nat} {M : List (List Bool)} {n : Nat} (hk : F.length = k) (h : M.length = n) : (F ++ (relObs k t M ++ R))[k]? = some (.arr t 103 1 ((List.range n).map fun i => .loc (k + 1 + i) t 0 n)) := by subst hk; exact rel0 h
theorem relR' {F R : List Ob} {k t a : Nat} {M : List (List Bool)} {row : List Bool} (hk : F.length = k) (h : M[a]? = some row) : (F ++ (relObs k t M ++ R))[k + 1 + a]? = some (.arr t 4 1 (row.map .bool)) := by subst hk; exact relR h
theorem relSet' {F R : List Ob} {k t a : Nat} {M : List (List Bool)} {row : List Bool} {n : Nat} (hk : F.length = k) (hn : M.length = n) (h : a < n) : (F ++ (relObs k t M ++ R)).set (k + 1 + a) (.arr t 4 1 (row.map .bool)) = F ++ (relObs k t (M.set a row) ++ R) := by subst hk; exact relSet hn h

structure Lay (n : Nat) where
  f : Ob → Ob → List Ob → List (List Bool) → List (List Bool) → List Ob
  pL : Nat
  vL : Nat
  pA : Nat
  vA : Nat
  p3 : Nat
  v3 : Nat
  appR : ∀ {o2 : Ob} {o3 : Ob} {R : List Ob} {L : List (List Bool)} {A : List (List Bool)}, f o2 o3 R L A = f o2 o3 [] L A ++ R
  len0 : ∀ {o2 : Ob} {o3 : Ob} {L : List (List Bool)} {A : List (List Bool)}, L.length = n → A.length = n → (f o2 o3 [] L A).length = 2 * n + 4
  get0 : ∀ {o2 : Ob} {o3 : Ob} {R : List Ob} {L : List (List Bool)} {A : List (List Bool)}, (f o2 o3 R L A)[0]? = some o2
  set0 : ∀ {o2 : Ob} {o3 : Ob} {R : List Ob} {L : List (List Bool)} {A : List (List Bool)} {o : Ob}, (f o2 o3 R L A).set 0 o = f o o3 R L A
  get3 : ∀ {o2 : Ob} {o3 : Ob} {R : List Ob} {L : List (List Bool)} {A : List (List Bool)}, L.length = n → A.length = n → (f o2 o3 R L A)[p3]? = some o3
  getL : ∀ {o2 : Ob} {o3 : Ob} {R : List Ob} {L : List (List Bool)} {A : List (List Bool)}, L.length = n → (f o2 o3 R L A)[pL]? = some (.arr vL 103 1 ((List.range n).map fun i => .loc (pL + 1 + i) vL 0 n))
  getLr : ∀ {o2 : Ob} {o3 : Ob} {R : List Ob} {L : List (List Bool)} {A : List (List Bool)} {a : Nat} {row : List Bool}, L[a]? = some row → (f o2 o3 R L A)[pL + 1 + a]? = some (.arr vL 4 1 (row.map .bool))
  setL : ∀ {o2 : Ob} {o3 : Ob} {R : List Ob} {L : List (List Bool)} {A : List (List Bool)} {a : Nat} {row : List Bool}, L.length = n → a < n → (f o2 o3 R L A).set (pL + 1 + a) (.arr vL 4 1 (row.map .bool)) = f o2 o3 R (L.set a row) A
  getA : ∀ {o2 : Ob} {o3 : Ob} {R : List Ob} {L : List (List Bool)} {A : List (List Bool)}, L.length = n → A.length = n → (f o2 o3 R L A)[pA]? = some (.arr vA 103 1 ((List.range n).map fun i => .loc (pA + 1 + i) vA 0 n))
  getAr : ∀ {o2 : Ob} {o3 : Ob} {R : List Ob} {L : List (List Bool)} {A : List (List Bool)} {a : Nat} {row : List Bool}, L.length = n → A[a]? = some row → (f o2 o3 R L A)[pA + 1 + a]? = some (.arr vA 4 1 (row.map .bool))
  setA : ∀ {o2 : Ob} {o3 : Ob} {R : List Ob} {L : List (List Bool)} {A : List (List Bool)} {a : Nat} {row : List Bool}, L.length = n → A.length = n → a < n → (f o2 o3 R L A).set (pA + 1 + a) (.arr vA 4 1 (row.map .bool)) = f o2 o3 R L (A.set a row)
  splL : ∀ {o2 : Ob} {o3 : Ob} {R : List Ob} {L : List (List Bool)} {A : List (List Bool)}, ∃ F R', pL = F.length ∧ ∀ L' : List (List Bool), L'.length = L.length → f o2 o3 R L' A = F ++ (relObs F.length vL L' ++ R')
  splA : ∀ {o2 : Ob} {o3 : Ob} {R : List Ob} {L : List (List Bool)} {A : List (List Bool)}, L.length = n → ∃ F R', pA = F.length ∧ ∀ A' : List (List Bool), A'.length = A.length → f o2 o3 R L A' = F ++ (relObs F.length vA A' ++ R')
section
variable {n : Nat} (Y : Lay n) {o2 o3 : Ob} {R : List Ob} {a t : Nat} {L A : List (List Bool)} {w w' : Ob}
theorem Lay.app : Y.f o2 o3 R L A ++ [w] = Y.f o2 o3 (R ++ [w]) L A := by rw [Y.appR, Y.appR (R := R ++ [w])]; simp
theorem Lay.len (hl : L.length = n) (h : A.length = n) : (Y.f o2 o3 R L A).length = 2 * n + 4 + R.length := by rw [Y.appR, List.length_append, Y.len0 hl h]
theorem Lay.get4 (hl : L.length = n) (h : A.length = n) : (Y.f o2 o3 (w :: R) L A)[2 * n + 4]? = some w := by
  rw [Y.appR, List.getElem?_append_right (by rw [Y.len0 hl h]; exact Nat.le_refl _), Y.len0 hl h]; simp
theorem Lay.set4 (hl : L.length = n) (h : A.length = n) : (Y.f o2 o3 (w :: R) L A).set (2 * n + 4) w' = Y.f o2 o3 (w' :: R) L A := by
  rw [Y.appR, List.set_append_right _ _ (by rw [Y.len0 hl h]; exact Nat.le_refl _), Y.len0 hl h, Y.appR (R := w' :: R)]; simp
theorem Lay.take (hl : L.length = n) (h : A.length = n) : Store.take ⟨Y.f o2 o3 R L A, t⟩ (2 * n + 4) = ⟨Y.f o2 o3 [] L A, t⟩ := by
  simp only [Store.take]
  rw [Y.appR, List.take_append_of_le_length (by rw [Y.len0 hl h]; exact Nat.le_refl _), List.take_of_length_le (by rw [Y.len0 hl h]; exact Nat.le_refl _)]
end
/-- The variable was made behind both. -/
def lay3 (n : Nat) : Lay n where
  f o2 o3 R L A := [o2] ++ (relObs 1 1 L ++ (relObs (n + 2) 2 A ++ o3 :: R))
  pL := 1
  vL := 1
  pA := n + 2
  vA := 2
  p3 := 2 * n + 3
  v3 := 3
  appR := by intros; simp
  len0 := by intros o2 o3 L A h1 h2; simp [relObs_len]; omega
  get0 := rfl
  set0 := rfl
  get3 := by
    intros o2 o3 R L A h1 h2
    rw [List.getElem?_append_right (by simp), List.getElem?_append_right (by simp [relObs_len]; omega), List.getElem?_append_right (by simp [relObs_len]; omega)]
    rw [relObs_len, relObs_len, show 2 * n + 3 - [o2].length - (L.length + 1) - (A.length + 1) = 0 by simp; omega]; rfl
  getL := fun h => rel0' rfl h
  getLr := fun h => relR' rfl h
  setL := fun h1 h2 => relSet' rfl h1 h2
  getA := by intros o2 o3 R L A h1 h2; rw [← List.append_assoc]; exact rel0' (by simp [relObs_len]; omega) h2
  getAr := by intros o2 o3 R L A a row h1 h2; rw [← List.append_assoc]; exact relR' (by simp [relObs_len]; omega) h2
  setA := by intros o2 o3 R L A a row h1 h2 h3; rw [← List.append_assoc, relSet' (by simp [relObs_len]; omega) h2 h3, List.append_assoc]
  splL := by intros o2 o3 R L A; exact ⟨[o2], _, rfl, fun _ _ => rfl⟩
  splA := by intros o2 o3 R L A h; exact ⟨[o2] ++ relObs 1 1 L, o3 :: R, by simp [relObs_len]; omega, fun A' _ => by rw [show ([o2] ++ relObs 1 1 L).length = n + 2 by simp [relObs_len]; omega, List.append_assoc]⟩
/-- The variable was made between both. -/
def lay2 (n : Nat) : Lay n where
  f o2 o3 R L A := [o2] ++ (relObs 1 1 L ++ (o3 :: (relObs (n + 3) 3 A ++ R)))
  pL := 1
  vL := 1
  pA := n + 3
  vA := 3
  p3 := n + 2
  v3 := 2
  appR := by intros; simp
  len0 := by intros o2 o3 L A h1 h2; simp [relObs_len]; omega
  get0 := rfl
  set0 := rfl
  get3 := by
    intros o2 o3 R L A h1 h2
    rw [List.getElem?_append_right (by simp), List.getElem?_append_right (by simp [relObs_len]; omega)]
    rw [relObs_len, show n + 2 - [o2].length - (L.length + 1) = 0 by simp; omega]; rfl
  getL := fun h => rel0' rfl h
  getLr := fun h => relR' rfl h
  setL := fun h1 h2 => relSet' rfl h1 h2
  getA := by intros o2 o3 R L A h1 h2; rw [show [o2] ++ (relObs 1 1 L ++ (o3 :: (relObs (n + 3) 3 A ++ R))) = ([o2] ++ relObs 1 1 L ++ [o3]) ++ (relObs (n + 3) 3 A ++ R) by simp]; exact rel0' (by simp [relObs_len]; omega) h2
  getAr := by intros o2 o3 R L A a row h1 h2; rw [show [o2] ++ (relObs 1 1 L ++ (o3 :: (relObs (n + 3) 3 A ++ R))) = ([o2] ++ relObs 1 1 L ++ [o3]) ++ (relObs (n + 3) 3 A ++ R) by simp]; exact relR' (by simp [relObs_len]; omega) h2
  setA := by intros o2 o3 R L A a row h1 h2 h3; rw [show [o2] ++ (relObs 1 1 L ++ (o3 :: (relObs (n + 3) 3 A ++ R))) = ([o2] ++ relObs 1 1 L ++ [o3]) ++ (relObs (n + 3) 3 A ++ R) by simp, relSet' (by simp [relObs_len]; omega) h2 h3]; simp
  splL := by intros o2 o3 R L A; exact ⟨[o2], _, rfl, fun _ _ => rfl⟩
  splA := by intros o2 o3 R L A h; exact ⟨[o2] ++ relObs 1 1 L ++ [o3], R, by simp [relObs_len]; omega, fun A' _ => by rw [show ([o2] ++ relObs 1 1 L ++ [o3]).length = n + 3 by simp [relObs_len]; omega]; simp⟩
/-- The variable was made ahead of both. -/
def lay1 (n : Nat) : Lay n where
  f o2 o3 R L A := [o2, o3] ++ (relObs 2 2 L ++ (relObs (n + 3) 3 A ++ R))
  pL := 2
  vL := 2
  pA := n + 3
  vA := 3
  p3 := 1
  v3 := 1
  appR := by intros; simp
  len0 := by intros o2 o3 L A h1 h2; simp [relObs_len]; omega
  get0 := rfl
  set0 := rfl
  get3 := fun _ _ => rfl
  getL := fun h => rel0' rfl h
  getLr := fun h => relR' rfl h
  setL := fun h1 h2 => relSet' rfl h1 h2
  getA := by intros o2 o3 R L A h1 h2; rw [← List.append_assoc]; exact rel0' (by simp [relObs_len]; omega) h2
  getAr := by intros o2 o3 R L A a row h1 h2; rw [← List.append_assoc]; exact relR' (by simp [relObs_len]; omega) h2
  setA := by intros o2 o3 R L A a row h1 h2 h3; rw [← List.append_assoc, relSet' (by simp [relObs_len]; omega) h2 h3, List.append_assoc]
  splL := by intros o2 o3 R L A; exact ⟨[o2, o3], _, rfl, fun _ _ => rfl⟩
  splA := by intros o2 o3 R L A h; exact ⟨[o2, o3] ++ relObs 2 2 L, R, by simp [relObs_len]; omega, fun A' _ => by rw [show ([o2, o3] ++ relObs 2 2 L).length = n + 3 by simp [relObs_len]; omega, List.append_assoc]⟩
def selM (lv : Bool) (M : List (List Bool) × List (List Bool)) (X : List (List Bool)) : List (List Bool) × List (List Bool) := if lv then (M.1, X) else (X, M.2)
def baseM (lv : Bool) (M : List (List Bool) × List (List Bool)) : List (List Bool) := if lv then M.2 else M.1
theorem selM_base {lv : Bool} {M : List (List Bool) × List (List Bool)} : selM lv M (baseM lv M) = M := by cases lv <;> rfl
theorem baseM_sq {n : Nat} {lv : Bool} {M : List (List Bool) × List (List Bool)} (h1 : Sq n M.1) (h2 : Sq n M.2) : Sq n (baseM lv M) := by cases lv <;> simp [baseM, h1, h2]
theorem ordW_sel {g : List (List Int)} {M : List (List Bool) × List (List Bool)} {w : Wall} : ordW g M w = selM w.level M (relW (baseM w.level M) (sidesOf g w).1 (sidesOf g w).2) := by
  unfold ordW selM baseM; cases w.level <;> rfl
theorem relW_tk {M : List (List Bool)} {la bs : List Int} {x : Nat} {a : Int} (h : la[x]? = some a) : relW M (la.take (x + 1)) bs = relB a bs (relW M (la.take x) bs) := foldl_tk h
theorem relB_tk {M : List (List Bool)} {bs : List Int} {y : Nat} {a b : Int} (h : bs[y]? = some b) : relB a (bs.take (y + 1)) M = setB (relB a (bs.take y) M) a.toNat b.toNat true := foldl_tk h
theorem reify_agg2 {S : Store} {im : Bool} {k : Nat} {a b a2 b2 : PV} (h1 : reify S im k a = some a2) (h2 : reify S im k b = some b2) : reify S im (k + 1) (.agg [a, b]) = some (.agg [a2, b2]) := by
  simp [reify, h1, h2]
theorem gMid1 {nr : Nat} {x : Ob} {B : List Ob} : (relObs 1 1 (emptyM nr) ++ [x] ++ B)[nr + 1]? = some x := by
  have : (relObs 1 1 (emptyM nr)).length = nr + 1 := by simp [relObs_len, emptyM]
  rw [List.append_assoc, List.getElem?_append_right (by omega), this]; simp
theorem sMid1 {nr : Nat} {x y : Ob} {B : List Ob} : (relObs 1 1 (emptyM nr) ++ [x] ++ B).set (nr + 1) y = relObs 1 1 (emptyM nr) ++ [y] ++ B := by
  have : (relObs 1 1 (emptyM nr)).length = nr + 1 := by simp [relObs_len, emptyM]
  rw [List.append_assoc, List.set_append_right _ _ (by omega), this]; simp
theorem eRunM_f {P : Program} {T : Tab} {e : Env} {S : Store} {ds pd : List (Option Tmp)} {t d : Nat} {o : Oper} {r l2 : List Oper} {K : Env → Store → Prop} (hp : pd.contains o.dst = false) (h : isFlatE o.op = true)
    (k : eRun false P T ds [o] e S fun e S => eRunM P T ds pd t d l2 r e S K) : eRunM P T ds pd t d l2 (o :: r) e S K := (eRunM_flat hp h).symm ▸ k
theorem gEnd {l : List Ob} {a : Ob} : (l ++ [a])[l.length]? = some a := by simp
theorem setEnd {l : List Ob} {a b : Ob} : (l ++ [a]).set l.length b = l ++ [b] := by simp
theorem emptyM_len {n : Nat} : (emptyM n).length = n := by simp [emptyM]

end Fw
end Go.Proofs.YtcglmbijpjhbmaaGreat

/-! Orders of the program, gone through. -/
namespace Go.Proofs.YtcglmbijpjhbmaaGreat
namespace Fw
open Go

theorem closeL_ev {nr tk : Nat} (Y : Lay nr) {o2 o3 : Ob} {R : List Ob} {L A : List (List Bool)} (hL : Sq nr L) (hn : nr ≤ 9) :
    Ev Tryz.prog 107 [.loc Y.pL Y.vL 0 nr] ⟨Y.f o2 o3 R L A, tk⟩ fun v S => v = .tup [] ∧ S = ⟨Y.f o2 o3 R (closeM L) A, tk⟩ := by
  obtain ⟨F, R', hp, hF⟩ := Y.splL (o2 := o2) (o3 := o3) (R := R) (L := L) (A := A)
  rw [hp, hF L rfl, hF (closeM L) (by rw [hL.1, hL.close.1])]
  exact close_ev hL hn
theorem closeA_ev {nr tk : Nat} (Y : Lay nr) {o2 o3 : Ob} {R : List Ob} {L A : List (List Bool)} (hL : L.length = nr) (hA : Sq nr A) (hn : nr ≤ 9) :
    Ev Tryz.prog 107 [.loc Y.pA Y.vA 0 nr] ⟨Y.f o2 o3 R L A, tk⟩ fun v S => v = .tup [] ∧ S = ⟨Y.f o2 o3 R L (closeM A), tk⟩ := by
  obtain ⟨F, R', hp, hF⟩ := Y.splA (o2 := o2) (o3 := o3) (R := R) (L := L) (A := A) hL
  rw [hp, hF A rfl, hF (closeM A) (by rw [hA.1, hA.close.1])]
  exact close_ev hA hn

theorem orders_pc {g : List (List Int)} {nh nw nr : Nat} (hg : GW g nh nw) {rs : List Rect} (hr : rs.length = nr) (hn : nr ≤ 9) (hrm : RmOk g nh nw nr) : PC Tryz.prog 66 [eFloor g rs] (.agg [eRel (leftG g nh nw nr), eRel (aboveG g nh nw nr)]) true := by
  have hwsl := wsI_len (g := g) (nh := nh) (nw := nw) (i := 2) hg.2.2.2.1 hg.2.2.2.2.2
  rw [show wsI g nh nw 2 = wallsG g nh nw from rfl] at hwsl
  refine PC.of ⟨Tryz.func66, by kernel_rfl, rfl, by kernel_rfl⟩ tabOk mixed (by show 1 ≤ Tryz.f66.ntmps; decide) ?_
  refine W.seq_region fun K hK => ?_
  simp (disch := omega) only [↓RU, RV, RH, ↓reduceIte, Nat.reduceEqDiff, reduceCtorEq, if_pos, ↓RS, RG, Nat.reduceAdd, Nat.reduceMul, Nat.reduceLeDiff, tyLLbool, tyLbool, tybool, tyimpl_orders, tyimpl_relation, tystruct_left_impl_relation_above_impl_relation_]
  refine hK _ _ ?_
  clear hK K
  refine W.join [0, 2, 3] (fun vs S => ∃ (Y : Lay nr) (tk : Nat), vs = [eFloor g rs, .ref 0 0 0, .ref Y.p3 Y.v3 0] ∧ S = ⟨Y.f (.arr 0 61 2 [.nils, .nils]) (.arr Y.v3 61 2 [.loc Y.pL Y.vL 0 nr, .loc Y.pA Y.vA 0 nr]) [] (emptyM nr) (emptyM nr), tk⟩) ?_ ?_
  ·
    refine W.region_mk (r1 := [_, _, _, _, _, _, _, _, _, _, _, _, _]) (r2 := [_]) 13 61 3 [0, 1, 2, 3, 4, 6, 7, 8, 9, 10, 5, 11, 12] [14] [7, 8, 9, 10] [some 20, some 21, some 22, some 23] (by kernel_rfl) (by kernel_rfl) (by kernel_rfl) rfl rfl fun K hK => ?_
    refine eRunM_f rfl rfl ?_
    simp (disch := omega) only [↓RU, RV, RH, ↓reduceIte, Nat.reduceEqDiff, reduceCtorEq, if_pos, List.append_nil, ↓RS, RG, Nat.reduceAdd, Nat.reduceMul, Nat.reduceLeDiff, tyLLbool, tyLLint, tyLbool, tyLimpl_rect, tyLint, tybool, tyimpl_floor, tyimpl_grid, tyimpl_orders, tyimpl_rect, tyimpl_relation, tyint, tystruct_cells_impl_grid_rooms_Limpl_rect_, tystruct_left_impl_relation_above_impl_relation_, tystruct_row_int_col_int_high_int_wide_int_, hr, up_rel, relObs_len, emptyM_len, gEnd, setEnd, gMid1, sMid1]
    refine eRunM_f rfl rfl ?_
    simp (disch := omega) only [↓RU, RV, RH, ↓reduceIte, Nat.reduceEqDiff, reduceCtorEq, if_pos, List.append_nil, ↓RS, RG, Nat.reduceAdd, Nat.reduceMul, Nat.reduceLeDiff, tyLLbool, tyLLint, tyLbool, tyLimpl_rect, tyLint, tybool, tyimpl_floor, tyimpl_grid, tyimpl_orders, tyimpl_rect, tyimpl_relation, tyint, tystruct_cells_impl_grid_rooms_Limpl_rect_, tystruct_left_impl_relation_above_impl_relation_, tystruct_row_int_col_int_high_int_wide_int_, hr, up_rel, relObs_len, emptyM_len, gEnd, setEnd, gMid1, sMid1]
    refine eRunM_f rfl rfl ?_
    simp (disch := omega) only [↓RU, RV, RH, ↓reduceIte, Nat.reduceEqDiff, reduceCtorEq, if_pos, List.append_nil, ↓RS, RG, Nat.reduceAdd, Nat.reduceMul, Nat.reduceLeDiff, tyLLbool, tyLLint, tyLbool, tyLimpl_rect, tyLint, tybool, tyimpl_floor, tyimpl_grid, tyimpl_orders, tyimpl_rect, tyimpl_relation, tyint, tystruct_cells_impl_grid_rooms_Limpl_rect_, tystruct_left_impl_relation_above_impl_relation_, tystruct_row_int_col_int_high_int_wide_int_, hr, up_rel, relObs_len, emptyM_len, gEnd, setEnd, gMid1, sMid1]
    refine eRunM_f rfl rfl ?_
    simp (disch := omega) only [↓RU, RV, RH, ↓reduceIte, Nat.reduceEqDiff, reduceCtorEq, if_pos, List.append_nil, ↓RS, RG, Nat.reduceAdd, Nat.reduceMul, Nat.reduceLeDiff, tyLLbool, tyLLint, tyLbool, tyLimpl_rect, tyLint, tybool, tyimpl_floor, tyimpl_grid, tyimpl_orders, tyimpl_rect, tyimpl_relation, tyint, tystruct_cells_impl_grid_rooms_Limpl_rect_, tystruct_left_impl_relation_above_impl_relation_, tystruct_row_int_col_int_high_int_wide_int_, hr, up_rel, relObs_len, emptyM_len, gEnd, setEnd, gMid1, sMid1]
    refine eRunM_f rfl rfl ?_
    simp (disch := omega) only [↓RU, RV, RH, ↓reduceIte, Nat.reduceEqDiff, reduceCtorEq, if_pos, List.append_nil, ↓RS, RG, Nat.reduceAdd, Nat.reduceMul, Nat.reduceLeDiff, tyLLbool, tyLLint, tyLbool, tyLimpl_rect, tyLint, tybool, tyimpl_floor, tyimpl_grid, tyimpl_orders, tyimpl_rect, tyimpl_relation, tyint, tystruct_cells_impl_grid_rooms_Limpl_rect_, tystruct_left_impl_relation_above_impl_relation_, tystruct_row_int_col_int_high_int_wide_int_, hr, up_rel, relObs_len, emptyM_len, gEnd, setEnd, gMid1, sMid1]
    refine eRunM_f rfl rfl ?_
    simp (disch := omega) only [↓RU, RV, RH, ↓reduceIte, Nat.reduceEqDiff, reduceCtorEq, if_pos, List.append_nil, ↓RS, RG, Nat.reduceAdd, Nat.reduceMul, Nat.reduceLeDiff, tyLLbool, tyLLint, tyLbool, tyLimpl_rect, tyLint, tybool, tyimpl_floor, tyimpl_grid, tyimpl_orders, tyimpl_rect, tyimpl_relation, tyint, tystruct_cells_impl_grid_rooms_Limpl_rect_, tystruct_left_impl_relation_above_impl_relation_, tystruct_row_int_col_int_high_int_wide_int_, hr, up_rel, relObs_len, emptyM_len, gEnd, setEnd, gMid1, sMid1]
    refine eRunM_pend rfl rfl rfl (fun S' => rfl) ?_
    refine eRunM_pend rfl rfl rfl (fun S' => rfl) ?_
    refine eRunM_pend rfl rfl rfl (fun S' => rfl) ?_
    refine eRunM_pend rfl rfl rfl (fun S' => rfl) ?_
    refine eRunM_eff rfl (by decide) ?_ ?_
    · simp (disch := omega) only [↓RU, RV, RH, ↓reduceIte, Nat.reduceEqDiff, reduceCtorEq, if_pos, List.append_nil, ↓RS, RG, Nat.reduceAdd, Nat.reduceMul, Nat.reduceLeDiff, tyLLbool, tyLLint, tyLbool, tyLimpl_rect, tyLint, tybool, tyimpl_floor, tyimpl_grid, tyimpl_orders, tyimpl_rect, tyimpl_relation, tyint, tystruct_cells_impl_grid_rooms_Limpl_rect_, tystruct_left_impl_relation_above_impl_relation_, tystruct_row_int_col_int_high_int_wide_int_, hr, up_rel, relObs_len, emptyM_len, gEnd, setEnd, gMid1, sMid1]
      refine CallR.pn (emptyRel_pn hn) rfl (.inl rfl) ?_
      simp (disch := omega) only [↓RU, RV, RH, ↓reduceIte, Nat.reduceEqDiff, reduceCtorEq, if_pos, List.append_nil, ↓RS, RG, Nat.reduceAdd, Nat.reduceMul, Nat.reduceLeDiff, tyLLbool, tyLLint, tyLbool, tyLimpl_rect, tyLint, tybool, tyimpl_floor, tyimpl_grid, tyimpl_orders, tyimpl_rect, tyimpl_relation, tyint, tystruct_cells_impl_grid_rooms_Limpl_rect_, tystruct_left_impl_relation_above_impl_relation_, tystruct_row_int_col_int_high_int_wide_int_, hr, up_rel, relObs_len, emptyM_len, gEnd, setEnd, gMid1, sMid1, RN]
      refine CallR.pn (emptyRel_pn hn) rfl (.inl rfl) ?_
      simp (disch := omega) only [↓RU, RV, RH, ↓reduceIte, Nat.reduceEqDiff, reduceCtorEq, if_pos, List.append_nil, ↓RS, RG, Nat.reduceAdd, Nat.reduceMul, Nat.reduceLeDiff, tyLLbool, tyLLint, tyLbool, tyLimpl_rect, tyLint, tybool, tyimpl_floor, tyimpl_grid, tyimpl_orders, tyimpl_rect, tyimpl_relation, tyint, tystruct_cells_impl_grid_rooms_Limpl_rect_, tystruct_left_impl_relation_above_impl_relation_, tystruct_row_int_col_int_high_int_wide_int_, hr, up_rel, relObs_len, emptyM_len, gEnd, setEnd, gMid1, sMid1, RN]
      refine hK _ _ ?_
      clear hK K
      refine XThen.norm ?_
      refine ⟨_, lay1 nr, 4, ?_, take_all_of ?_⟩
      · simp [Env.put, Env.of, argEnv, lay1, relObs_len, emptyM_len]; try omega
      · simp [lay1, relObs_len, emptyM_len]
    · simp (disch := omega) only [↓RU, RV, RH, ↓reduceIte, Nat.reduceEqDiff, reduceCtorEq, if_pos, List.append_nil, ↓RS, RG, Nat.reduceAdd, Nat.reduceMul, Nat.reduceLeDiff, tyLLbool, tyLLint, tyLbool, tyLimpl_rect, tyLint, tybool, tyimpl_floor, tyimpl_grid, tyimpl_orders, tyimpl_rect, tyimpl_relation, tyint, tystruct_cells_impl_grid_rooms_Limpl_rect_, tystruct_left_impl_relation_above_impl_relation_, tystruct_row_int_col_int_high_int_wide_int_, hr, up_rel, relObs_len, emptyM_len, gEnd, setEnd, gMid1, sMid1]
      refine CallR.pn (emptyRel_pn hn) rfl (.inl rfl) ?_
      simp (disch := omega) only [↓RU, RV, RH, ↓reduceIte, Nat.reduceEqDiff, reduceCtorEq, if_pos, List.append_nil, ↓RS, RG, Nat.reduceAdd, Nat.reduceMul, Nat.reduceLeDiff, tyLLbool, tyLLint, tyLbool, tyLimpl_rect, tyLint, tybool, tyimpl_floor, tyimpl_grid, tyimpl_orders, tyimpl_rect, tyimpl_relation, tyint, tystruct_cells_impl_grid_rooms_Limpl_rect_, tystruct_left_impl_relation_above_impl_relation_, tystruct_row_int_col_int_high_int_wide_int_, hr, up_rel, relObs_len, emptyM_len, gEnd, setEnd, gMid1, sMid1, RN]
      refine eRunM_eff rfl (by decide) ?_ ?_
      · simp (disch := omega) only [↓RU, RV, RH, ↓reduceIte, Nat.reduceEqDiff, reduceCtorEq, if_pos, List.append_nil, ↓RS, RG, Nat.reduceAdd, Nat.reduceMul, Nat.reduceLeDiff, tyLLbool, tyLLint, tyLbool, tyLimpl_rect, tyLint, tybool, tyimpl_floor, tyimpl_grid, tyimpl_orders, tyimpl_rect, tyimpl_relation, tyint, tystruct_cells_impl_grid_rooms_Limpl_rect_, tystruct_left_impl_relation_above_impl_relation_, tystruct_row_int_col_int_high_int_wide_int_, hr, up_rel, relObs_len, emptyM_len, gEnd, setEnd, gMid1, sMid1]
        refine CallR.pn (emptyRel_pn hn) rfl (.inl rfl) ?_
        simp (disch := omega) only [↓RU, RV, RH, ↓reduceIte, Nat.reduceEqDiff, reduceCtorEq, if_pos, List.append_nil, ↓RS, RG, Nat.reduceAdd, Nat.reduceMul, Nat.reduceLeDiff, tyLLbool, tyLLint, tyLbool, tyLimpl_rect, tyLint, tybool, tyimpl_floor, tyimpl_grid, tyimpl_orders, tyimpl_rect, tyimpl_relation, tyint, tystruct_cells_impl_grid_rooms_Limpl_rect_, tystruct_left_impl_relation_above_impl_relation_, tystruct_row_int_col_int_high_int_wide_int_, hr, up_rel, relObs_len, emptyM_len, gEnd, setEnd, gMid1, sMid1, RN]
        refine hK _ _ ?_
        clear hK K
        refine XThen.norm ?_
        refine ⟨_, lay2 nr, 4, ?_, take_all_of ?_⟩
        · simp [Env.put, Env.of, argEnv, lay2, relObs_len, emptyM_len]; try omega
        · simp [lay2, relObs_len, emptyM_len]
      · simp (disch := omega) only [↓RU, RV, RH, ↓reduceIte, Nat.reduceEqDiff, reduceCtorEq, if_pos, List.append_nil, ↓RS, RG, Nat.reduceAdd, Nat.reduceMul, Nat.reduceLeDiff, tyLLbool, tyLLint, tyLbool, tyLimpl_rect, tyLint, tybool, tyimpl_floor, tyimpl_grid, tyimpl_orders, tyimpl_rect, tyimpl_relation, tyint, tystruct_cells_impl_grid_rooms_Limpl_rect_, tystruct_left_impl_relation_above_impl_relation_, tystruct_row_int_col_int_high_int_wide_int_, hr, up_rel, relObs_len, emptyM_len, gEnd, setEnd, gMid1, sMid1]
        refine CallR.pn (emptyRel_pn hn) rfl (.inl rfl) ?_
        simp (disch := omega) only [↓RU, RV, RH, ↓reduceIte, Nat.reduceEqDiff, reduceCtorEq, if_pos, List.append_nil, ↓RS, RG, Nat.reduceAdd, Nat.reduceMul, Nat.reduceLeDiff, tyLLbool, tyLLint, tyLbool, tyLimpl_rect, tyLint, tybool, tyimpl_floor, tyimpl_grid, tyimpl_orders, tyimpl_rect, tyimpl_relation, tyint, tystruct_cells_impl_grid_rooms_Limpl_rect_, tystruct_left_impl_relation_above_impl_relation_, tystruct_row_int_col_int_high_int_wide_int_, hr, up_rel, relObs_len, emptyM_len, gEnd, setEnd, gMid1, sMid1, RN]
        refine eRunM_f rfl rfl ?_
        simp (disch := omega) only [↓RU, RV, RH, ↓reduceIte, Nat.reduceEqDiff, reduceCtorEq, if_pos, List.append_nil, ↓RS, RG, Nat.reduceAdd, Nat.reduceMul, Nat.reduceLeDiff, tyLLbool, tyLLint, tyLbool, tyLimpl_rect, tyLint, tybool, tyimpl_floor, tyimpl_grid, tyimpl_orders, tyimpl_rect, tyimpl_relation, tyint, tystruct_cells_impl_grid_rooms_Limpl_rect_, tystruct_left_impl_relation_above_impl_relation_, tystruct_row_int_col_int_high_int_wide_int_, hr, up_rel, relObs_len, emptyM_len, gEnd, setEnd, gMid1, sMid1, RN]
        refine ⟨by decide, ?_⟩
        simp (disch := omega) only [↓RU, RV, RH, ↓reduceIte, Nat.reduceEqDiff, reduceCtorEq, if_pos, List.append_nil, ↓RS, RG, Nat.reduceAdd, Nat.reduceMul, Nat.reduceLeDiff, tyLLbool, tyLLint, tyLbool, tyLimpl_rect, tyLint, tybool, tyimpl_floor, tyimpl_grid, tyimpl_orders, tyimpl_rect, tyimpl_relation, tyint, tystruct_cells_impl_grid_rooms_Limpl_rect_, tystruct_left_impl_relation_above_impl_relation_, tystruct_row_int_col_int_high_int_wide_int_, hr, up_rel, relObs_len, emptyM_len, gEnd, setEnd, gMid1, sMid1, RN]
        refine hK _ _ ?_
        clear hK K
        refine XThen.norm ?_
        refine ⟨_, lay3 nr, 4, ?_, take_all_of ?_⟩
        · simp [Env.put, Env.of, argEnv, lay3, relObs_len, emptyM_len]; try omega
        · simp [lay3, relObs_len, emptyM_len]
  rintro vs S - ⟨Y, tk, rfl, rfl⟩
  refine W.seq ?_
  refine W.seq_region fun K hK => ?_
  simp (disch := omega) only [↓RU, RV, RH, ↓reduceIte, Nat.reduceEqDiff, reduceCtorEq, if_pos, List.append_nil, ↓RS, RG, Nat.reduceAdd, Nat.reduceMul, Nat.reduceLeDiff, tyLimpl_wall, tybool, tyimpl_wall, tyint, tystruct_level_bool_line_int_from_int_long_int_, gEnd, setEnd]
  refine CallR.pc (walls_pc hg rs) rfl (.inl rfl) ?_
  simp (disch := omega) only [↓RU, RV, RH, ↓reduceIte, Nat.reduceEqDiff, reduceCtorEq, if_pos, List.append_nil, ↓RS, RG, Nat.reduceAdd, Nat.reduceMul, Nat.reduceLeDiff, tyLimpl_wall, tybool, tyimpl_wall, tyint, tystruct_level_bool_line_int_from_int_long_int_, gEnd, setEnd]
  refine hK _ _ ?_
  clear hK K
  refine W.block ?_
  refine W.loop [0, 2, 3, 27, 28, 29] (fun n vs S => ∃ i tk : Nat, n = (wallsG g nh nw).length - i ∧ i ≤ (wallsG g nh nw).length ∧ vs = [eFloor g rs, .ref 0 0 0, .ref Y.p3 Y.v3 0, eWalls (wallsG g nh nw), .int .i64 (wallsG g nh nw).length, .int .i64 i] ∧ S = ⟨Y.f (.arr 0 61 2 [.nils, .nils]) (.arr Y.v3 61 2 [.loc Y.pL Y.vL 0 nr, .loc Y.pA Y.vA 0 nr]) [] (((wallsG g nh nw).take i).foldl (ordW g) (emptyM nr, emptyM nr)).1 (((wallsG g nh nw).take i).foldl (ordW g) (emptyM nr, emptyM nr)).2, tk⟩) (wallsG g nh nw).length ?_ ?_
  · refine ⟨_, 0, tk, rfl, by omega, ?_, take_all_of rfl⟩
    simp [Env.put, Env.of, argEnv]
  rintro n vs S - ⟨i, tk, rfl, h_i, rfl, rfl⟩
  refine W.seq_region fun K hK => ?_
  simp (disch := omega) only [↓RU, RV, RH, ↓reduceIte, Nat.reduceEqDiff, reduceCtorEq, if_pos, w64, ↓RS, RG, Nat.reduceAdd, Nat.reduceMul, Nat.reduceLeDiff, tyint]
  refine hK _ _ ?_
  clear hK K
  refine W.seq ?_
  refine W.cond rfl (fun h => ?_) (fun h => ?_)
  · try simp only [RL] at h
    obtain ⟨w, hw, hwm⟩ := get_of (show i < (wallsG g nh nw).length by omega)
    obtain ⟨hL, hA⟩ := ordTo_sq hrm (ws := (wallsG g nh nw).take i) (fun w hw => wallsG_ok w (List.mem_of_mem_take hw)) (M := (emptyM nr, emptyM nr)) (emptyM_sq nr) (emptyM_sq nr)
    generalize hMe : (((wallsG g nh nw).take i).foldl (ordW g) (emptyM nr, emptyM nr)) = M at hL hA
    obtain ⟨ln, fr, lg, hwe, hlg, hin⟩ := wallsG_ok w hwm
    obtain ⟨lv, wl, wf, wg⟩ := w
    simp only [Wall.mk.injEq, true_and] at hwe hin
    obtain ⟨rfl, rfl, rfl⟩ := hwe
    have hsr := sidesOf_rooms hrm (wallsG_ok _ hwm)
    obtain ⟨hLl, -⟩ := id hL
    obtain ⟨hAl, -⟩ := id hA
    refine W.skip ?_
    refine XThen.norm ?_
    refine W.seq ?_
    refine W.block ?_
    refine W.seq_region fun K hK => ?_
    simp (disch := omega) only [↓RU, RV, RH, ↓reduceIte, Nat.reduceEqDiff, reduceCtorEq, if_pos, ↓RS, RG, Nat.reduceAdd, Nat.reduceMul, Nat.reduceLeDiff, tyLimpl_wall, tybool, tyimpl_wall, tyint, tystruct_level_bool_line_int_from_int_long_int_, hMe, hw, wcs_at hw, wcs_len, Y.app, Y.len hLl hAl, Y.get4 hLl hAl, Y.set4 hLl hAl, Wall.cells]
    refine hK _ _ ?_
    clear hK K
    refine W.seq_region fun K hK => ?_
    simp (disch := omega) only [↓RU, RV, RH, ↓reduceIte, Nat.reduceEqDiff, reduceCtorEq, if_pos, ↓RS, RG, Nat.reduceAdd, Nat.reduceMul, Nat.reduceLeDiff, tyLLbool, tyLbool, tybool, tyimpl_orders, tyimpl_relation, tystruct_left_impl_relation_above_impl_relation_, Y.get3 hLl hAl]
    refine hK _ _ ?_
    clear hK K
    refine W.join [0, 2, 3, 27, 28, 29, 5, 6] (fun vs S => vs = [eFloor g rs, .ref 0 0 0, .ref Y.p3 Y.v3 0, eWalls (wallsG g nh nw), .int .i64 (wallsG g nh nw).length, .int .i64 i, .ref (2 * nr + 4) tk 0, (if lv then .loc Y.pA Y.vA 0 nr else .loc Y.pL Y.vL 0 nr)] ∧ S = ⟨Y.f (.arr 0 61 2 [.nils, .nils]) (.arr Y.v3 61 2 [.loc Y.pL Y.vL 0 nr, .loc Y.pA Y.vA 0 nr]) [.arr tk 100 4 [.bool lv, .int .i64 ln, .int .i64 fr, .int .i64 lg]] M.1 M.2, tk + 1⟩) ?_ ?_
    ·
      refine W.seq_region fun K hK => ?_
      simp (disch := omega) only [↓RU, RV, RH, ↓reduceIte, Nat.reduceEqDiff, reduceCtorEq, if_pos, ↓RS, RG, Nat.reduceAdd, Nat.reduceMul, Nat.reduceLeDiff, tybool, tyimpl_wall, tyint, tystruct_level_bool_line_int_from_int_long_int_, Y.get4 hLl hAl]
      refine hK _ _ ?_
      clear hK K
      refine W.cond rfl (fun h1 => ?_) (fun h1 => ?_)
      · try simp only [RL] at h1
        refine W.region_k fun K hK => ?_
        simp (disch := omega) only [↓RU, RV, RH, ↓reduceIte, Nat.reduceEqDiff, reduceCtorEq, if_pos, ↓RS, RG, Nat.reduceAdd, Nat.reduceMul, Nat.reduceLeDiff, tyLLbool, tyLbool, tybool, tyimpl_orders, tyimpl_relation, tystruct_left_impl_relation_above_impl_relation_, Y.get3 hLl hAl]
        refine hK _ _ ?_
        clear hK K
        refine XThen.norm ?_
        refine ⟨_, ?_, take_all⟩
        simp [Env.put, Env.of, h1]
      · try simp only [RL] at h1
        refine W.skip ?_
        refine XThen.norm ?_
        refine ⟨_, ?_, take_all⟩
        simp [Env.put, Env.of, h1]
    rintro vs S - ⟨rfl, rfl⟩
    refine W.seq_region fun K hK => ?_
    simp (disch := omega) only [↓RU, RV, RH, ↓reduceIte, Nat.reduceEqDiff, reduceCtorEq, if_pos, List.append_nil, ↓RS, RG, Nat.reduceAdd, Nat.reduceMul, Nat.reduceLeDiff, tybool, tyimpl_wall, tyint, tystruct_level_bool_line_int_from_int_long_int_, Y.get4 hLl hAl]
    refine CallR.pc (along_pc hg rs hlg fun j a b => (hin j a b).1) rfl (.inl rfl) ?_
    simp (disch := omega) only [↓RU, RV, RH, ↓reduceIte, Nat.reduceEqDiff, reduceCtorEq, if_pos, List.append_nil, ↓RS, RG, Nat.reduceAdd, Nat.reduceMul, Nat.reduceLeDiff, tybool, tyimpl_wall, tyint, tystruct_level_bool_line_int_from_int_long_int_, Y.get4 hLl hAl]
    refine hK _ _ ?_
    clear hK K
    have hs1 : ddp (alongG g lv ln fr lg).1 = (sidesOf g ⟨lv, ln, fr, lg⟩).1 := by simp [sidesOf]
    have hs2 : ddp (alongG g lv ln fr lg).2 = (sidesOf g ⟨lv, ln, fr, lg⟩).2 := by simp [sidesOf]
    rw [hs1, hs2]
    obtain ⟨hsr1, hsr2⟩ := hsr
    have hsl := sidesOf_len hg (wallsG_ok _ hwm)
    generalize hasE : (sidesOf g ⟨lv, ln, fr, lg⟩).1 = av at hsr1 hsl
    generalize hbsE : (sidesOf g ⟨lv, ln, fr, lg⟩).2 = bv at hsr2 hsl
    refine W.seq_region fun K hK => ?_
    simp (disch := omega) only [↓RU, RV, RH, ↓reduceIte, Nat.reduceEqDiff, reduceCtorEq, if_pos, ↓RS, RG, Nat.reduceAdd, Nat.reduceMul, Nat.reduceLeDiff, tyLint, tyint]
    refine hK _ _ ?_
    clear hK K
    refine W.block ?_
    refine W.loop [0, 2, 3, 27, 28, 29, 6, 8, 45, 46, 47] (fun n vs S => ∃ x tk : Nat, n = av.length - x ∧ x ≤ av.length ∧ vs = [eFloor g rs, .ref 0 0 0, .ref Y.p3 Y.v3 0, eWalls (wallsG g nh nw), .int .i64 (wallsG g nh nw).length, .int .i64 i, (if lv then .loc Y.pA Y.vA 0 nr else .loc Y.pL Y.vL 0 nr), eInts bv, eInts av, .int .i64 av.length, .int .i64 x] ∧ S = ⟨Y.f (.arr 0 61 2 [.nils, .nils]) (.arr Y.v3 61 2 [.loc Y.pL Y.vL 0 nr, .loc Y.pA Y.vA 0 nr]) [] (selM lv M (relW (baseM lv M) (av.take x) bv)).1 (selM lv M (relW (baseM lv M) (av.take x) bv)).2, tk⟩) av.length ?_ ?_
    · refine ⟨2 * nr + 4, 0, tk + 1, rfl, by omega, ?_, ?_⟩
      · simp [Env.put, Env.of]
      · rw [Y.take hLl hAl, List.take_zero]; rw [show relW (baseM lv M) [] bv = baseM lv M from rfl, selM_base]
    rintro n vs S - ⟨x, tk, rfl, h_x, rfl, rfl⟩
    refine W.seq_region fun K hK => ?_
    simp (disch := omega) only [↓RU, RV, RH, ↓reduceIte, Nat.reduceEqDiff, reduceCtorEq, if_pos, w64, ↓RS, RG, Nat.reduceAdd, Nat.reduceMul, Nat.reduceLeDiff, tyint]
    refine hK _ _ ?_
    clear hK K
    refine W.seq ?_
    refine W.cond rfl (fun h2 => ?_) (fun h2 => ?_)
    · try simp only [RL] at h2
      obtain ⟨a, ha, ham⟩ := get_of (show x < av.length by omega)
      have hab := hsr1 a ham
      have hX : Sq nr (relW (baseM lv M) (av.take x) bv) := Sq.relW (fun a ha => by have := hsr1 a (List.mem_of_mem_take ha); omega) (baseM_sq hL hA)
      generalize hXe : relW (baseM lv M) (av.take x) bv = X at hX
      have hasl2 := hsl.1
      have hbsl2 := hsl.2
      refine W.skip ?_
      refine XThen.norm ?_
      refine W.seq ?_
      refine W.block ?_
      refine W.seq_region fun K hK => ?_
      simp (disch := omega) only [↓RU, RV, RH, ↓reduceIte, Nat.reduceEqDiff, reduceCtorEq, if_pos, ↓RS, RG, Nat.reduceAdd, Nat.reduceMul, Nat.reduceLeDiff, tyLint, tyint, ha]
      refine hK _ _ ?_
      clear hK K
      refine W.seq_region fun K hK => ?_
      simp (disch := omega) only [↓RU, RV, RH, ↓reduceIte, Nat.reduceEqDiff, reduceCtorEq, if_pos, ↓RS, RG, Nat.reduceAdd, Nat.reduceMul, Nat.reduceLeDiff, tyLint, tyint]
      refine hK _ _ ?_
      clear hK K
      refine W.block ?_
      refine W.loop [0, 2, 3, 27, 28, 29, 6, 8, 45, 46, 47, 10, 51, 52, 53] (fun n vs S => ∃ y tk : Nat, n = bv.length - y ∧ y ≤ bv.length ∧ vs = [eFloor g rs, .ref 0 0 0, .ref Y.p3 Y.v3 0, eWalls (wallsG g nh nw), .int .i64 (wallsG g nh nw).length, .int .i64 i, (if lv then .loc Y.pA Y.vA 0 nr else .loc Y.pL Y.vL 0 nr), eInts bv, eInts av, .int .i64 av.length, .int .i64 x, .int .i64 a, eInts bv, .int .i64 bv.length, .int .i64 y] ∧ S = ⟨Y.f (.arr 0 61 2 [.nils, .nils]) (.arr Y.v3 61 2 [.loc Y.pL Y.vL 0 nr, .loc Y.pA Y.vA 0 nr]) [] (selM lv M (relB a (bv.take y) X)).1 (selM lv M (relB a (bv.take y) X)).2, tk⟩) bv.length ?_ ?_
      · refine ⟨_, 0, tk, rfl, by omega, ?_, take_all_of ?_⟩
        · simp [Env.put, Env.of]
        · rfl
      rintro n vs S - ⟨y, tk, rfl, h_y, rfl, rfl⟩
      refine W.seq_region fun K hK => ?_
      simp (disch := omega) only [↓RU, RV, RH, ↓reduceIte, Nat.reduceEqDiff, reduceCtorEq, if_pos, w64, ↓RS, RG, Nat.reduceAdd, Nat.reduceMul, Nat.reduceLeDiff, tyint]
      refine hK _ _ ?_
      clear hK K
      refine W.seq ?_
      refine W.cond rfl (fun h3 => ?_) (fun h3 => ?_)
      · try simp only [RL] at h3
        obtain ⟨b, hb, hbm⟩ := get_of (show y < bv.length by omega)
        have hbb := hsr2 b hbm
        have hZ : Sq nr (relB a (bv.take y) X) := hX.relB (by omega)
        generalize hZe : relB a (bv.take y) X = Z at hZ
        obtain ⟨a, rfl⟩ : ∃ a2 : Nat, a = a2 := ⟨a.toNat, by omega⟩
        obtain ⟨b, rfl⟩ : ∃ b2 : Nat, b = b2 := ⟨b.toNat, by omega⟩
        obtain ⟨row, hrow, hrl, -⟩ := hZ.at_ (show a < nr by omega) (show b < nr by omega)
        have hZl := hZ.1
        refine W.skip ?_
        refine XThen.norm ?_
        refine W.seq ?_
        refine W.block ?_
        refine W.seq_region fun K hK => ?_
        simp (disch := omega) only [↓RU, RV, RH, ↓reduceIte, Nat.reduceEqDiff, reduceCtorEq, if_pos, ↓RS, RG, Nat.reduceAdd, Nat.reduceMul, Nat.reduceLeDiff, tyLint, tyint, hb]
        refine hK _ _ ?_
        clear hK K
        refine W.region_k fun K hK => ?_
        cases lv
        · skip
          simp only [selM, Bool.false_eq_true, if_false]
          try rw [hZe]
          simp (disch := omega) only [↓RU, RV, RH, ↓reduceIte, Nat.reduceEqDiff, reduceCtorEq, if_pos, ↓RS, RG, Nat.reduceAdd, Nat.reduceMul, Nat.reduceLeDiff, tyLLbool, tyLbool, tybool, tyimpl_relation, Y.getL hZl, Y.getLr hrow, rg_get, hrl, set_spl, set_bool, Y.setL hZl]
          refine hK _ _ ?_
          clear hK K
          refine XBlock.norm ?_
          refine XThen.norm ?_
          refine W.region_k fun K hK => ?_
          simp (disch := omega) only [↓RU, RV, RH, ↓reduceIte, Nat.reduceEqDiff, reduceCtorEq, if_pos, w64, ↓RS, RG, Nat.reduceAdd, Nat.reduceMul, Nat.reduceLeDiff, tyint]
          refine hK _ _ ?_
          clear hK K
          refine XThen.norm ?_
          refine ⟨bv.length - (y + 1), by omega, _, y + 1, tk, rfl, by omega, ?_, take_all_of ?_⟩
          · simp [Env.put, Env.of]
          · rw [relB_tk hb, hZe, Int.toNat_natCast, Int.toNat_natCast, setB_is hrow]; rfl
        · skip
          simp only [selM, if_true]
          try rw [hZe]
          simp (disch := omega) only [↓RU, RV, RH, ↓reduceIte, Nat.reduceEqDiff, reduceCtorEq, if_pos, ↓RS, RG, Nat.reduceAdd, Nat.reduceMul, Nat.reduceLeDiff, tyLLbool, tyLbool, tybool, tyimpl_relation, Y.getA hLl hZl, Y.getAr hLl hrow, rg_get, hrl, set_spl, set_bool, Y.setA hLl hZl]
          refine hK _ _ ?_
          clear hK K
          refine XBlock.norm ?_
          refine XThen.norm ?_
          refine W.region_k fun K hK => ?_
          simp (disch := omega) only [↓RU, RV, RH, ↓reduceIte, Nat.reduceEqDiff, reduceCtorEq, if_pos, w64, ↓RS, RG, Nat.reduceAdd, Nat.reduceMul, Nat.reduceLeDiff, tyint]
          refine hK _ _ ?_
          clear hK K
          refine XThen.norm ?_
          refine ⟨bv.length - (y + 1), by omega, _, y + 1, tk, rfl, by omega, ?_, take_all_of ?_⟩
          · simp [Env.put, Env.of]
          · rw [relB_tk hb, hZe, Int.toNat_natCast, Int.toNat_natCast, setB_is hrow]; rfl
      · try simp only [RL] at h3
        obtain rfl : y = bv.length := by omega
        rw [List.take_length]
        refine W.exit ?_
        refine XThen.exit ?_
        refine XThen.exit ?_
        refine XBlock.hit ?_
        refine XBlock.norm ?_
        refine XThen.norm ?_
        refine W.region_k fun K hK => ?_
        simp (disch := omega) only [↓RU, RV, RH, ↓reduceIte, Nat.reduceEqDiff, reduceCtorEq, if_pos, w64, ↓RS, RG, Nat.reduceAdd, Nat.reduceMul, Nat.reduceLeDiff, tyint]
        refine hK _ _ ?_
        clear hK K
        refine XThen.norm ?_
        refine ⟨av.length - (x + 1), by omega, _, x + 1, tk, rfl, by omega, ?_, take_all_of ?_⟩
        · simp [Env.put, Env.of]
        · rw [relW_tk ha, hXe]
    · try simp only [RL] at h2
      obtain rfl : x = av.length := by omega
      refine W.exit ?_
      refine XThen.exit ?_
      refine XThen.exit ?_
      refine XBlock.hit ?_
      refine XBlock.norm ?_
      refine XThen.norm ?_
      refine W.region_k fun K hK => ?_
      simp (disch := omega) only [↓RU, RV, RH, ↓reduceIte, Nat.reduceEqDiff, reduceCtorEq, if_pos, w64, ↓RS, RG, Nat.reduceAdd, Nat.reduceMul, Nat.reduceLeDiff, tyint]
      refine hK _ _ ?_
      clear hK K
      refine XThen.norm ?_
      refine ⟨(wallsG g nh nw).length - (i + 1), by omega, _, i + 1, tk, rfl, by omega, ?_, take_all_of ?_⟩
      · simp [Env.put, Env.of]
      · rw [foldl_tk hw, hMe, ordW_sel, List.take_length, hasE, hbsE]
  · try simp only [RL] at h
    obtain rfl : i = (wallsG g nh nw).length := by omega
    rw [List.take_length]
    have hLA := ordTo_sq hrm (ws := wallsG g nh nw) wallsG_ok (M := (emptyM nr, emptyM nr)) (emptyM_sq nr) (emptyM_sq nr)
    rw [show (wallsG g nh nw).foldl (ordW g) (emptyM nr, emptyM nr) = ordM g nh nw nr from rfl] at hLA ⊢
    obtain ⟨hL, hA⟩ := hLA
    have hLl := hL.1
    have hAl := hA.1
    have hLc := hL.close
    have hAc := hA.close
    have hLcl := hLc.1
    have hAcl := hAc.1
    refine W.exit ?_
    refine XThen.exit ?_
    refine XThen.exit ?_
    refine XBlock.hit ?_
    refine XThen.norm ?_
    refine W.seq_region fun K hK => ?_
    simp (disch := omega) only [↓RU, RV, RH, ↓reduceIte, Nat.reduceEqDiff, reduceCtorEq, if_pos, List.append_nil, ↓RS, RG, Nat.reduceAdd, Nat.reduceMul, Nat.reduceLeDiff, tyLLbool, tyLbool, tybool, tyimpl_orders, tyimpl_relation, tystruct_left_impl_relation_above_impl_relation_, Y.get3 hLl hAl]
    refine CallR.ev (closeL_ev Y hL hn) ?_
    rintro _ _ ⟨rfl, rfl⟩
    simp (disch := omega) only [↓RU, RV, RH, ↓reduceIte, Nat.reduceEqDiff, reduceCtorEq, if_pos, List.append_nil, ↓RS, RG, Nat.reduceAdd, Nat.reduceMul, Nat.reduceLeDiff, tyLLbool, tyLbool, tybool, tyimpl_orders, tyimpl_relation, tystruct_left_impl_relation_above_impl_relation_, Y.get3 hLl hAl]
    refine hK _ _ ?_
    clear hK K
    refine W.seq_region fun K hK => ?_
    simp (disch := omega) only [↓RU, RV, RH, ↓reduceIte, Nat.reduceEqDiff, reduceCtorEq, if_pos, List.append_nil, ↓RS, RG, Nat.reduceAdd, Nat.reduceMul, Nat.reduceLeDiff, tyLLbool, tyLbool, tybool, tyimpl_orders, tyimpl_relation, tystruct_left_impl_relation_above_impl_relation_, Y.get3 hLcl hAl]
    refine CallR.ev (closeA_ev Y hLcl hA hn) ?_
    rintro _ _ ⟨rfl, rfl⟩
    simp (disch := omega) only [↓RU, RV, RH, ↓reduceIte, Nat.reduceEqDiff, reduceCtorEq, if_pos, List.append_nil, ↓RS, RG, Nat.reduceAdd, Nat.reduceMul, Nat.reduceLeDiff, tyLLbool, tyLbool, tybool, tyimpl_orders, tyimpl_relation, tystruct_left_impl_relation_above_impl_relation_, Y.get3 hLcl hAl]
    refine hK _ _ ?_
    clear hK K
    refine W.seq_region fun K hK => ?_
    simp (disch := omega) only [↓RU, RV, RH, ↓reduceIte, Nat.reduceEqDiff, reduceCtorEq, if_pos, ↓RS, RG, Nat.reduceAdd, Nat.reduceMul, Nat.reduceLeDiff, tyLLbool, tyLbool, tybool, tyimpl_orders, tyimpl_relation, tystruct_left_impl_relation_above_impl_relation_, Y.get3 hLcl hAcl, Y.get0, Y.set0]
    refine hK _ _ ?_
    clear hK K
    refine W.ret ?_
    refine BodyQ.ret (v := .agg [.loc Y.pL Y.vL 0 nr, .loc Y.pA Y.vA 0 nr]) (by simp only [resPV, resList, show Tryz.f66.results.toList = [.cell 2 61] from rfl, resOne, Env.put, Env.of, Nat.reduceEqDiff, ↓reduceIte, pLoad_ref, co_eq, Y.get0]; rfl) ?_
    exact reify_agg2 (reify_rel (f := 6) hLc (Y.getL hLcl) fun a row h => Y.getLr h) (reify_rel (f := 6) hAc (Y.getA hLcl hAcl) fun a row h => Y.getAr hLcl h)

end Fw
end Go.Proofs.YtcglmbijpjhbmaaGreat

/-! Heaviest sums in plain words. -/
namespace Go.Proofs.YtcglmbijpjhbmaaGreat
namespace Fw
open Go

def hvF (M : List (List Bool)) (g : Nat → Int) (b i : Nat) : Int := (List.range i).foldl (fun m a => if getB M a b then max m (g a) else m) 0
def hv (M : List (List Bool)) (ws : List Int) (n : Nat) : Nat → Nat → Int
  | 0, _ => 0
  | f + 1, b => hvF M (hv M ws n f) b n + getI ws b
/-- A relation that goes up. -/
structure Up (M : List (List Bool)) (n : Nat) (rk : Nat → Nat) : Prop where
  sq : Sq n M
  up : ∀ a b, a < n → b < n → getB M a b = true → rk a < rk b
  le : ∀ b, rk b ≤ 100
/-- The heaviest sum that ends with a room. -/
def HB (M : List (List Bool)) (ws : List Int) (n b : Nat) : Int := hv M ws n 101 b
/-- What has been noted: nothing, or the sum. -/
def Memo (M : List (List Bool)) (ws : List Int) (n : Nat) (out : List Int) : Prop := out.length = n ∧ ∀ (b : Nat) x, out[b]? = some x → x = 0 ∨ x = HB M ws n b
def Keep (out out' : List Int) : Prop := ∀ (b : Nat) x, out[b]? = some x → x ≠ 0 → out'[b]? = some x
theorem Keep.refl (out : List Int) : Keep out out := fun _ _ h _ => h
theorem Keep.trans {a b c : List Int} (h : Keep a b) (k : Keep b c) : Keep a c := fun i x h1 h2 => k i x (h i x h1 h2) h2
theorem Memo.at_ {M : List (List Bool)} {ws out : List Int} {n : Nat} (h : Memo M ws n out) {b : Nat} (hb : b < n) : ∃ x, out[b]? = some x ∧ (x = 0 ∨ x = HB M ws n b) := by
  obtain ⟨x, hx, -⟩ := get_of (show b < out.length by rw [h.1]; exact hb)
  exact ⟨x, hx, h.2 b x hx⟩
theorem Memo.set {M : List (List Bool)} {ws out : List Int} {n : Nat} (h : Memo M ws n out) {b : Nat} : Memo M ws n (out.set b (HB M ws n b)) := by
  refine ⟨by simpa using h.1, fun c x hx => ?_⟩
  rw [List.getElem?_set] at hx
  split at hx
  · rename_i e; subst e
    split at hx
    · cases hx; exact .inr rfl
    · cases hx
  · exact h.2 c x hx
theorem Memo.keep {M : List (List Bool)} {ws out : List Int} {n : Nat} (h : Memo M ws n out) {b : Nat} : Keep out (out.set b (HB M ws n b)) := by
  intro c x hx h0
  rw [List.getElem?_set]
  split
  · rename_i e; subst e
    have := (h.2 b x hx).resolve_left h0
    rw [if_pos (len_of hx), this]
  · exact hx
def heaviest (M : List (List Bool)) (ws : List Int) (n : Nat) : List Int := (List.range n).map (HB M ws n)
end Fw
end Go.Proofs.YtcglmbijpjhbmaaGreat

/-! Numbers put in order by putting one after the other in. -/
namespace Go.Proofs.YtcglmbijpjhbmaaGreat
namespace Fw
open Go

/-- The first i numbers stand in order. -/
def Ord (c : List Int) (i : Nat) : Prop := ∀ p q x y, p < q → q < i → c[p]? = some x → c[q]? = some y → x ≤ y
/-- The first i + 1 numbers stand in order, but for the one at j against those ahead of it. -/
def InsO (c : List Int) (j i : Nat) : Prop := ∀ p q x y, p < q → q ≤ i → q ≠ j → c[p]? = some x → c[q]? = some y → x ≤ y

theorem Ord.one (c : List Int) : Ord c 1 := by intro p q x y h1 h2; omega
theorem Ord.ins {c : List Int} {i : Nat} (h : Ord c i) : InsO c i i := by
  intro p q x y h1 h2 h3 hx hy
  exact h p q x y h1 (by omega) hx hy
theorem InsO.zero {c : List Int} {i : Nat} (h : InsO c 0 i) : Ord c (i + 1) := by
  intro p q x y h1 h2 hx hy
  exact h p q x y h1 (by omega) (by omega) hx hy
theorem InsO.stop {c : List Int} {i j : Nat} {a b : Int} (h : InsO c j i) (ha : c[j]? = some a) (hb : c[j - 1]? = some b) (hle : ¬ a < b) : Ord c (i + 1) := by
  intro p q x y h1 h2 hx hy
  by_cases e : q = j
  · subst e
    rw [ha] at hy; cases hy
    by_cases e2 : p = q - 1
    · subst e2; rw [hb] at hx; cases hx; omega
    · have := h p (q - 1) x b (by omega) (by omega) (by omega) hx hb; omega
  · exact h p q x y h1 (by omega) e hx hy
theorem InsO.swap {c : List Int} {i j : Nat} {a b : Int} (h : InsO c j i) (hj : j ≠ 0) (hji : j ≤ i) (ha : c[j]? = some a) (hb : c[j - 1]? = some b) (hlt : a < b) : InsO ((c.set j b).set (j - 1) a) (j - 1) i := by
  have hl := len_of ha
  have g : ∀ k, ((c.set j b).set (j - 1) a)[k]? = if k = j - 1 then some a else if k = j then some b else c[k]? := by
    intro k
    rw [List.getElem?_set]
    by_cases e : j - 1 = k
    · rw [if_pos e, if_pos e.symm, if_pos (by simp; omega)]
    · rw [if_neg e, if_neg (Ne.symm e), List.getElem?_set]
      by_cases e2 : j = k
      · rw [if_pos e2, if_pos e2.symm, if_pos (by omega)]
      · rw [if_neg e2, if_neg (Ne.symm e2)]
  intro p q x y h1 h2 h3 hx hy
  rw [g] at hx hy
  rw [if_neg h3] at hy
  by_cases e : q = j
  · rw [if_pos e] at hy; cases hy
    by_cases e2 : p = j - 1
    · rw [if_pos e2] at hx; cases hx; omega
    · rw [if_neg e2, if_neg (by omega)] at hx
      exact h p (j - 1) x b (by omega) (by omega) (by omega) hx hb
  · rw [if_neg e] at hy
    by_cases e2 : p = j - 1
    · rw [if_pos e2] at hx; cases hx
      exact h j q a y (by omega) h2 e ha hy
    · rw [if_neg e2] at hx
      by_cases e3 : p = j
      · rw [if_pos e3] at hx; cases hx
        exact h (j - 1) q b y (by omega) h2 e hb hy
      · rw [if_neg e3] at hx
        exact h p q x y h1 h2 e hx hy
theorem swap_perm {c l : List Int} {j : Nat} {a b : Int} (h : c.Perm l) (ha : c[j]? = some a) (hb : c[j - 1]? = some b) : ((c.set j b).set (j - 1) a).Perm l := by
  obtain ⟨h1, e1⟩ := List.getElem?_eq_some_iff.mp ha
  obtain ⟨h2, e2⟩ := List.getElem?_eq_some_iff.mp hb
  have := @List.set_set_perm _ c _ _ h1 h2
  rw [e1, e2] at this
  exact this.trans h
theorem Ord.pair {c : List Int} (h : Ord c c.length) : c.Pairwise (· ≤ ·) := by
  rw [List.pairwise_iff_getElem]
  intro i j hi hj hij
  exact h i j _ _ hij hj (List.getElem?_eq_getElem hi) (List.getElem?_eq_getElem hj)
end Fw
end Go.Proofs.YtcglmbijpjhbmaaGreat

/-! Sort, gone through. -/
namespace Go.Proofs.YtcglmbijpjhbmaaGreat
namespace Fw
open Go

theorem isNaN_pc {x : Int} : PC Tryz.prog 200 [.int .i64 x] (.bool false) true := by
  refine PC.of ⟨Tryz.func200, by kernel_rfl, rfl, by kernel_rfl⟩ tabOk mixed (by show 1 ≤ Tryz.f200.ntmps; decide) ?_
  refine W.seq_region fun K hK => ?_
  simp (disch := omega) only [↓RU, RV, RH, ↓reduceIte, Nat.reduceEqDiff, reduceCtorEq, if_pos]
  refine hK _ _ ?_
  clear hK K
  refine W.seq_region fun K hK => ?_
  simp (disch := omega) only [↓RU, RV, RH, ↓reduceIte, Nat.reduceEqDiff, reduceCtorEq, if_pos, w64, tyint]
  refine hK _ _ ?_
  clear hK K
  refine W.ret ?_
  refine BodyQ.ret rfl ?_
  rw [show (x != x) = false by simp]
  rfl

theorem less_pc {x y : Int} : PC Tryz.prog 194 [.int .i64 x, .int .i64 y] (.bool (decide (x < y))) true := by
  refine PC.of ⟨Tryz.func194, by kernel_rfl, rfl, by kernel_rfl⟩ tabOk mixed (by show 2 ≤ Tryz.f194.ntmps; decide) ?_
  refine W.seq_region fun K hK => ?_
  simp (disch := omega) only [↓RU, RV, RH, ↓reduceIte, Nat.reduceEqDiff, reduceCtorEq, if_pos]
  refine hK _ _ ?_
  clear hK K
  refine W.seq_region fun K hK => ?_
  simp (disch := omega) only [↓RU, RV, RH, ↓reduceIte, Nat.reduceEqDiff, reduceCtorEq, if_pos, List.append_nil, w64, tyint]
  refine CallR.pc (isNaN_pc) rfl (.inl rfl) ?_
  simp (disch := omega) only [↓RU, RV, RH, ↓reduceIte, Nat.reduceEqDiff, reduceCtorEq, if_pos, List.append_nil, w64, tyint]
  refine hK _ _ ?_
  clear hK K
  refine W.ret ?_
  refine BodyQ.ret rfl ?_
  rfl

theorem insort_ev {F R : List Ob} {ver t : Nat} {l : List Int} (hl : l.length < 2147483648) (h1 : 1 ≤ l.length) : Ev Tryz.prog 188 [.loc F.length ver 0 l.length, .int .i64 0, .int .i64 l.length] ⟨F ++ .arr ver 3 1 (l.map (.int .i64)) :: R, t⟩ fun v S => v = .tup [] ∧ ∃ z : List Int, z.Perm l ∧ z.Pairwise (· ≤ ·) ∧ S = ⟨F ++ .arr ver 3 1 (z.map (.int .i64)) :: R, t⟩ := by
  refine Ev.of ⟨Tryz.func188, by kernel_rfl, rfl, by kernel_rfl⟩ tabOk mixed (by show 3 ≤ Tryz.f188.ntmps; decide) ?_
  refine W.seq_region fun K hK => ?_
  simp (disch := omega) only [↓RU, RV, RH, ↓reduceIte, Nat.reduceEqDiff, reduceCtorEq, if_pos, w64, ↓RS, RG, Nat.reduceAdd, Nat.reduceMul, Nat.reduceLeDiff, tyint, gF, setF]
  refine hK _ _ ?_
  clear hK K
  refine W.block ?_
  refine W.loop [0, 1, 2, 6] (fun n vs S => ∃ (i : Nat) (c : List Int), n = l.length - i ∧ 1 ≤ i ∧ i ≤ l.length ∧ c.Perm l ∧ Ord c i ∧ vs = [.loc F.length ver 0 l.length, .int .i64 0, .int .i64 l.length, .int .i64 i] ∧ S = ⟨F ++ .arr ver 3 1 (c.map (.int .i64)) :: R, t⟩) (l.length - 1) ?_ ?_
  · refine ⟨_, 1, l, rfl, Nat.le_refl _, h1, List.Perm.refl _, Ord.one l, ?_, take_all⟩
    simp [Env.put, Env.of, argEnv]
  rintro n vs S - ⟨i, c, rfl, hi1, h_i, hp, ho, rfl, rfl⟩
  refine W.seq ?_
  refine W.seq_region fun K hK => ?_
  simp (disch := omega) only [↓RU, RV, RH, ↓reduceIte, Nat.reduceEqDiff, reduceCtorEq, if_pos, w64, ↓RS, RG, Nat.reduceAdd, Nat.reduceMul, Nat.reduceLeDiff, tyint, gF, setF]
  refine hK _ _ ?_
  clear hK K
  refine W.cond rfl (fun h => ?_) (fun h => ?_)
  · try simp only [RL] at h
    refine W.skip ?_
    refine XThen.norm ?_
    refine W.seq ?_
    refine W.block ?_
    refine W.seq_region fun K hK => ?_
    simp (disch := omega) only [↓RU, RV, RH, ↓reduceIte, Nat.reduceEqDiff, reduceCtorEq, if_pos, ↓RS, RG, Nat.reduceAdd, Nat.reduceMul, Nat.reduceLeDiff, gF, setF]
    refine hK _ _ ?_
    clear hK K
    refine W.block ?_
    refine W.loop [0, 1, 2, 6, 7] (fun n vs S => ∃ (j : Nat) (d : List Int), n = j + 1 ∧ j ≤ i ∧ d.Perm l ∧ InsO d j i ∧ vs = [.loc F.length ver 0 l.length, .int .i64 0, .int .i64 l.length, .int .i64 i, .int .i64 j] ∧ S = ⟨F ++ .arr ver 3 1 (d.map (.int .i64)) :: R, t⟩) (i + 1) ?_ ?_
    · refine ⟨_, i, c, rfl, Nat.le_refl _, hp, ho.ins, ?_, take_all⟩
      simp [Env.put, Env.of]
    rintro n vs S - ⟨j, d, rfl, h_j, hq, hO, rfl, rfl⟩
    refine W.seq ?_
    refine W.seq_draw (by kernel_rfl) fun K hK => ?_
    cases hd : decide ((j : Int) > 0)
    · skip
      obtain rfl : j = 0 := by simpa using hd
      simp (disch := omega) only [↓RU, RV, RH, ↓reduceIte, Nat.reduceEqDiff, reduceCtorEq, if_pos, w64, List.append_nil, ↓RS, RG, Nat.reduceAdd, Nat.reduceMul, Nat.reduceLeDiff, tyLint, tyint, gF, setF, hd]
      refine hK _ _ ?_
      clear hK K
      refine W.cond rfl (fun h2 => ?_) (fun h2 => ?_)
      · try simp only [RL] at h2
        exact absurd h2 (by simp)
      · try simp only [RL] at h2
        have hO2 : Ord d (i + 1) := hO.zero
        refine W.exit ?_
        refine XThen.exit ?_
        refine XThen.exit ?_
        refine XBlock.hit ?_
        refine XBlock.norm ?_
        refine XThen.norm ?_
        refine W.region_k fun K hK => ?_
        simp (disch := omega) only [↓RU, RV, RH, ↓reduceIte, Nat.reduceEqDiff, reduceCtorEq, if_pos, w64, ↓RS, RG, Nat.reduceAdd, Nat.reduceMul, Nat.reduceLeDiff, tyint, gF, setF]
        refine hK _ _ ?_
        clear hK K
        refine XThen.norm ?_
        refine ⟨l.length - (i + 1), by omega, _, i + 1, d, rfl, by omega, by omega, hq, hO2, ?_, take_all⟩
        simp [Env.put, Env.of]
    · skip
      have hj0 : j ≠ 0 := by have := of_decide_eq_true hd; omega
      have hdl := hq.length_eq
      obtain ⟨x, hx, -⟩ := get_of (show j < d.length by omega)
      obtain ⟨y, hy, -⟩ := get_of (show j - 1 < d.length by omega)
      simp (disch := omega) only [↓RU, RV, RH, ↓reduceIte, Nat.reduceEqDiff, reduceCtorEq, if_pos, w64, List.append_nil, ↓RS, RG, Nat.reduceAdd, Nat.reduceMul, Nat.reduceLeDiff, tyLint, tyint, gF, setF, hd, hx, hy, toNat_pred]
      refine CallR.pc (less_pc (x := x) (y := y)) rfl (.inl rfl) ?_
      simp (disch := omega) only [↓RU, RV, RH, ↓reduceIte, Nat.reduceEqDiff, reduceCtorEq, if_pos, w64, List.append_nil, ↓RS, RG, Nat.reduceAdd, Nat.reduceMul, Nat.reduceLeDiff, tyLint, tyint, gF, setF, hd, hx, hy, toNat_pred]
      refine hK _ _ ?_
      clear hK K
      refine W.cond rfl (fun h2 => ?_) (fun h2 => ?_)
      · try simp only [RL] at h2
        have hjl := len_of hx
        have hsl : (d.set j y).length = d.length := by simp
        refine W.skip ?_
        refine XThen.norm ?_
        refine W.seq ?_
        refine W.block ?_
        refine W.draw_k (by kernel_rfl) fun K hK => ?_
        simp (disch := omega) only [↓RU, RV, RH, ↓reduceIte, Nat.reduceEqDiff, reduceCtorEq, if_pos, w64, ↓RS, RG, Nat.reduceAdd, Nat.reduceMul, Nat.reduceLeDiff, tyLint, tyint, gF, setF, hx, hy, toNat_pred, set_spl, set_int, List.length_set]
        refine hK _ _ ?_
        clear hK K
        refine XBlock.norm ?_
        refine XThen.norm ?_
        refine W.region_k fun K hK => ?_
        simp (disch := omega) only [↓RU, RV, RH, ↓reduceIte, Nat.reduceEqDiff, reduceCtorEq, if_pos, w64, ↓RS, RG, Nat.reduceAdd, Nat.reduceMul, Nat.reduceLeDiff, tyint, gF, setF]
        refine hK _ _ ?_
        clear hK K
        refine XThen.norm ?_
        refine ⟨j - 1 + 1, by omega, _, j - 1, (d.set j y).set (j - 1) x, rfl, by omega, swap_perm hq hx hy, hO.swap hj0 h_j hx hy h2, ?_, take_all⟩
        simp [Env.put, Env.of]; omega
      · try simp only [RL] at h2
        have hO2 : Ord d (i + 1) := hO.stop hx hy h2
        refine W.exit ?_
        refine XThen.exit ?_
        refine XThen.exit ?_
        refine XBlock.hit ?_
        refine XBlock.norm ?_
        refine XThen.norm ?_
        refine W.region_k fun K hK => ?_
        simp (disch := omega) only [↓RU, RV, RH, ↓reduceIte, Nat.reduceEqDiff, reduceCtorEq, if_pos, w64, ↓RS, RG, Nat.reduceAdd, Nat.reduceMul, Nat.reduceLeDiff, tyint, gF, setF]
        refine hK _ _ ?_
        clear hK K
        refine XThen.norm ?_
        refine ⟨l.length - (i + 1), by omega, _, i + 1, d, rfl, by omega, by omega, hq, hO2, ?_, take_all⟩
        simp [Env.put, Env.of]
  · try simp only [RL] at h
    obtain rfl : l.length = i := by omega
    refine W.exit ?_
    refine XThen.exit ?_
    refine XThen.exit ?_
    refine XBlock.hit ?_
    refine BodyQ.norm rfl ?_
    exact ⟨_, rfl, c, hp, by rw [← hp.length_eq] at ho; exact ho.pair, take_all⟩

theorem len64_pc  : PC Tryz.prog 163 [.int .u64 4] (.int .i64 3) true := by
  refine PC.of ⟨Tryz.func163, by kernel_rfl, rfl, by kernel_rfl⟩ tabOk mixed (by show 1 ≤ Tryz.f163.ntmps; decide) ?_
  refine W.seq_region fun K hK => ?_
  simp (disch := omega) only [↓RU, RV, RH, ↓reduceIte, Nat.reduceEqDiff, reduceCtorEq, if_pos]
  refine hK _ _ ?_
  clear hK K
  refine W.seq ?_
  refine W.seq_region fun K hK => ?_
  simp (disch := omega) only [↓RU, RV, RH, ↓reduceIte, Nat.reduceEqDiff, reduceCtorEq, if_pos, w64, tyuint64]
  refine hK _ _ ?_
  clear hK K
  refine W.cond rfl (fun h => ?_) (fun h => ?_)
  · try simp only [RL] at h
    exact absurd h (by decide)
  · try simp only [RL] at h
    refine W.skip ?_
    refine XThen.norm ?_
    refine W.seq ?_
    refine W.seq_region fun K hK => ?_
    simp (disch := omega) only [↓RU, RV, RH, ↓reduceIte, Nat.reduceEqDiff, reduceCtorEq, if_pos, w64, tyuint64]
    refine hK _ _ ?_
    clear hK K
    refine W.cond rfl (fun h1 => ?_) (fun h1 => ?_)
    · try simp only [RL] at h1
      exact absurd h1 (by decide)
    · try simp only [RL] at h1
      refine W.skip ?_
      refine XThen.norm ?_
      refine W.seq ?_
      refine W.seq_region fun K hK => ?_
      simp (disch := omega) only [↓RU, RV, RH, ↓reduceIte, Nat.reduceEqDiff, reduceCtorEq, if_pos, w64, tyuint64]
      refine hK _ _ ?_
      clear hK K
      refine W.cond rfl (fun h2 => ?_) (fun h2 => ?_)
      · try simp only [RL] at h2
        exact absurd h2 (by decide)
      · try simp only [RL] at h2
        refine W.skip ?_
        refine XThen.norm ?_
        refine W.seq_region fun K hK => ?_
        simp (disch := omega) only [↓RU, RV, RH, ↓reduceIte, Nat.reduceEqDiff, reduceCtorEq, if_pos, w64, w64, tyint, tystring, tyuint64, tyuint8]
        refine hK _ _ ?_
        clear hK K
        refine W.ret ?_
        refine BodyQ.ret rfl ?_
        rfl

theorem len_pc  : PC Tryz.prog 139 [.int .u64 4] (.int .i64 3) true := by
  refine PC.of ⟨Tryz.func139, by kernel_rfl, rfl, by kernel_rfl⟩ tabOk mixed (by show 1 ≤ Tryz.f139.ntmps; decide) ?_
  refine W.seq_region fun K hK => ?_
  simp (disch := omega) only [↓RU, RV, RH, ↓reduceIte, Nat.reduceEqDiff, reduceCtorEq, if_pos]
  refine hK _ _ ?_
  clear hK K
  refine W.seq ?_
  refine W.cond rfl (fun h => ?_) (fun h => ?_)
  · try simp only [RL] at h
    exact absurd h (by decide)
  · try simp only [RL] at h
    refine W.skip ?_
    refine XThen.norm ?_
    refine W.seq_region fun K hK => ?_
    simp (disch := omega) only [↓RU, RV, RH, ↓reduceIte, Nat.reduceEqDiff, reduceCtorEq, if_pos, List.append_nil]
    refine CallR.pc (len64_pc) rfl (.inl rfl) ?_
    simp (disch := omega) only [↓RU, RV, RH, ↓reduceIte, Nat.reduceEqDiff, reduceCtorEq, if_pos, List.append_nil]
    refine hK _ _ ?_
    clear hK K
    refine W.ret ?_
    refine BodyQ.ret rfl ?_
    rfl

theorem pdq_ev {F R : List Ob} {ver t : Nat} {l : List Int} (hl : l.length ≤ 12) (h1 : 1 ≤ l.length) (lim : Int) : Ev Tryz.prog 183 [.loc F.length ver 0 l.length, .int .i64 0, .int .i64 l.length, .int .i64 lim] ⟨F ++ .arr ver 3 1 (l.map (.int .i64)) :: R, t⟩ fun v S => v = .tup [] ∧ ∃ z : List Int, z.Perm l ∧ z.Pairwise (· ≤ ·) ∧ S = ⟨F ++ .arr ver 3 1 (z.map (.int .i64)) :: R, t⟩ := by
  refine Ev.of ⟨Tryz.func183, by kernel_rfl, rfl, by kernel_rfl⟩ tabOk mixed (by show 4 ≤ Tryz.f183.ntmps; decide) ?_
  refine W.seq_region fun K hK => ?_
  simp (disch := omega) only [↓RU, RV, RH, ↓reduceIte, Nat.reduceEqDiff, reduceCtorEq, if_pos, ↓RS, RG, Nat.reduceAdd, Nat.reduceMul, Nat.reduceLeDiff, gF, setF]
  refine hK _ _ ?_
  clear hK K
  refine W.seq_region fun K hK => ?_
  simp (disch := omega) only [↓RU, RV, RH, ↓reduceIte, Nat.reduceEqDiff, reduceCtorEq, if_pos, ↓RS, RG, Nat.reduceAdd, Nat.reduceMul, Nat.reduceLeDiff, gF, setF]
  refine hK _ _ ?_
  clear hK K
  refine W.block ?_
  refine W.loop [0, 1, 2] (fun n vs S => vs = [.loc F.length ver 0 l.length, .int .i64 0, .int .i64 l.length] ∧ S = ⟨F ++ .arr ver 3 1 (l.map (.int .i64)) :: R, t⟩) 0 ?_ ?_
  · refine ⟨_, ?_, take_all⟩
    simp [Env.put, Env.of, argEnv]
  rintro n vs S - ⟨rfl, rfl⟩
  refine W.block ?_
  refine W.seq_region fun K hK => ?_
  simp (disch := omega) only [↓RU, RV, RH, ↓reduceIte, Nat.reduceEqDiff, reduceCtorEq, if_pos, w64, ↓RS, RG, Nat.reduceAdd, Nat.reduceMul, Nat.reduceLeDiff, tyint, gF, setF]
  refine hK _ _ ?_
  clear hK K
  refine W.seq ?_
  refine W.seq_region fun K hK => ?_
  simp (disch := omega) only [↓RU, RV, RH, ↓reduceIte, Nat.reduceEqDiff, reduceCtorEq, if_pos, w64, ↓RS, RG, Nat.reduceAdd, Nat.reduceMul, Nat.reduceLeDiff, tyint, gF, setF]
  refine hK _ _ ?_
  clear hK K
  refine W.cond rfl (fun h => ?_) (fun h => ?_)
  · try simp only [RL] at h
    refine W.seq_region fun K hK => ?_
    simp (disch := omega) only [↓RU, RV, RH, ↓reduceIte, Nat.reduceEqDiff, reduceCtorEq, if_pos, List.append_nil, ↓RS, RG, Nat.reduceAdd, Nat.reduceMul, Nat.reduceLeDiff, gF, setF]
    refine CallR.ev (insort_ev (by omega) h1) ?_
    rintro _ _ ⟨rfl, z, hz1, hz2, rfl⟩
    simp (disch := omega) only [↓RU, RV, RH, ↓reduceIte, Nat.reduceEqDiff, reduceCtorEq, if_pos, List.append_nil, ↓RS, RG, Nat.reduceAdd, Nat.reduceMul, Nat.reduceLeDiff, gF, setF]
    refine hK _ _ ?_
    clear hK K
    refine W.ret ?_
    refine XThen.ret ?_
    refine XBlock.ret ?_
    refine XThen.ret ?_
    refine XBlock.ret ?_
    refine BodyQ.ret rfl ?_
    exact ⟨_, rfl, z, hz1, hz2, take_all⟩
  · try simp only [RL] at h
    exact absurd (show (l.length : Int) ≤ 12 by omega) h

theorem sort_ev {F R : List Ob} {ver t : Nat} {l : List Int} (hl : l.length = 4) : Ev Tryz.prog 173 [.loc F.length ver 0 l.length] ⟨F ++ .arr ver 3 1 (l.map (.int .i64)) :: R, t⟩ fun v S => v = .tup [] ∧ ∃ z : List Int, z.Perm l ∧ z.Pairwise (· ≤ ·) ∧ S = ⟨F ++ .arr ver 3 1 (z.map (.int .i64)) :: R, t⟩ := by
  have hw4 : IntKind.u64.wrap ((l.length : Nat) : Int) = 4 := by rw [hl]; rfl
  refine Ev.of ⟨Tryz.func173, by kernel_rfl, rfl, by kernel_rfl⟩ tabOk mixed (by show 1 ≤ Tryz.f173.ntmps; decide) ?_
  refine W.seq_region fun K hK => ?_
  simp (disch := omega) only [↓RU, RV, RH, ↓reduceIte, Nat.reduceEqDiff, reduceCtorEq, if_pos, ↓RS, RG, Nat.reduceAdd, Nat.reduceMul, Nat.reduceLeDiff, tyLint, tyint, gF, setF]
  refine hK _ _ ?_
  clear hK K
  refine W.region_k fun K hK => ?_
  simp (disch := omega) only [↓RU, RV, RH, ↓reduceIte, Nat.reduceEqDiff, reduceCtorEq, if_pos, w64, List.append_nil, ↓RS, RG, Nat.reduceAdd, Nat.reduceMul, Nat.reduceLeDiff, tyint, tyuint, gF, setF, hw4]
  refine CallR.pc (len_pc) rfl (.inl rfl) ?_
  simp (disch := omega) only [↓RU, RV, RH, ↓reduceIte, Nat.reduceEqDiff, reduceCtorEq, if_pos, w64, List.append_nil, ↓RS, RG, Nat.reduceAdd, Nat.reduceMul, Nat.reduceLeDiff, tyint, tyuint, gF, setF, hw4]
  refine CallR.ev (pdq_ev (by omega) (by omega) 3) ?_
  rintro _ _ ⟨rfl, z, hz1, hz2, rfl⟩
  simp (disch := omega) only [↓RU, RV, RH, ↓reduceIte, Nat.reduceEqDiff, reduceCtorEq, if_pos, w64, List.append_nil, ↓RS, RG, Nat.reduceAdd, Nat.reduceMul, Nat.reduceLeDiff, tyint, tyuint, gF, setF, hw4]
  refine hK _ _ ?_
  clear hK K
  refine BodyQ.norm rfl ?_
  exact ⟨_, rfl, z, hz1, hz2, take_all⟩

end Fw
end Go.Proofs.YtcglmbijpjhbmaaGreat

/-! How many rooms meet at the points of a grid of the program. -/
namespace Go.Proofs.YtcglmbijpjhbmaaGreat
namespace Fw
open Go

/-- How many numbers differ. -/
def dn : List Int → Nat
  | [] => 0
  | a :: l => (if a ∈ l then 0 else 1) + dn l
theorem dn_of : ∀ {m l : List Int}, l.Nodup → (∀ x, x ∈ l ↔ x ∈ m) → l.length = dn m
  | [], l, _, h => by
    cases l with
    | nil => rfl
    | cons a l => exact absurd ((h a).1 (by simp)) (by simp)
  | a :: m, l, hn, h => by
    unfold dn
    by_cases ha : a ∈ m
    · rw [if_pos ha, dn_of (m := m) hn fun x => ?_]; · omega
      rw [h x, List.mem_cons]
      constructor
      · rintro (rfl | h)
        · exact ha
        · exact h
      · exact .inr
    · have hal : a ∈ l := (h a).2 (by simp)
      have hl := List.length_erase_of_mem hal
      have h0 := List.length_pos_of_mem hal
      rw [if_neg ha, ← dn_of (m := m) (l := l.erase a) (hn.erase a) fun x => ?_]
      · omega
      · rw [hn.mem_erase_iff, h x, List.mem_cons]
        constructor
        · rintro ⟨h1, h2 | h2⟩
          · exact absurd h2 h1
          · exact h2
        · intro hx
          exact ⟨fun e => ha (e ▸ hx), .inr hx⟩
theorem mem_putL {l : List Int} {x y : Int} : y ∈ putL l x ↔ y ∈ l ∨ y = x := by
  unfold putL
  split
  · rename_i h
    constructor
    · exact .inl
    · rintro (h' | rfl)
      · exact h'
      · exact List.mem_of_getLast? h
  · simp
theorem ddp_sorted {z : List Int} (hz : z.Pairwise (· ≤ ·)) : ∀ p, p ≤ z.length → (ddp (z.take p)).Pairwise (· < ·) ∧ ∀ x, x ∈ ddp (z.take p) ↔ x ∈ z.take p
  | 0, _ => by simp [ddp]
  | p + 1, hp => by
    obtain ⟨x, hx, -⟩ := get_of (show p < z.length by omega)
    obtain ⟨h1, h2⟩ := ddp_sorted hz p (by omega)
    have hle : ∀ a ∈ z.take p, a ≤ x := by
      intro a ha
      obtain ⟨j, hj, rfl⟩ := List.mem_take_iff_getElem.1 ha
      obtain ⟨hp', rfl⟩ := List.getElem?_eq_some_iff.1 hx
      exact (List.pairwise_iff_getElem.1 hz) j p (by omega) hp' (by omega)
    rw [ddp_succ hx]
    constructor
    · unfold putL
      split
      · exact h1
      · rename_i hl
        rw [List.pairwise_append]
        refine ⟨h1, by simp, ?_⟩
        intro a ha b hb
        rw [List.mem_singleton] at hb
        subst hb
        have ha' := (h2 a).1 ha
        by_cases hp0 : p = 0
        · subst hp0; simp at ha'
        · obtain ⟨y, hy, -⟩ := get_of (show p - 1 < z.length by omega)
          have hlast := ddp_last hy
          rw [show p - 1 + 1 = p by omega] at hlast
          have hyb : y ≠ b := fun e => hl (e ▸ hlast)
          have hyl : y ≤ b := hle y ((h2 y).1 (List.mem_of_getLast? hlast))
          have : a ≤ y := by
            obtain ⟨j, hj, rfl⟩ := List.mem_take_iff_getElem.1 ha'
            obtain ⟨hp', rfl⟩ := List.getElem?_eq_some_iff.1 hy
            by_cases e : j = p - 1
            · subst e; exact Int.le_refl _
            · exact (List.pairwise_iff_getElem.1 hz) j (p - 1) (by omega) hp' (by omega)
          omega
    · intro y
      rw [mem_putL, h2 y, tk hx]
      simp
theorem ddp_dn {l z : List Int} (hp : z.Perm l) (hz : z.Pairwise (· ≤ ·)) : (ddp z).length = dn l := by
  have h := ddp_sorted hz z.length (Nat.le_refl _)
  rw [List.take_length] at h
  refine dn_of (h.1.imp fun h => Int.ne_of_lt h) fun x => ?_
  rw [h.2 x]
  exact hp.mem_iff

def four (g : List (List Int)) (i k : Nat) : List Int := [gz g (i - 1) (k - 1), gz g (i - 1) k, gz g i (k - 1), gz g i k]
def ptsRowG (g : List (List Int)) (many : Int) (i : Nat) : Nat → Int
  | 0 => 0
  | k + 1 => ptsRowG g many i k + if 1 ≤ k ∧ ((dn (four g i k) : Nat) : Int) = many then 1 else 0
def ptsG (g : List (List Int)) (many : Int) (w : Nat) : Nat → Int
  | 0 => 0
  | i + 1 => ptsG g many w i + if 1 ≤ i then ptsRowG g many i w else 0
theorem ptsRowG_bound (g : List (List Int)) (many : Int) (i : Nat) : ∀ k, 0 ≤ ptsRowG g many i k ∧ ptsRowG g many i k ≤ k
  | 0 => by simp [ptsRowG]
  | k + 1 => by have := ptsRowG_bound g many i k; unfold ptsRowG; split <;> omega
theorem ptsG_bound (g : List (List Int)) (many : Int) {w : Nat} (hw : w ≤ 6) : ∀ i, 0 ≤ ptsG g many w i ∧ ptsG g many w i ≤ 6 * i
  | 0 => by simp [ptsG]
  | i + 1 => by have := ptsG_bound g many hw i; have := ptsRowG_bound g many i w; unfold ptsG; split <;> omega
theorem ptsG_one {g : List (List Int)} {many : Int} {w : Nat} : ptsG g many w 1 = 0 := by simp [ptsG]
theorem ptsRowG_one {g : List (List Int)} {many : Int} {i : Nat} : ptsRowG g many i 1 = 0 := by simp [ptsRowG]
theorem ptsG_succ {g : List (List Int)} {many : Int} {w i : Nat} (h : 1 ≤ i) : ptsG g many w (i + 1) = ptsG g many w i + ptsRowG g many i w := by simp [ptsG, h]
theorem ptsRowG_hit {g : List (List Int)} {many : Int} {i k : Nat} (h : 1 ≤ k) (e : ((dn (four g i k) : Nat) : Int) = many) : ptsRowG g many i (k + 1) = ptsRowG g many i k + 1 := by simp [ptsRowG, h, e]
theorem ptsRowG_miss {g : List (List Int)} {many : Int} {i k : Nat} (e : ¬ ((dn (four g i k) : Nat) : Int) = many) : ptsRowG g many i (k + 1) = ptsRowG g many i k := by simp [ptsRowG, e]
end Fw
end Go.Proofs.YtcglmbijpjhbmaaGreat

/-! The text of a grid. -/
namespace Go.Proofs.YtcglmbijpjhbmaaGreat
namespace Fw
open Go

def letZ (z : Int) : UInt8 := UInt8.ofNat (97 + z.toNat)
def rowT (row : List Int) : Txt := row.map letZ
def textG (g : List (List Int)) : List Txt := g.map rowT
theorem u8_let {z : Int} (h : 0 ≤ z) : IntKind.u8.wrap (97 + z) = ((letZ z).toNat : Int) := by
  obtain ⟨n, rfl⟩ := Int.eq_ofNat_of_zero_le h
  exact u8_97
/-- A list of texts and a builder. -/
def stB (o : List Txt) (vo vb : Nat) (l : Txt) (vq t : Nat) : Store :=
  match l with
  | [] => ⟨[.arr vo 9 1 (o.map .str), .arr vb 139 2 [.nilp, .nils]], t⟩
  | l => ⟨[.arr vo 9 1 (o.map .str), .arr vb 139 2 [.ref 1 vb 0, .loc 2 vq 0 l.length], .arr vq 5 1 (l.map eB)], t⟩
theorem stB_ne {o : List Txt} {vo vb : Nat} {l : Txt} {vq t : Nat} (h : l ≠ []) : stB o vo vb l vq t = ⟨[.arr vo 9 1 (o.map .str), .arr vb 139 2 [.ref 1 vb 0, .loc 2 vq 0 l.length], .arr vq 5 1 (l.map eB)], t⟩ := by
  cases l with
  | nil => exact absurd rfl h
  | cons a l => rfl
theorem rn_strs {S : Store} {k f : Nat} {sel : List Nat} (o : List Txt) : (o.map PV.str).mapM (rn S k sel (f + 1)) = some (o.map PV.str) := rn_scal (by simp [scal])
theorem reify_txts {S : Store} {im : Bool} {f : Nat} (o : List Txt) : (o.map PV.str).mapM (reify S im (f + 1)) = some (o.map PV.str) := reify_scal (by simp [scal])
theorem rowT_len (row : List Int) : (rowT row).length = row.length := by simp [rowT]
theorem rowT_ne {row : List Int} (h : 1 ≤ row.length) : rowT row ≠ [] := by
  intro e
  have := rowT_len row
  rw [e] at this
  simp at this; omega
theorem rowT_succ {row : List Int} {k : Nat} {z : Int} (h : row[k]? = some z) : rowT (row.take (k + 1)) = rowT (row.take k) ++ [letZ z] := by simp [rowT, tk h]
theorem text_done {g : List (List Int)} {o : List Txt} (hl : o.length = g.length) (h : ∀ j, j < g.length → o[j]? = (textG g)[j]?) : o = textG g := by
  refine List.ext_getElem? fun j => ?_
  by_cases hj : j < g.length
  · exact h j hj
  · rw [List.getElem?_eq_none (by omega), List.getElem?_eq_none (by simp [textG]; omega)]
theorem textG_at {g : List (List Int)} {j : Nat} {row : List Int} (h : g[j]? = some row) : (textG g)[j]? = some (rowT row) := by simp [textG, h]
end Fw
end Go.Proofs.YtcglmbijpjhbmaaGreat

/-! How the program numbers rooms and finds the rectangles around them. -/
namespace Go.Proofs.YtcglmbijpjhbmaaGreat
namespace Fw
open Go

/-- The entries of a map that numbers keys as they came. -/
def mE (ks : List Int) : List (PV × PV) := ks.zipIdx.map fun q => (.int .i64 q.1, .int .i64 ((q.2 : Nat) : Int))
theorem mE_len (ks : List Int) : (mE ks).length = ks.length := by simp [mE]
theorem mE_app (ks : List Int) (z : Int) : mE (ks ++ [z]) = mE ks ++ [(.int .i64 z, .int .i64 ((ks.length : Nat) : Int))] := by simp [mE, List.zipIdx_append]
theorem sameKey_int {q : IntKind} {a b : Int} : sameKey (.int q a) (.int q b) = some (decide (a = b)) := by
  simp only [sameKey]
  by_cases h : a = b <;> simp [h]
theorem findKey_go {z : Int} : ∀ (ks : List Int) (i : Nat), findKey (.int .i64 z) ((ks.zipIdx i).map fun q => (PV.int .i64 q.1, PV.int .i64 ((q.2 : Nat) : Int))) i = some (if ks.idxOf z = ks.length then none else some (i + ks.idxOf z, .int .i64 ((i + ks.idxOf z : Nat) : Int)))
  | [], i => by simp [findKey]
  | a :: ks, i => by
    simp only [List.zipIdx_cons, List.map_cons, findKey, sameKey_int]
    by_cases h : z = a
    · subst h
      simp [List.idxOf_cons]
    · have h' : (a == z) = false := by simpa using Ne.symm h
      have := findKey_go (z := z) ks (i + 1)
      simp only [h, decide_false]
      rw [this, List.idxOf_cons, h']
      simp only [cond_false, List.length_cons, Nat.add_right_cancel_iff]
      have e : i + 1 + ks.idxOf z = i + (ks.idxOf z + 1) := by omega
      rw [e]
theorem findKey_none {ks : List Int} {z : Int} (h : ks.idxOf z = ks.length) : findKey (.int .i64 z) (mE ks) 0 = some none := by
  rw [mE, findKey_go, if_pos h]
theorem findKey_some {ks : List Int} {z : Int} (h : ¬ ks.idxOf z = ks.length) : findKey (.int .i64 z) (mE ks) 0 = some (some (ks.idxOf z, .int .i64 ((ks.idxOf z : Nat) : Int))) := by
  rw [mE, findKey_go, if_neg h]; simp

/-- A rectangle of a grid. -/
def Rect.Fit (b : Rect) : Prop := 0 ≤ b.row ∧ 0 ≤ b.col ∧ 1 ≤ b.high ∧ 1 ≤ b.wide ∧ b.row + b.high ≤ 6 ∧ b.col + b.wide ≤ 6
theorem Rect.Fit.in_ {b : Rect} (h : b.Fit) : b.In 1000 := by unfold Rect.Fit at h; unfold Rect.In; omega
theorem Rect.Fit.both {b o : Rect} (h : b.Fit) (k : o.Fit) : (b.both o).Fit := by
  unfold Rect.Fit at *
  simp only [Rect.both]
  omega
def oneR (r c : Nat) : Rect := ⟨r, c, 1, 1⟩
theorem oneR_fit {r c : Nat} (hr : r < 6) (hc : c < 6) : (oneR r c).Fit := by unfold Rect.Fit oneR; simp only; omega
theorem oneR_cells {r c : Nat} : (oneR r c).cells = [.int .i64 r, .int .i64 c, .int .i64 1, .int .i64 1] := rfl

def seKs (ks : List Int) (z : Int) : List Int := if ks.idxOf z = ks.length then ks ++ [z] else ks
def seIn (ks : List Int) (rs : List Rect) (z : Int) (q : Rect) : List Rect := if ks.idxOf z = ks.length then rs ++ [q] else rs
def seRs (ks : List Int) (rs : List Rect) (z : Int) (q : Rect) : List Rect := (seIn ks rs z q).set (ks.idxOf z) (((seIn ks rs z q).getD (ks.idxOf z) q).both q)
def SeOk (ks : List Int) (rs : List Rect) : Prop := rs.length = ks.length ∧ ∀ b ∈ rs, b.Fit
theorem SeOk.nil : SeOk [] [] := ⟨rfl, by simp⟩
theorem idxOf_le {ks : List Int} {z : Int} : ks.idxOf z ≤ ks.length := List.idxOf_le_length
theorem SeOk.in_ {ks : List Int} {rs : List Rect} (h : SeOk ks rs) {z : Int} {q : Rect} (hq : q.Fit) : (seIn ks rs z q).length = (seKs ks z).length ∧ (∀ b ∈ seIn ks rs z q, b.Fit) ∧ ∃ b, (seIn ks rs z q)[ks.idxOf z]? = some b ∧ b.Fit := by
  have h1 := h.1
  have h2 := idxOf_le (ks := ks) (z := z)
  have hf : ∀ b ∈ seIn ks rs z q, b.Fit := by
    unfold seIn
    split
    · intro b hb
      rcases List.mem_append.1 hb with hb | hb
      · exact h.2 b hb
      · rw [List.mem_singleton] at hb; subst hb; exact hq
    · exact h.2
  have hl : (seIn ks rs z q).length = (seKs ks z).length := by
    unfold seIn seKs; split <;> simp [h1]
  refine ⟨hl, hf, ?_⟩
  obtain ⟨b, hb, hm⟩ := get_of (show ks.idxOf z < (seIn ks rs z q).length by rw [hl]; unfold seKs; split <;> (try rw [List.length_append, List.length_singleton]) <;> omega)
  exact ⟨b, hb, hf b hm⟩
theorem SeOk.step {ks : List Int} {rs : List Rect} (h : SeOk ks rs) {z : Int} {q : Rect} (hq : q.Fit) : SeOk (seKs ks z) (seRs ks rs z q) := by
  obtain ⟨h1, h2, b, hb, hbf⟩ := h.in_ (z := z) hq
  refine ⟨by rw [seRs, List.length_set, h1], fun c hc => ?_⟩
  unfold seRs at hc
  rcases List.mem_or_eq_of_mem_set hc with hc | rfl
  · exact h2 c hc
  · rw [List.getD_eq_getElem?_getD, hb]; exact hbf.both hq
theorem seRs_is {ks : List Int} {rs : List Rect} {z : Int} {q b : Rect} (hb : (seIn ks rs z q)[ks.idxOf z]? = some b) : seRs ks rs z q = (seIn ks rs z q).set (ks.idxOf z) (b.both q) := by
  rw [seRs, List.getD_eq_getElem?_getD, hb]; rfl
theorem rcs_set4 {rs : List Rect} {n : Nat} {r : Rect} (h : n < rs.length) : (rcs rs).take (n * 4) ++ r.cells ++ (rcs rs).drop (n * 4 + 4) = rcs (rs.set n r) := rcs_set h
theorem rn_mE {S : Store} {k f : Nat} {sel : List Nat} (ks : List Int) : ((mE ks).mapM fun q => (rn S k sel (f + 1) q.1).bind fun a => (rn S k sel (f + 1) q.2).map fun b => (a, b)) = some (mE ks) := by
  have : ∀ l : List (PV × PV), (∀ q ∈ l, ∃ a b : Int, q = (.int .i64 a, .int .i64 b)) → (l.mapM fun q => (rn S k sel (f + 1) q.1).bind fun a => (rn S k sel (f + 1) q.2).map fun b => (a, b)) = some l := by
    intro l
    induction l with
    | nil => intro _; rfl
    | cons q l ih =>
      intro h
      obtain ⟨a, b, rfl⟩ := h q (by simp)
      rw [List.mapM_cons, ih fun x hx => h x (by simp [hx])]
      rfl
  refine this _ fun q hq => ?_
  obtain ⟨a, _, rfl⟩ := List.mem_map.1 hq
  exact ⟨_, _, rfl⟩
theorem rn_rcs {S : Store} {k f : Nat} {sel : List Nat} (rs : List Rect) : (rcs rs).mapM (rn S k sel (f + 1)) = some (rcs rs) := rn_scal (scal_rcs rs)
theorem pp_load {T : Tab} {S : Store} {e : Env} {t : TypeId} {x : Operand} : pPure T S e (.load t x) = pLoad (T t) S (e.ev x) := rfl
theorem pp_nil {T : Tab} {S : Store} {e : Env} {x : Operand} : pPure T S e (.nilCheck x) = pNilCheck S (e.ev x) := rfl
theorem pp_fa {T : Tab} {S : Store} {e : Env} {t : TypeId} {x : Operand} {f : Nat} : pPure T S e (.fieldAddr t x f) = pFieldAddr T S t (e.ev x) f := rfl
theorem pp_ia {T : Tab} {S : Store} {e : Env} {t : TypeId} {x i : Operand} : pPure T S e (.indexAddr t x i) = pIndexAddr T S t (e.ev x) (e.ev i) := rfl
theorem rcs_one {r : Rect} : rcs [r] = r.cells := by simp [rcs]
theorem rcs_tk {rs : List Rect} : (rcs rs).take (rs.length * 4) = rcs rs := by rw [← rcs_len, List.take_length]
theorem rcell_len {r : Rect} : r.cells.length = 4 := rfl
theorem rcell_all {r : Rect} : allCells r.cells = True := eq_true (by intro p hp; simp [Rect.cells] at hp; rcases hp with rfl | rfl | rfl | rfl <;> rfl)
/-- The cells of a grid that is being made. -/
def gcs (d : List (List Int)) (cur : PV) (m : Nat) : List PV := d.map eInts ++ cur :: List.replicate m .nils
theorem rn_gcs {S : Store} {k f : Nat} {sel : List Nat} {d : List (List Int)} {cur cur2 : PV} {m : Nat} (h : rn S k sel (f + 1) cur = some cur2) : (gcs d cur m).mapM (rn S k sel (f + 1)) = some (gcs d cur2 m) := by
  unfold gcs
  rw [List.mapM_append, mapM_same (l := d.map eInts) (fun x hx => by obtain ⟨a, _, rfl⟩ := List.mem_map.1 hx; rfl), List.mapM_cons, h, mapM_same (l := List.replicate m PV.nils) (fun x hx => by obtain rfl := List.eq_of_mem_replicate hx; rfl)]
  rfl
end Fw
end Go.Proofs.YtcglmbijpjhbmaaGreat

/-! The numbering of all rooms of a grid. -/
namespace Go.Proofs.YtcglmbijpjhbmaaGreat
namespace Fw
open Go

def prS (g : List (List Int)) (w : Nat) (rv : PV) (ks : List Int) : List Ob := [.arr 0 84 1 [eGrid g], .arr 1 3 1 [.int .i64 w], .arr 2 87 2 [.nils, rv], .arr 3 55 1 [.ref 2 2 0], .map 4 (mE ks), .arr 5 158 1 [.mp 4 4]]
/-- The store while a row is being filled. -/
def seS (g : List (List Int)) (w : Nat) (xv yv : Nat) (x y : List PV) (ks : List Int) (rs : List Rect) (vq t : Nat) : Store :=
  match rs with
  | [] => ⟨prS g w .nils ks ++ [.arr xv 24 1 x, .arr yv 3 1 y], t⟩
  | rs => ⟨prS g w (.loc 8 vq 0 rs.length) ks ++ [.arr xv 24 1 x, .arr yv 3 1 y, .arr vq 161 4 (rcs rs)], t⟩
theorem seS_nil {g : List (List Int)} {w xv yv : Nat} {x y : List PV} {ks : List Int} {vq t : Nat} : seS g w xv yv x y ks [] vq t = ⟨prS g w .nils ks ++ [.arr xv 24 1 x, .arr yv 3 1 y], t⟩ := rfl
theorem seS_ne {g : List (List Int)} {w xv yv : Nat} {x y : List PV} {ks : List Int} {rs : List Rect} {vq t : Nat} (h : rs ≠ []) : seS g w xv yv x y ks rs vq t = ⟨prS g w (.loc 8 vq 0 rs.length) ks ++ [.arr xv 24 1 x, .arr yv 3 1 y, .arr vq 161 4 (rcs rs)], t⟩ := by
  cases rs with
  | nil => exact absurd rfl h
  | cons a l => rfl
section
variable {g : List (List Int)} {w xv yv : Nat} {x y y2 : List PV} {ks : List Int} {rs : List Rect} {vq t : Nat}
theorem seS_get6 : (seS g w xv yv x y ks rs vq t).obs[6]? = some (.arr xv 24 1 x) := by cases rs <;> rfl
theorem seS_get7 : (seS g w xv yv x y ks rs vq t).obs[7]? = some (.arr yv 3 1 y) := by cases rs <;> rfl
theorem seS_upd : (seS g w xv yv x y ks rs vq t).set 7 (.arr yv 3 1 y2) = seS g w xv yv x y2 ks rs vq t := by cases rs <;> rfl
end
theorem rn_rep {S : Store} {k f : Nat} {sel : List Nat} {n : Nat} {q : IntKind} {z : Int} : (List.replicate n (PV.int q z)).mapM (rn S k sel (f + 1)) = some (List.replicate n (PV.int q z)) :=
  mapM_same fun x hx => by obtain rfl := List.eq_of_mem_replicate hx; rfl
theorem rn_nilsr {S : Store} {k f : Nat} {sel : List Nat} {n : Nat} : (List.replicate n PV.nils).mapM (rn S k sel (f + 1)) = some (List.replicate n PV.nils) :=
  mapM_same fun x hx => by obtain rfl := List.eq_of_mem_replicate hx; rfl
theorem rn_gcs2 {S : Store} {k f : Nat} {sel : List Nat} {d : List (List Int)} {cur : PV} {m : Nat} : (gcs d cur m).mapM (rn S k sel (f + 1)) = (rn S k sel (f + 1) cur).map fun c => gcs d c m := by
  unfold gcs
  rw [List.mapM_append, mapM_same (l := d.map eInts) (fun x hx => by obtain ⟨a, _, rfl⟩ := List.mem_map.1 hx; rfl), List.mapM_cons, mapM_same (l := List.replicate m PV.nils) (fun x hx => by obtain rfl := List.eq_of_mem_replicate hx; rfl)]
  cases rn S k sel (f + 1) cur <;> rfl
theorem rfq_ints {S : Store} {fr : Nat → Bool} {f : Nat} {q : IntKind} (l : List Int) : (l.map (PV.int q)).mapM (rfq S fr (f + 1)) = some (l.map (PV.int q)) :=
  mapM_same fun x hx => by obtain ⟨a, _, rfl⟩ := List.mem_map.1 hx; rfl
/-- The store between rows. -/
def seO (g : List (List Int)) (w : Nat) (xv : Nat) (x : List PV) (ks : List Int) (rs : List Rect) (vq t : Nat) : Store :=
  match rs with
  | [] => ⟨prS g w .nils ks ++ [.arr xv 24 1 x], t⟩
  | rs => ⟨prS g w (.loc 7 vq 0 rs.length) ks ++ [.arr xv 24 1 x, .arr vq 161 4 (rcs rs)], t⟩
theorem seO_nil {g : List (List Int)} {w xv : Nat} {x : List PV} {ks : List Int} {vq t : Nat} : seO g w xv x ks [] vq t = ⟨prS g w .nils ks ++ [.arr xv 24 1 x], t⟩ := rfl
theorem seO_ne {g : List (List Int)} {w xv : Nat} {x : List PV} {ks : List Int} {rs : List Rect} {vq t : Nat} (h : rs ≠ []) : seO g w xv x ks rs vq t = ⟨prS g w (.loc 7 vq 0 rs.length) ks ++ [.arr xv 24 1 x, .arr vq 161 4 (rcs rs)], t⟩ := by
  cases rs with
  | nil => exact absurd rfl h
  | cons a l => rfl

def seRow (g : List (List Int)) (i : Nat) (s : List Int × List Rect) : Nat → List Int × List Rect
  | 0 => s
  | j + 1 => (seKs (seRow g i s j).1 (gz g i j), seRs (seRow g i s j).1 (seRow g i s j).2 (gz g i j) (oneR i j))
def seRows (g : List (List Int)) (nw : Nat) : Nat → List Int × List Rect
  | 0 => ([], [])
  | i + 1 => seRow g i (seRows g nw i) nw
/-- The numbers of a row. -/
def zRow (g : List (List Int)) (i : Nat) (s : List Int × List Rect) : Nat → List Int
  | 0 => []
  | j + 1 => zRow g i s j ++ [(((seRow g i s j).1.idxOf (gz g i j) : Nat) : Int)]
def zRows (g : List (List Int)) (nw : Nat) : Nat → List (List Int)
  | 0 => []
  | i + 1 => zRows g nw i ++ [zRow g i (seRows g nw i) nw]
theorem zRow_len {g : List (List Int)} {i : Nat} {s : List Int × List Rect} : ∀ j, (zRow g i s j).length = j
  | 0 => rfl
  | j + 1 => by simp [zRow, zRow_len j]
theorem zRow_set {g : List (List Int)} {i nw j : Nat} {s : List Int × List Rect} (h : j < nw) : zRow g i s (j + 1) ++ List.replicate (nw - (j + 1)) 0 = (zRow g i s j ++ List.replicate (nw - j) 0).set j (((seRow g i s j).1.idxOf (gz g i j) : Nat) : Int) := by
  obtain ⟨m, hm⟩ : ∃ m, nw - j = m + 1 := ⟨nw - j - 1, by omega⟩
  rw [hm, show nw - (j + 1) = m by omega, List.set_append_right _ _ (by rw [zRow_len]; exact Nat.le_refl _), zRow_len, Nat.sub_self]
  simp [zRow, List.replicate_succ]
theorem zRows_len {g : List (List Int)} {nw : Nat} : ∀ i, (zRows g nw i).length = i
  | 0 => rfl
  | i + 1 => by simp [zRows, zRows_len i]
theorem seKs_len {ks : List Int} {z : Int} : (seKs ks z).length ≤ ks.length + 1 ∧ ks.length ≤ (seKs ks z).length ∧ 1 ≤ (seKs ks z).length := by
  have h := idxOf_le (ks := ks) (z := z)
  unfold seKs
  split
  · simp
  · refine ⟨by omega, by omega, ?_⟩
    have : ks.idxOf z ≠ ks.length := by assumption
    omega
theorem seRow_ok {g : List (List Int)} {i : Nat} (hi : i < 6) {s : List Int × List Rect} (h : SeOk s.1 s.2) : ∀ j, j ≤ 6 → SeOk (seRow g i s j).1 (seRow g i s j).2 ∧ (seRow g i s j).1.length ≤ s.1.length + j ∧ s.1.length ≤ (seRow g i s j).1.length ∧ (1 ≤ j → 1 ≤ (seRow g i s j).1.length)
  | 0, _ => ⟨h, by simp [seRow], by simp [seRow], by omega⟩
  | j + 1, hj => by
    obtain ⟨h1, h2, h3, h4⟩ := seRow_ok hi h j (by omega)
    have := seKs_len (ks := (seRow g i s j).1) (z := gz g i j)
    exact ⟨h1.step (oneR_fit hi (by omega)), by simp only [seRow]; omega, by simp only [seRow]; omega, fun _ => by simp only [seRow]; omega⟩
theorem seRows_ok {g : List (List Int)} {nw : Nat} (hw : nw ≤ 6) (hw1 : 1 ≤ nw) : ∀ i, i ≤ 6 → SeOk (seRows g nw i).1 (seRows g nw i).2 ∧ (seRows g nw i).1.length ≤ 6 * i ∧ (1 ≤ i → 1 ≤ (seRows g nw i).1.length)
  | 0, _ => ⟨SeOk.nil, by simp [seRows], by omega⟩
  | i + 1, hi => by
    obtain ⟨h1, h2, h3⟩ := seRows_ok hw hw1 i (by omega)
    obtain ⟨k1, k2, k3, k4⟩ := seRow_ok (g := g) (i := i) (by omega) h1 nw hw
    exact ⟨k1, by simp only [seRows]; omega, fun _ => by simp only [seRows]; exact k4 hw1⟩
theorem SeOk.ne {ks : List Int} {rs : List Rect} (h : SeOk ks rs) (h1 : 1 ≤ ks.length) : rs ≠ [] := by
  rintro rfl
  have := h.1
  simp at this; omega
theorem SeOk.nl {ks : List Int} (h : SeOk ks []) : ks = [] := List.eq_nil_of_length_eq_zero h.1.symm
theorem gcs_get {d : List (List Int)} {cur : PV} {m i : Nat} (h : d.length = i) : (gcs d cur m)[i]? = some cur := by subst h; simp [gcs]
theorem gcs_len {d : List (List Int)} {cur : PV} {m : Nat} : (gcs d cur m).length = d.length + 1 + m := by simp [gcs]; omega
/-- A grid whose last rows aren't made yet. -/
def gc0 (d : List (List Int)) (m : Nat) : List PV := d.map eInts ++ List.replicate m .nils
theorem gc0_len {d : List (List Int)} {m : Nat} : (gc0 d m).length = d.length + m := by simp [gc0]
theorem gc0_set {d : List (List Int)} {m i : Nat} {c : PV} (h : d.length = i) (hm : 1 ≤ m) : (gc0 d m).take i ++ [c] ++ (gc0 d m).drop (i + 1) = gcs d c (m - 1) := by
  subst h
  obtain ⟨m, rfl⟩ : ∃ n, m = n + 1 := ⟨m - 1, by omega⟩
  simp only [gc0, gcs, Nat.add_sub_cancel]
  rw [show d.length = (d.map eInts).length by simp, List.take_left, List.drop_length_add_append]
  simp [List.replicate_succ]
theorem gcs_gc0 {d : List (List Int)} {r : List Int} {m : Nat} : gcs d (eInts r) m = gc0 (d ++ [r]) m := by simp [gcs, gc0]
theorem gc0_all {d : List (List Int)} : gc0 d 0 = d.map eInts := by simp [gc0]
theorem gc0_nil {m : Nat} : gc0 [] m = List.replicate m .nils := rfl
end Fw
end Go.Proofs.YtcglmbijpjhbmaaGreat

/-! A plan of a grid, as the program finds it. -/
namespace Go.Proofs.YtcglmbijpjhbmaaGreat
namespace Fw
open Go

def w0 (g : List (List Int)) : Nat := (g[0]?.getD []).length
def okG (g : List (List Int)) : Bool := decide (1 ≤ g.length) && decide (g.length ≤ 6) && decide (1 ≤ w0 g) && decide (w0 g ≤ 6) && !(g.any fun r => decide ((r.length : Int) ≠ (w0 g : Nat)))
def stG (g : List (List Int)) : List Int × List Rect := seRows g (w0 g) g.length
def zG (g : List (List Int)) : List (List Int) := zRows g (w0 g) g.length
def sumA (rs : List Rect) : Int := rs.foldl (fun s b => s + b.high * b.wide) 0
def okS (g : List (List Int)) : Bool := okG g && decide ((stG g).2.length ≤ 9)
def fullG (g : List (List Int)) : Bool := decide (sumA (stG g).2 = ((g.length * w0 g : Nat) : Int))
def settledV (g : List (List Int)) : PV := if okS g then .tup [eFloor (zG g) (stG g).2, .bool (fullG g)] else .tup [.nilp, .bool false]

theorem w0_is {g : List (List Int)} {row : List Int} (h : g[0]? = some row) : w0 g = row.length := by simp [w0, h]
theorem okG_iff {g : List (List Int)} : okG g = true ↔ GW g g.length (w0 g) := by
  unfold okG GW
  simp only [Bool.and_eq_true, decide_eq_true_eq, Bool.not_eq_true', List.any_eq_false, decide_eq_true_eq, ne_eq, Decidable.not_not]
  constructor
  · rintro ⟨⟨⟨⟨h1, h2⟩, h3⟩, h4⟩, h5⟩
    exact ⟨trivial, fun r hr => by have := h5 r hr; omega, h1, h2, h3, h4⟩
  · rintro ⟨_, h5, h1, h2, h3, h4⟩
    exact ⟨⟨⟨⟨h1, h2⟩, h3⟩, h4⟩, fun r hr => by have := h5 r hr; omega⟩
theorem sumA_succ {rs : List Rect} {k : Nat} {b : Rect} (h : rs[k]? = some b) : sumA (rs.take (k + 1)) = sumA (rs.take k) + b.high * b.wide := by
  unfold sumA; rw [foldl_tk h]
theorem Rect.Fit.area {b : Rect} (h : b.Fit) : 1 ≤ b.high * b.wide ∧ b.high * b.wide ≤ 36 := by
  unfold Rect.Fit at h
  obtain ⟨h1, h2, h3, h4, h5, h6⟩ := h
  obtain ⟨m, hm⟩ : ∃ m : Nat, b.high = m := ⟨b.high.toNat, by omega⟩
  obtain ⟨n, hn⟩ : ∃ n : Nat, b.wide = n := ⟨b.wide.toNat, by omega⟩
  rw [hm, hn]
  have h7 := Nat.mul_le_mul (show m ≤ 6 by omega) (show n ≤ 6 by omega)
  have h8 := Nat.mul_le_mul (show 1 ≤ m by omega) (show 1 ≤ n by omega)
  have : ((m * n : Nat) : Int) = (m : Int) * n := by simp
  omega
theorem sumA_bound {rs : List Rect} (h : ∀ b ∈ rs, b.Fit) : ∀ k, 0 ≤ sumA (rs.take k) ∧ sumA (rs.take k) ≤ 36 * k
  | 0 => by simp [sumA]
  | k + 1 => by
    have ih := sumA_bound h k
    by_cases hk : k < rs.length
    · obtain ⟨b, hb, hm⟩ := get_of hk
      rw [sumA_succ hb]
      have := (h b hm).area
      omega
    · rw [List.take_of_length_le (by omega)] at ih ⊢
      omega
theorem zRows_at {g : List (List Int)} {nw : Nat} : ∀ {i k : Nat}, k < i → (zRows g nw i)[k]? = some (zRow g k (seRows g nw k) nw)
  | 0, k, h => by omega
  | i + 1, k, h => by
    unfold zRows
    by_cases e : k = i
    · subst e; rw [List.getElem?_append_right (by rw [zRows_len]; exact Nat.le_refl _), zRows_len]; simp
    · rw [List.getElem?_append_left (by rw [zRows_len]; omega)]; exact zRows_at (by omega)
theorem zG_ok {g : List (List Int)} {nh nw : Nat} (hg : GW g nh nw) : GW (zRows g nw nh) nh nw := by
  refine ⟨zRows_len _, fun r hr => ?_, hg.2.2⟩
  obtain ⟨k, hk⟩ := List.getElem?_of_mem hr
  have hkl := len_of hk
  rw [zRows_len] at hkl
  rw [zRows_at hkl] at hk
  cases hk
  exact zRow_len _
theorem reify_floor {S : Store} {xv vq nh f : Nat} {Z : List (List Int)} {rs : List Rect} (h2 : S.obs[2]? = some (.arr 2 87 2 [.loc 6 xv 0 nh, .loc 7 vq 0 rs.length])) (h6 : S.obs[6]? = some (.arr xv 24 1 (Z.map eInts))) (hZ : Z.length = nh)
    (h7 : S.obs[7]? = some (.arr vq 161 4 (rcs rs))) : reify S true (f + 4) (.ref 2 2 0) = some (eFloor Z rs) := by
  have e1 : reify S true (f + 3) (.loc 6 xv 0 nh) = some (eGrid Z) := by
    rw [← hZ]
    exact reify_loc (k := f + 2) h6 (by simp) (mapM_ints2 _)
  have e2 : reify S true (f + 3) (.loc 7 vq 0 rs.length) = some (eRects rs) := reify_loc (k := f + 2) h7 (rcs_len _) (reify_scal (scal_rcs _))
  have hc : S.cellsOf 2 2 = some [.loc 6 xv 0 nh, .loc 7 vq 0 rs.length] := by simp [Store.cellsOf, h2]
  have e0 : reify S true (f + 4) (.ref 2 2 0) = (S.cellsOf 2 2).bind fun cells => (cells.mapM (reify S true (f + 3))).map (.ip · 0) := rfl
  rw [e0, hc, Option.bind_some, List.mapM_cons, e1, List.mapM_cons, e2]
  rfl
end Fw
end Go.Proofs.YtcglmbijpjhbmaaGreat

/-! Plans that are read, in plain words. -/
namespace Go.Proofs.YtcglmbijpjhbmaaGreat
namespace Fw
open Go

def rowZ (t : Txt) : List Int := t.map fun c => (c.toNat : Int)
def readG (p : List Txt) : List (List Int) := p.map rowZ
def lettersB (p : List Txt) : Bool := p.all fun r => r.all letterB
def readV (p : List Txt) : PV := if lettersB p then settledV (readG p) else .tup [.nilp, .bool false]
def okB (p : List Txt) : Bool := lettersB p && okS (readG p)
def gP (p : List Txt) : List (List Int) := zG (readG p)
def rP (p : List Txt) : List Rect := (stG (readG p)).2
theorem rowZ_len (t : Txt) : (rowZ t).length = t.length := by simp [rowZ]
theorem rowZ_succ {t : Txt} {k : Nat} {c : UInt8} (h : t[k]? = some c) : rowZ (t.take (k + 1)) = rowZ (t.take k) ++ [(c.toNat : Int)] := by simp [rowZ, tk h]
theorem readG_succ {p : List Txt} {i : Nat} {t : Txt} (h : p[i]? = some t) : readG (p.take (i + 1)) = readG (p.take i) ++ [rowZ t] := by simp [readG, tk h]
theorem readG_len (p : List Txt) : (readG p).length = p.length := by simp [readG]
theorem letters_bad {p : List Txt} {r : Txt} {c : UInt8} (hr : r ∈ p) (hc : c ∈ r) (h : letterB c = false) : lettersB p = false := by
  unfold lettersB
  rw [List.all_eq_false]
  refine ⟨r, hr, ?_⟩
  rw [Bool.not_eq_true, List.all_eq_false]
  exact ⟨c, hc, by rw [h]; exact Bool.false_ne_true⟩
theorem zRow_bound {g : List (List Int)} {i : Nat} (hi : i < 6) {s : List Int × List Rect} (hs : SeOk s.1 s.2) {n : Nat} (hn : n ≤ 6) : ∀ j, j ≤ n → ∀ z ∈ zRow g i s j, 0 ≤ z ∧ z ≤ s.1.length + n
  | 0, _, z, h => by simp [zRow] at h
  | j + 1, hj, z, h => by
    simp only [zRow, List.mem_append, List.mem_singleton] at h
    rcases h with h | rfl
    · exact zRow_bound hi hs hn j (by omega) z h
    · have h1 := idxOf_le (ks := (seRow g i s j).1) (z := gz g i j)
      obtain ⟨-, h2, -, -⟩ := seRow_ok (g := g) hi hs j (by omega)
      omega
theorem zRows_bound {g : List (List Int)} {nw : Nat} (hw : nw ≤ 6) (hw1 : 1 ≤ nw) : ∀ i, i ≤ 6 → ∀ r ∈ zRows g nw i, ∀ z ∈ r, 0 ≤ z ∧ z ≤ 100
  | 0, _, r, h => by simp [zRows] at h
  | i + 1, hi, r, h => by
    simp only [zRows, List.mem_append, List.mem_singleton] at h
    rcases h with h | rfl
    · exact zRows_bound hw hw1 i (by omega) r h
    · intro z hz
      obtain ⟨h1, h2, -⟩ := seRows_ok (g := g) hw hw1 i (by omega)
      have := zRow_bound (g := g) (i := i) (by omega) h1 hw nw (Nat.le_refl _) z hz
      omega
theorem okS_gw {g : List (List Int)} (h : okS g = true) : GW g g.length (w0 g) := by
  unfold okS at h
  rw [Bool.and_eq_true] at h
  exact okG_iff.1 h.1
theorem zG_gw {g : List (List Int)} (h : okS g = true) : GW (zG g) g.length (w0 g) := zG_ok (okS_gw h)
theorem zG_bound {g : List (List Int)} (h : okS g = true) : ∀ r ∈ zG g, ∀ z ∈ r, 0 ≤ z ∧ z ≤ 100 := by
  obtain ⟨-, -, h1, h2, h3, h4⟩ := okS_gw h
  exact zRows_bound h4 h3 _ h2
theorem settledV_no {g : List (List Int)} (h : okS g = false) : settledV g = .tup [.nilp, .bool false] := by rw [settledV, h]; rfl
theorem settledV_yes {g : List (List Int)} (h : okS g = true) : settledV g = .tup [eFloor (zG g) (stG g).2, .bool (fullG g)] := by rw [settledV, h]; rfl
theorem rfz_eIntss {S : Store} {lo k : Nat} (l : List (List Int)) : (l.map eInts).mapM (rfz S lo (k + 1)) = some (l.map eInts) := rfz_map (fun _ => rfl) l
theorem readV_no {p : List Txt} (h : okB p = false) : readV p = .tup [.nilp, .bool false] := by
  unfold okB at h
  unfold readV
  cases hl : lettersB p with
  | false => rfl
  | true => rw [hl, Bool.true_and] at h; rw [if_pos rfl, settledV_no h]
theorem readV_yes {p : List Txt} (h : okB p = true) : readV p = .tup [eFloor (gP p) (rP p), .bool (fullG (readG p))] := by
  unfold okB at h
  rw [Bool.and_eq_true] at h
  rw [readV, if_pos h.1, settledV_yes h.2]
  rfl
theorem okB_gw {p : List Txt} (h : okB p = true) : GW (gP p) p.length (w0 (readG p)) := by
  unfold okB at h
  rw [Bool.and_eq_true] at h
  have := zG_gw h.2
  rwa [readG_len] at this
theorem okB_bound {p : List Txt} (h : okB p = true) : ∀ r ∈ gP p, ∀ z ∈ r, 0 ≤ z ∧ z ≤ 100 := by
  unfold okB at h
  rw [Bool.and_eq_true] at h
  exact zG_bound h.2
theorem textG_len (g : List (List Int)) : (textG g).length = g.length := by simp [textG]
def floorV (p : List Txt) : Bool := fullG (readG p) && decide (textG (gP p) = p)
def floorI (p : List Txt) : Bool := okB p && floorV p
def plainI (p : List Txt) : Bool := floorI p && decide (ptsG (gP p) 4 (w0 (readG p)) p.length = 0)
theorem okB_rooms {p : List Txt} (h : okB p = true) : (rP p).length ≤ 9 := by
  unfold okB okS at h
  simp only [Bool.and_eq_true, decide_eq_true_eq] at h
  exact h.2.2
theorem okB_rooms1 {p : List Txt} (h : okB p = true) : 1 ≤ (rP p).length := by
  unfold okB at h
  rw [Bool.and_eq_true] at h
  obtain ⟨-, -, h1, h2, h3, h4⟩ := okS_gw h.2
  obtain ⟨k1, -, k3⟩ := seRows_ok (g := readG p) h4 h3 _ h2
  have := k1.1
  have := k3 h1
  unfold rP stG
  omega
end Fw
end Go.Proofs.YtcglmbijpjhbmaaGreat

/-! The two closures of relations are the same. -/
namespace Go.Proofs.YtcglmbijpjhbmaaGreat
namespace Fw
open Go

/-- A list of lists and a list of sets that say the same. -/
def Same (n : Nat) (M : List (List Bool)) (ms : List Nat) : Prop := Sq n M ∧ ms.length = n ∧ ∀ a b, a < n → b < n → getB M a b = bitOf ms a b

theorem getB_setB {n : Nat} {M : List (List Bool)} (h : Sq n M) {a b x y : Nat} {v : Bool} (ha : a < n) (hb : b < n) : getB (setB M a b v) x y = if x = a ∧ y = b then v else getB M x y := by
  obtain ⟨row, hr, hl, -⟩ := h.at_ ha hb
  rw [setB_is hr]
  unfold getB
  rw [List.getElem?_set]
  by_cases hx : a = x
  · subst hx
    rw [if_pos rfl, if_pos (by rw [h.1]; exact ha), Option.getD_some, List.getElem?_set, hr]
    by_cases hy : b = y
    · subst hy
      rw [if_pos rfl, if_pos (by omega), if_pos ⟨rfl, rfl⟩]; rfl
    · rw [if_neg hy, if_neg (fun h => hy h.2.symm)]; rfl
  · rw [if_neg hx, if_neg (fun h => hx h.1.symm)]

/-- One row of the closure, place by place. -/
theorem clA_to {n : Nat} {M : List (List Bool)} (h : Sq n M) {k a : Nat} (hk : k < n) (ha : a < n) : ∀ i, i ≤ n → Sq n ((List.range i).foldl (clB k a) M) ∧
    ∀ x y, x < n → y < n → getB ((List.range i).foldl (clB k a) M) x y = if x = a ∧ y < i then getB M a y || (getB M a k && getB M k y) else getB M x y
  | 0, _ => ⟨h, fun x y _ _ => by simp⟩
  | i + 1, hi => by
    obtain ⟨h1, h2⟩ := clA_to h hk ha i (by omega)
    rw [foldl_rg]
    generalize (List.range i).foldl (clB k a) M = X at h1 h2 ⊢
    refine ⟨h1.clB ha, fun x y hx hy => ?_⟩
    unfold clB
    rw [getB_setB h1 ha (by omega), h2 a i ha (by omega), h2 a k ha hk, h2 k i hk (by omega), h2 x y hx hy]
    have e1 : (if a = a ∧ k < i then getB M a k || (getB M a k && getB M k k) else getB M a k) = getB M a k := by
      split
      · cases getB M a k <;> simp
      · rfl
    have e2 : (if k = a ∧ i < i then getB M a i || (getB M a k && getB M k i) else getB M k i) = getB M k i := by rw [if_neg (by omega)]
    have e3 : (if a = a ∧ i < i then getB M a i || (getB M a k && getB M k i) else getB M a i) = getB M a i := by rw [if_neg (by omega)]
    rw [e1, e2, e3]
    by_cases hxa : x = a
    · subst hxa
      by_cases hyi : y = i
      · subst hyi; rw [if_pos ⟨rfl, rfl⟩, if_pos ⟨rfl, by omega⟩]
      · rw [if_neg (fun h => hyi h.2)]
        by_cases hlt : y < i
        · rw [if_pos ⟨rfl, hlt⟩, if_pos ⟨rfl, by omega⟩]
        · rw [if_neg (fun h => hlt h.2), if_neg (fun h => hlt (by have := h.2; omega))]
    · rw [if_neg (fun h => hxa h.1), if_neg (fun h => hxa h.1), if_neg (fun h => hxa h.1)]
theorem bitOf_set {ms : List Nat} {a m x y : Nat} (ha : a < ms.length) : bitOf (ms.set a m) x y = if x = a then m.testBit y else bitOf ms x y := by
  unfold bitOf
  rw [List.getElem?_set]
  by_cases h : a = x
  · subst h; rw [if_pos rfl, if_pos ha, if_pos rfl]; rfl
  · rw [if_neg h, if_neg (Ne.symm h)]
theorem allA_len {c a : Nat} {ms : List Nat} : (allA c ms a).length = ms.length := by unfold allA; split <;> simp
theorem Same.clA {n : Nat} {M : List (List Bool)} {ms : List Nat} (h : Same n M ms) {k a : Nat} (hk : k < n) (ha : a < n) : Same n (clA n k M a) (allA k ms a) := by
  obtain ⟨h1, h2, h3⟩ := h
  obtain ⟨k1, k2⟩ := clA_to h1 hk ha n (Nat.le_refl _)
  refine ⟨k1, by rw [allA_len, h2], fun x y hx hy => ?_⟩
  unfold Fw.clA
  rw [k2 x y hx hy]
  obtain ⟨m, hm, -⟩ := get_of (show a < ms.length by omega)
  obtain ⟨c, hc, -⟩ := get_of (show k < ms.length by omega)
  have hak : getB M a k = m.testBit k := by rw [h3 a k ha hk, bitOf_is hm]
  cases hb : m.testBit k with
  | true =>
    rw [allA_yes hm hc hb, bitOf_set (by omega), hak, hb]
    by_cases hxa : x = a
    · subst hxa
      rw [if_pos ⟨rfl, hy⟩, if_pos rfl, Nat.testBit_or, h3 x y hx hy, h3 k y hk hy, bitOf_is hm, bitOf_is hc, Bool.true_and]
    · rw [if_neg (fun h => hxa h.1), if_neg hxa, h3 x y hx hy]
  | false =>
    rw [allA_no hm hb, hak, hb]
    by_cases hxa : x = a
    · subst hxa; rw [if_pos ⟨rfl, hy⟩, Bool.false_and, Bool.or_false, h3 x y hx hy]
    · rw [if_neg (fun h => hxa h.1), h3 x y hx hy]
theorem Same.fold {n : Nat} {f : List (List Bool) → Nat → List (List Bool)} {g : List Nat → Nat → List Nat} : ∀ (i : Nat) {M : List (List Bool)} {ms : List Nat}, i ≤ n → (∀ M ms j, j < n → Same n M ms → Same n (f M j) (g ms j)) → Same n M ms → Same n ((List.range i).foldl f M) ((List.range i).foldl g ms)
  | 0, _, _, _, _, h => h
  | i + 1, M, ms, hi, hs, h => by
    rw [foldl_rg, foldl_rg]
    exact hs _ _ i (by omega) (Same.fold i (by omega) hs h)
theorem Same.close {p : List Txt} {kind : Int} {n : Nat} {M : List (List Bool)} (h : Same n M (just p kind)) : Same n (closeM M) (allS p kind) := by
  unfold closeM allS
  rw [h.1.1, h.2.1]
  exact Same.fold n (Nat.le_refl _) (fun _ _ k hk h => Same.fold n (Nat.le_refl _) (fun _ _ a ha h => h.clA hk ha) h) h
end Fw
end Go.Proofs.YtcglmbijpjhbmaaGreat

/-! The heaviest sums and the least sizes are the same. -/
namespace Go.Proofs.YtcglmbijpjhbmaaGreat
namespace Fw
open Go

theorem count_lt {α : Type} {f g : α → Bool} : ∀ {l : List α}, (∀ x ∈ l, f x = true → g x = true) → (∃ x ∈ l, g x = true ∧ f x = false) → l.countP f < l.countP g
  | [], _, h => by obtain ⟨x, hx, _⟩ := h; simp at hx
  | a :: l, h1, h2 => by
    have hle : l.countP f ≤ l.countP g := List.countP_mono_left fun x hx => h1 x (by simp [hx])
    have ha := h1 a (by simp)
    rw [List.countP_cons, List.countP_cons]
    obtain ⟨x, hx, k1, k2⟩ := h2
    rcases List.mem_cons.1 hx with rfl | hx
    · rw [k1, k2]; simp; omega
    · have := count_lt (l := l) (fun x hx => h1 x (by simp [hx])) ⟨x, hx, k1, k2⟩
      cases hf : f a with
      | false => simp; omega
      | true => rw [ha hf]; simp; omega
/-- How many rooms stand ahead of a room. -/
def ahead (n : Nat) (rk : Nat → Nat) (b : Nat) : Nat := (List.range n).countP fun a => decide (rk a < rk b)
theorem ahead_lt {n : Nat} {rk : Nat → Nat} {a b : Nat} (ha : a < n) (h : rk a < rk b) : ahead n rk a < ahead n rk b :=
  count_lt (fun x _ hx => by simp at hx ⊢; omega) ⟨a, by simpa using ha, by simpa using h, by simp⟩
theorem ahead_n {n : Nat} {rk : Nat → Nat} {b : Nat} (hb : b < n) : ahead n rk b < n := by
  have := count_lt (l := List.range n) (f := fun a => decide (rk a < rk b)) (g := fun _ => true) (fun _ _ _ => rfl) ⟨b, by simpa using hb, rfl, by simp⟩
  simpa [ahead] using this

section
variable {M : List (List Bool)} {ms : List Nat} {ws : List Int} {n : Nat} {rk : Nat → Nat}

def Ge (n : Nat) (o out : List Int) : Prop := ∀ b, b < n → getI o b ≤ getI out b
theorem Ge.refl (o : List Int) : Ge n o o := fun _ _ => Int.le_refl _
theorem Ge.trans {a b c : List Int} (h : Ge n a b) (k : Ge n b c) : Ge n a c := fun x hx => Int.le_trans (h x hx) (k x hx)
end
end Fw
end Go.Proofs.YtcglmbijpjhbmaaGreat

/-! The program's walls and orders are the specification's. -/
namespace Go.Proofs.YtcglmbijpjhbmaaGreat
namespace Fw
open Go

def kk (lv : Bool) : Int := if lv then 1 else 0
def encW (w : Wall) : List Int := [kk w.level, w.line, w.fr, w.long]
def pendW (L : Nat) (f : Int) (i : Nat) : List (List Int) := if 0 ≤ f then [[(L : Int), f, (i : Int) - f]] else []

/-- One line: places gone through by both. -/
theorem wlLine_enc {g : List (List Int)} {q : List Txt} {lv : Bool} {L P : Nat} (hd : ∀ j, j < P → difG g lv L j = wallB q L j) {ws0 : List Wall} {pre s0 : List (List Int)} (h0 : ws0.map encW = pre ++ s0.map (kk lv :: ·)) : ∀ i, i ≤ P →
    -1 ≤ (upTo q L s0 i).1 ∧ (wlLine g lv L ws0 i).2 = decide (0 ≤ (upTo q L s0 i).1) ∧
    (wlLine g lv L ws0 i).1.map encW = pre ++ ((upTo q L s0 i).2 ++ pendW L (upTo q L s0 i).1 i).map (kk lv :: ·)
  | 0, _ => by
    refine ⟨by simp [upTo], by simp [wlLine_zero, upTo], ?_⟩
    rw [wlLine_zero]
    simpa [upTo, pendW] using h0
  | i + 1, hi => by
    obtain ⟨h1, h2, h3⟩ := wlLine_enc hd h0 i (by omega)
    have hdi := hd i (by omega)
    rw [wlLine_succ]
    unfold upTo upStep
    rw [hdi]
    generalize wlLine g lv L ws0 i = s at h2 h3 ⊢
    obtain ⟨ws, op⟩ := s
    generalize upTo q L s0 i = u at h1 h2 h3 ⊢
    obtain ⟨f, l⟩ := u
    simp only at h1 h2 h3 ⊢
    cases hw : wallB q L i with
    | false =>
      simp only [wlStep, Bool.false_and, Bool.false_eq_true, if_false, Bool.not_false, Bool.true_and, decide_eq_true_eq]
      by_cases hf : 0 ≤ f
      · rw [if_pos hf]
        refine ⟨by simp, by simp, ?_⟩
        rw [h3]
        simp [pendW, hf]
      · rw [if_neg hf]
        refine ⟨h1, by simp [hf], ?_⟩
        rw [h3]
        simp [pendW, hf]
    | true =>
      simp only [wlStep, Bool.true_and, Bool.not_true, Bool.false_and, Bool.false_eq_true, if_false, if_true, decide_eq_true_eq]
      by_cases hf : 0 ≤ f
      · have hop : op = true := by rw [h2]; simpa using hf
        rw [if_pos hop, if_neg (show ¬ f < 0 by omega)]
        refine ⟨h1, by simp [hf], ?_⟩
        have hne : ws ≠ [] := by
          rintro rfl
          simp [pendW, hf] at h3
        obtain ⟨ws, w, rfl⟩ := last_of hne
        simp only [pendW, hf, if_true, List.map_append, List.map_cons, List.map_nil, ← List.append_assoc] at h3 ⊢
        obtain ⟨e1, e2⟩ := List.append_inj' h3 rfl
        simp only [List.dropLast_concat, List.getLast?_append, List.getLast?_singleton, Option.some_or, Option.map_some, Option.toList_some, List.map_append, List.map_cons, List.map_nil, e1]
        simp only [List.cons.injEq, and_true] at e2
        have e3 : w.level = lv ∧ w.line = L ∧ w.fr = f ∧ w.long = i - f := by
          simp only [encW, List.cons.injEq, and_true] at e2
          refine ⟨?_, e2.2.1, e2.2.2.1, e2.2.2.2⟩
          have := e2.1
          unfold kk at this
          cases hwl : w.level <;> cases hlv : lv <;> simp [hwl, hlv] at this ⊢
        obtain ⟨e4, e5, e6, e7⟩ := e3
        simp only [encW, e4, e5, e6, e7, List.append_cancel_left_eq, List.cons.injEq, true_and, and_true]
        omega
      · have hop : op = false := by rw [h2]; simpa using hf
        rw [if_neg (show ¬ op = true by rw [hop]; exact Bool.false_ne_true), if_pos (show f < 0 by omega)]
        refine ⟨by omega, by simp, ?_⟩
        simp only [pendW, hf, if_false, List.append_nil] at h3
        simp only [pendW, List.map_append, h3, List.map_cons, List.map_nil]
        rw [if_pos (by omega)]
        simp [encW]
        omega
theorem wlLine_all {g : List (List Int)} {q : List Txt} {lv : Bool} {L : Nat} (hd : ∀ j, j < q.length → difG g lv L j = wallB q L j) {ws0 : List Wall} {pre s0 : List (List Int)} (h0 : ws0.map encW = pre ++ s0.map (kk lv :: ·)) :
    (wlLine g lv L ws0 q.length).1.map encW = pre ++ (upTo q L s0 (q.length + 1)).2.map (kk lv :: ·) := by
  obtain ⟨h1, -, h3⟩ := wlLine_enc hd h0 q.length (Nat.le_refl _)
  rw [h3]
  congr 2
  have e : upTo q L s0 (q.length + 1) = upStep (wallB q L q.length) L q.length (upTo q L s0 q.length) := rfl
  rw [e, wallB_end]
  clear e h3 h1
  generalize upTo q L s0 q.length = u
  obtain ⟨f, l⟩ := u
  unfold upStep
  simp only [Bool.false_and, Bool.false_eq_true, if_false, Bool.not_false, Bool.true_and, decide_eq_true_eq, pendW]
  split <;> simp
theorem wlLevel_enc {g : List (List Int)} {q : List Txt} {lv : Bool} {n : Nat} (hd : ∀ L j, 1 ≤ L → L < n → j < q.length → difG g lv L j = wallB q L j) {ws0 : List Wall} : ∀ i, i ≤ n →
    (wlLevel g lv q.length ws0 i).map encW = ws0.map encW ++ (upsTo q i).map (kk lv :: ·)
  | 0, _ => by simp [wlLevel, upsTo]
  | i + 1, hi => by
    have ih := wlLevel_enc hd (ws0 := ws0) i (by omega)
    by_cases h1 : 1 ≤ i
    · rw [wlLevel_succ h1, upsTo_succ h1]
      exact wlLine_all (fun j hj => hd i j h1 (by omega) hj) ih
    · obtain rfl : i = 0 := by omega
      simpa [wlLevel, upsTo] using ih
theorem wallsG_enc {g : List (List Int)} {p : List Txt} (hg : gridB p = true) (hz : ∀ i j, i < p.length → j < (hdRow p).length → gz g i j = cellZ p i j) : (wallsG g p.length (hdRow p).length).map encW = walls p := by
  have hsm := grid_small hg
  obtain ⟨row0, hrow0, hrm0⟩ := get_of hsm.1
  have hhd := hdRow_of hrow0
  have hw1 := row_pos hg hrow0
  have htl := trans_len (p := p)
  have hth := trans_hd (p := p) (by rw [hhd]; omega)
  have d0 : ∀ L j, 1 ≤ L → L < (hdRow p).length → j < p.length → difG g false L j = wallB p L j := by
    intro L j h1 h2 h3
    unfold difG sidesG wallB
    simp only [Bool.false_eq_true, if_false]
    rw [hz j (L - 1) h3 (by omega), hz j L h3 h2]
    simp [h3]
  have d1 : ∀ L j, 1 ≤ L → L < p.length → j < (transP p).length → difG g true L j = wallB (transP p) L j := by
    intro L j h1 h2 h3
    have h3' := h3
    rw [htl] at h3'
    unfold difG sidesG wallB
    simp only [if_true]
    rw [hz (L - 1) j (by omega) h3', hz L j h2 h3', cellZ_trans (by omega) h3', cellZ_trans h2 h3']
    simp [h3]
  unfold wallsG
  have e1 := wlLevel_enc (lv := true) d1 (ws0 := wlLevel g false p.length [] (hdRow p).length) p.length (Nat.le_refl _)
  have e0 := wlLevel_enc (lv := false) d0 (ws0 := []) (hdRow p).length (Nat.le_refl _)
  rw [htl] at e1
  rw [e1, e0]
  unfold walls uprights
  rw [hth]
  simp [kk]
end Fw
end Go.Proofs.YtcglmbijpjhbmaaGreat

/-! The program's direct orders are the specification's. -/
namespace Go.Proofs.YtcglmbijpjhbmaaGreat
namespace Fw
open Go

theorem Same.orBit {n : Nat} {M : List (List Bool)} {ms : List Nat} (h : Same n M ms) {a b : Nat} (ha : a < n) (hb : b < n) : Same n (setB M a b true) (orBit ms a b) := by
  obtain ⟨h1, h2, h3⟩ := h
  obtain ⟨m, hm, -⟩ := get_of (show a < ms.length by omega)
  rw [orBit_is hm]
  refine ⟨h1.set ha, by simp [h2], fun x y hx hy => ?_⟩
  rw [getB_setB h1 ha hb, bitOf_set (by omega)]
  by_cases hxa : x = a
  · subst hxa
    rw [if_pos rfl, Nat.testBit_or, Nat.testBit_two_pow, h3 x y hx hy, bitOf_is hm]
    by_cases hyb : y = b
    · subst hyb; simp
    · rw [if_neg (fun h => hyb h.2), decide_eq_false (fun h => hyb h.symm), Bool.or_false]
  · rw [if_neg (fun h => hxa h.1), if_neg hxa, h3 x y hx hy]
def Rm (n : Nat) (l : List Int) : Prop := ∀ x ∈ l, 0 ≤ x ∧ x < n
theorem Same.relB {n : Nat} {a : Int} (ha : 0 ≤ a ∧ a < n) : ∀ {bs : List Int} {M : List (List Bool)} {ms : List Nat}, Rm n bs → Same n M ms → Same n (relB a bs M) (justB a.toNat ms bs)
  | [], _, _, _, h => h
  | b :: bs, M, ms, hb, h => by
    have hb0 := hb b (by simp)
    exact Same.relB ha (bs := bs) (fun x hx => hb x (by simp [hx])) (h.orBit (by omega) (by omega))
theorem Same.relW {n : Nat} {bs : List Int} (hb : Rm n bs) : ∀ {la : List Int} {M : List (List Bool)} {ms : List Nat}, Rm n la → Same n M ms → Same n (relW M la bs) (justA bs ms la)
  | [], _, _, _, h => h
  | a :: la, M, ms, ha, h => Same.relW hb (la := la) (fun x hx => ha x (by simp [hx])) (h.relB (ha a (by simp)) hb)

theorem ddp_snoc {l : List Int} {x : Int} : ddp (l ++ [x]) = putL (ddp l) x := by simp [ddp, List.foldl_append]
theorem sides_eq {g : List (List Int)} {p : List Txt} {lv : Bool} {L fr : Nat} : ∀ n, (∀ j, fr ≤ j → j < fr + n → sidesG g lv L j = if lv then (cellZ p (L - 1) j, cellZ p L j) else (cellZ p j (L - 1), cellZ p j L)) →
    (ddp (alongG g lv L fr n).1, ddp (alongG g lv L fr n).2) = sidesTo p (kk lv).toNat L fr n
  | 0, _ => by simp [alongG, ddp, sidesTo]
  | n + 1, h => by
    have ih := sides_eq n fun j a b => h j a (by omega)
    have hx := h (fr + n) (by omega) (by omega)
    rw [alongG_succ1, alongG_succ2, ddp_snoc, ddp_snoc, hx]
    unfold sidesTo
    rw [← ih]
    cases lv <;> simp [kk]
theorem sidesOf_eq {g : List (List Int)} {p : List Txt} (hz : ∀ i j, i < p.length → j < (hdRow p).length → gz g i j = cellZ p i j) {w : Wall} (hw : WlOk g p.length (hdRow p).length w) : sidesOf g w = sidesW p (encW w) := by
  obtain ⟨line, fr, long, he, hl, hin⟩ := hw
  obtain ⟨lv, wl, wf, wg⟩ := w
  simp only [Wall.mk.injEq, true_and] at he hin
  obtain ⟨rfl, rfl, rfl⟩ := he
  unfold sidesOf sidesW encW
  simp only [Int.toNat_natCast]
  refine sides_eq long fun j a b => ?_
  obtain ⟨⟨h1, h2⟩, -⟩ := hin j a b
  unfold sidesG
  cases lv with
  | false =>
    simp only [Bool.false_eq_true, if_false] at h2 ⊢
    rw [hz j (line - 1) h2.2 (by omega), hz j line h2.2 h2.1]
  | true =>
    simp only [if_true] at h2 ⊢
    rw [hz (line - 1) j (by omega) h2.2, hz line j h2.1 h2.2]
theorem Same.empty {n : Nat} : Same n (emptyM n) (List.replicate n 0) := by
  refine ⟨emptyM_sq n, by simp, fun a b ha hb => ?_⟩
  simp [getB, emptyM, bitOf, ha, hb]
theorem same_ord {g : List (List Int)} {p : List Txt} {n : Nat} (hz : ∀ i j, i < p.length → j < (hdRow p).length → gz g i j = cellZ p i j) (hrm : RmOk g p.length (hdRow p).length n) : ∀ (ws : List Wall), (∀ w ∈ ws, WlOk g p.length (hdRow p).length w) →
    ∀ {M : List (List Bool) × List (List Bool)} {m0 m1 : List Nat}, Same n M.1 m0 → Same n M.2 m1 → Same n (ws.foldl (ordW g) M).1 ((ws.map encW).foldl (justW p 0) m0) ∧ Same n (ws.foldl (ordW g) M).2 ((ws.map encW).foldl (justW p 1) m1)
  | [], _, _, _, _, h0, h1 => ⟨h0, h1⟩
  | w :: ws, hws, M, m0, m1, h0, h1 => by
    have hw := hws w (by simp)
    obtain ⟨hr1, hr2⟩ := sidesOf_rooms hrm hw
    rw [sidesOf_eq hz hw] at hr1 hr2
    rw [List.foldl_cons, List.map_cons, List.foldl_cons, List.foldl_cons]
    refine same_ord hz hrm ws (fun w hw => hws w (by simp [hw])) ?_ ?_
    · unfold ordW justW
      rw [sidesOf_eq hz hw]
      cases hlv : w.level with
      | false => simpa [encW, kk, hlv] using h0.relW hr2 hr1
      | true => simpa [encW, kk, hlv] using h0
    · unfold ordW justW
      rw [sidesOf_eq hz hw]
      cases hlv : w.level with
      | false => simpa [encW, kk, hlv] using h1
      | true => simpa [encW, kk, hlv] using h1.relW hr2 hr1
theorem same_all {g : List (List Int)} {p : List Txt} {n : Nat} (hg : gridB p = true) (hn : (l1Rooms p).toNat = n) (hz : ∀ i j, i < p.length → j < (hdRow p).length → gz g i j = cellZ p i j) (hrm : RmOk g p.length (hdRow p).length n) :
    Same n (leftG g p.length (hdRow p).length n) (allS p 0) ∧ Same n (aboveG g p.length (hdRow p).length n) (allS p 1) := by
  obtain ⟨h0, h1⟩ := same_ord hz hrm (wallsG g p.length (hdRow p).length) wallsG_ok (M := (emptyM n, emptyM n)) Same.empty Same.empty
  rw [wallsG_enc hg hz] at h0 h1
  have e : List.replicate n 0 = List.replicate (l1Rooms p).toNat 0 := by rw [hn]
  rw [e] at h0 h1
  exact ⟨h0.close, h1.close⟩
end Fw
end Go.Proofs.YtcglmbijpjhbmaaGreat

/-! Sums and counts of cells. -/
namespace Go.Proofs.YtcglmbijpjhbmaaGreat
namespace Fw
open Go

def sN : Nat → (Nat → Nat) → Nat
  | 0, _ => 0
  | n + 1, f => sN n f + f n
theorem sN_congr {f g : Nat → Nat} : ∀ {n : Nat}, (∀ i, i < n → f i = g i) → sN n f = sN n g
  | 0, _ => rfl
  | n + 1, h => by rw [sN, sN, sN_congr (n := n) fun i hi => h i (by omega), h n (by omega)]
theorem sN_le {f g : Nat → Nat} : ∀ {n : Nat}, (∀ i, i < n → f i ≤ g i) → sN n f ≤ sN n g
  | 0, _ => Nat.le_refl _
  | n + 1, h => by
    have := sN_le (n := n) fun i hi => h i (by omega)
    have := h n (by omega)
    simp only [sN]; omega
theorem sN_eq {f g : Nat → Nat} : ∀ {n : Nat}, (∀ i, i < n → f i ≤ g i) → sN n f = sN n g → ∀ i, i < n → f i = g i
  | 0, _, _, i, hi => by omega
  | n + 1, h, e, i, hi => by
    have h1 := sN_le (n := n) fun i hi => h i (by omega)
    have h2 := h n (by omega)
    simp only [sN] at e
    by_cases hin : i = n
    · subst hin; omega
    · exact sN_eq (n := n) (fun i hi => h i (by omega)) (by omega) i (by omega)
theorem sN_zero : ∀ n, sN n (fun _ => 0) = 0
  | 0 => rfl
  | n + 1 => by rw [sN, sN_zero n]
theorem sN_one : ∀ n, sN n (fun _ => 1) = n
  | 0 => rfl
  | n + 1 => by rw [sN, sN_one n]
theorem sN_const (c : Nat) : ∀ n, sN n (fun _ => c) = n * c
  | 0 => by simp [sN]
  | n + 1 => by rw [sN, sN_const c n, Nat.succ_mul]
theorem sN_add {f g : Nat → Nat} : ∀ n, sN n (fun i => f i + g i) = sN n f + sN n g
  | 0 => rfl
  | n + 1 => by rw [sN, sN, sN, sN_add n]; omega
theorem sN_swap {f : Nat → Nat → Nat} {m : Nat} : ∀ n, sN n (fun i => sN m (fun j => f i j)) = sN m (fun j => sN n (fun i => f i j))
  | 0 => by simp only [sN]; rw [sN_zero]
  | n + 1 => by
    simp only [sN]
    rw [sN_swap n, sN_add]
theorem sN_mul {f : Nat → Nat} {c : Nat} : ∀ n, sN n (fun i => f i * c) = sN n f * c
  | 0 => by simp [sN]
  | n + 1 => by rw [sN, sN, sN_mul n, Nat.add_mul]
def b1 (b : Bool) : Nat := if b then 1 else 0
/-- How many cells hold. -/
def cnt (H W : Nat) (f : Nat → Nat → Bool) : Nat := sN H fun i => sN W fun j => b1 (f i j)
theorem b1_le {a b : Bool} (h : a = true → b = true) : b1 a ≤ b1 b := by
  cases a with
  | false => simp [b1]
  | true => rw [h rfl]; exact Nat.le_refl _
theorem b1_inj {a b : Bool} (h : b1 a = b1 b) : a = b := by cases a <;> cases b <;> simp [b1] at h ⊢
theorem cnt_le {H W : Nat} {f g : Nat → Nat → Bool} (h : ∀ i j, i < H → j < W → f i j = true → g i j = true) : cnt H W f ≤ cnt H W g :=
  sN_le fun i hi => sN_le fun j hj => b1_le (h i j hi hj)
theorem cnt_eq {H W : Nat} {f g : Nat → Nat → Bool} (h : ∀ i j, i < H → j < W → f i j = true → g i j = true) (e : cnt H W f = cnt H W g) : ∀ i j, i < H → j < W → f i j = g i j := by
  intro i j hi hj
  have h1 := sN_eq (n := H) (fun i hi => sN_le fun j hj => b1_le (h i j hi hj)) e i hi
  exact b1_inj (sN_eq (n := W) (fun j hj => b1_le (h i j hi hj)) h1 j hj)
theorem cnt_congr {H W : Nat} {f g : Nat → Nat → Bool} (h : ∀ i j, i < H → j < W → f i j = g i j) : cnt H W f = cnt H W g :=
  sN_congr fun i hi => sN_congr fun j hj => by rw [h i j hi hj]
/-- Numbers from a on, k of them. -/
theorem sN_seg {a k : Nat} : ∀ {n : Nat}, a + k ≤ n → sN n (fun i => b1 (decide (a ≤ i) && decide (i < a + k))) = k
  | 0, h => by simp [sN]; omega
  | n + 1, h => by
    rw [sN]
    by_cases hn : a + k ≤ n
    · rw [sN_seg hn, decide_eq_false (p := n < a + k) (by omega), Bool.and_false]; rfl
    · have hnk : n + 1 = a + k := by omega
      cases k with
      | zero =>
        have : sN n (fun i => b1 (decide (a ≤ i) && decide (i < a + 0))) = sN n (fun _ => 0) := sN_congr fun i hi => by
          rw [decide_eq_false (p := a ≤ i) (by omega)]; rfl
        rw [this, sN_zero, decide_eq_false (p := a ≤ n) (by omega)]; rfl
      | succ k =>
        have e : sN n (fun i => b1 (decide (a ≤ i) && decide (i < a + (k + 1)))) = sN n (fun i => b1 (decide (a ≤ i) && decide (i < a + k))) := sN_congr fun i hi => by
          congr 2
          apply decide_eq_decide.2; omega
        rw [e, sN_seg (k := k) (by omega), decide_eq_true (p := a ≤ n) (by omega), decide_eq_true (p := n < a + (k + 1)) (by omega)]
        rfl
/-- A rectangle: h rows from t on, w columns from l on. -/
def inR (t l h w i j : Nat) : Bool := (decide (t ≤ i) && decide (i < t + h)) && (decide (l ≤ j) && decide (j < l + w))
theorem b1_and {a b : Bool} : b1 (a && b) = b1 a * b1 b := by cases a <;> cases b <;> rfl
theorem cnt_rect {H W t l h w : Nat} (h1 : t + h ≤ H) (h2 : l + w ≤ W) : cnt H W (inR t l h w) = h * w := by
  unfold cnt inR
  have e : (fun i => sN W fun j => b1 ((decide (t ≤ i) && decide (i < t + h)) && (decide (l ≤ j) && decide (j < l + w)))) = fun i => b1 (decide (t ≤ i) && decide (i < t + h)) * w := by
    funext i
    have : (fun j => b1 ((decide (t ≤ i) && decide (i < t + h)) && (decide (l ≤ j) && decide (j < l + w)))) = fun j => b1 (decide (l ≤ j) && decide (j < l + w)) * b1 (decide (t ≤ i) && decide (i < t + h)) := by
      funext j; rw [b1_and, Nat.mul_comm]
    rw [this, sN_mul, sN_seg h2, Nat.mul_comm]
  rw [e, sN_mul, sN_seg h1]
/-- Each cell is in one of n classes. -/
theorem cnt_classes {H W n : Nat} {z : Nat → Nat → Nat} (hz : ∀ i j, i < H → j < W → z i j < n) : sN n (fun r => cnt H W fun i j => decide (z i j = r)) = H * W := by
  unfold cnt
  rw [sN_swap]
  have : sN H (fun i => sN n fun r => sN W fun j => b1 (decide (z i j = r))) = sN H (fun _ => W) := sN_congr fun i hi => by
    rw [sN_swap]
    have : sN W (fun j => sN n fun r => b1 (decide (z i j = r))) = sN W (fun _ => 1) := sN_congr fun j hj => by
      have h1 := hz i j hi hj
      have e : sN n (fun r => b1 (decide (z i j = r))) = sN n (fun r => b1 (decide (z i j ≤ r) && decide (r < z i j + 1))) := sN_congr fun r hr => by
        congr 1
        rw [Bool.eq_iff_iff]
        simp only [Bool.and_eq_true, decide_eq_true_eq]
        omega
      rw [e, sN_seg (by omega)]
    rw [this, sN_one]
  rw [this, sN_const]
end Fw
end Go.Proofs.YtcglmbijpjhbmaaGreat

/-! The least rectangle around cells, by the program. -/
namespace Go.Proofs.YtcglmbijpjhbmaaGreat
namespace Fw
open Go

/-- The least rectangle around the cells of pr. -/
structure Hull (pr : Nat → Nat → Prop) (t l lo ri : Int) : Prop where
  inn : ∀ a b, pr a b → t ≤ a ∧ (a : Int) ≤ lo ∧ l ≤ b ∧ (b : Int) ≤ ri
  at_ : ∃ a b : Nat, pr a b ∧ (a : Int) = t
  al : ∃ a b : Nat, pr a b ∧ (b : Int) = l
  ao : ∃ a b : Nat, pr a b ∧ (a : Int) = lo
  ar : ∃ a b : Nat, pr a b ∧ (b : Int) = ri
theorem Hull.uniq {pr : Nat → Nat → Prop} {t l lo ri t' l' lo' ri' : Int} (h : Hull pr t l lo ri) (k : Hull pr t' l' lo' ri') : t = t' ∧ l = l' ∧ lo = lo' ∧ ri = ri' := by
  obtain ⟨a1, b1, p1, e1⟩ := h.at_
  obtain ⟨a2, b2, p2, e2⟩ := h.al
  obtain ⟨a3, b3, p3, e3⟩ := h.ao
  obtain ⟨a4, b4, p4, e4⟩ := h.ar
  obtain ⟨a5, b5, p5, e5⟩ := k.at_
  obtain ⟨a6, b6, p6, e6⟩ := k.al
  obtain ⟨a7, b7, p7, e7⟩ := k.ao
  obtain ⟨a8, b8, p8, e8⟩ := k.ar
  have q1 := k.inn _ _ p1
  have q2 := k.inn _ _ p2
  have q3 := k.inn _ _ p3
  have q4 := k.inn _ _ p4
  have q5 := h.inn _ _ p5
  have q6 := h.inn _ _ p6
  have q7 := h.inn _ _ p7
  have q8 := h.inn _ _ p8
  omega
theorem Hull.congr {pr pr' : Nat → Nat → Prop} {t l lo ri : Int} (h : Hull pr t l lo ri) (e : ∀ a b, pr a b ↔ pr' a b) : Hull pr' t l lo ri := by
  have : pr = pr' := by funext a b; exact propext (e a b)
  exact this ▸ h
theorem Hull.add {pr : Nat → Nat → Prop} {t l lo ri : Int} (h : Hull pr t l lo ri) (i j : Nat) : Hull (fun a b => pr a b ∨ (a = i ∧ b = j)) (min t i) (min l j) (max lo i) (max ri j) := by
  refine ⟨?_, ?_, ?_, ?_, ?_⟩
  · rintro a b (p | ⟨rfl, rfl⟩)
    · have := h.inn a b p; omega
    · omega
  · by_cases e : t ≤ i
    · obtain ⟨a, b, p, q⟩ := h.at_; exact ⟨a, b, .inl p, by omega⟩
    · exact ⟨i, j, .inr ⟨rfl, rfl⟩, by omega⟩
  · by_cases e : l ≤ j
    · obtain ⟨a, b, p, q⟩ := h.al; exact ⟨a, b, .inl p, by omega⟩
    · exact ⟨i, j, .inr ⟨rfl, rfl⟩, by omega⟩
  · by_cases e : (i : Int) ≤ lo
    · obtain ⟨a, b, p, q⟩ := h.ao; exact ⟨a, b, .inl p, by omega⟩
    · exact ⟨i, j, .inr ⟨rfl, rfl⟩, by omega⟩
  · by_cases e : (j : Int) ≤ ri
    · obtain ⟨a, b, p, q⟩ := h.ar; exact ⟨a, b, .inl p, by omega⟩
    · exact ⟨i, j, .inr ⟨rfl, rfl⟩, by omega⟩
theorem Hull.one {pr : Nat → Nat → Prop} (h : ∀ a b, ¬ pr a b) (i j : Nat) : Hull (fun a b => pr a b ∨ (a = i ∧ b = j)) i j i j := by
  refine ⟨?_, ⟨i, j, .inr ⟨rfl, rfl⟩, rfl⟩, ⟨i, j, .inr ⟨rfl, rfl⟩, rfl⟩, ⟨i, j, .inr ⟨rfl, rfl⟩, rfl⟩, ⟨i, j, .inr ⟨rfl, rfl⟩, rfl⟩⟩
  rintro a b (p | ⟨rfl, rfl⟩)
  · exact absurd p (h a b)
  · omega
/-- Cells that are gone through: rows ahead of i, and of row i the first j. -/
def Gone (W i j a b : Nat) : Prop := b < W ∧ (a < i ∨ (a = i ∧ b < j))
theorem gone_succ {W i j a b : Nat} (hj : j < W) : Gone W i (j + 1) a b ↔ Gone W i j a b ∨ (a = i ∧ b = j) := by unfold Gone; omega
theorem gone_row {W i a b : Nat} : Gone W i W a b ↔ Gone W (i + 1) 0 a b := by unfold Gone; omega
/-- Cells of a value that are gone through. -/
def Val (z : Nat → Nat → Int) (W i j : Nat) (v : Int) (a b : Nat) : Prop := z a b = v ∧ Gone W i j a b
theorem val_hit {z : Nat → Nat → Int} {W i j : Nat} {v : Int} (hj : j < W) (h : z i j = v) (a b : Nat) : (Val z W i j v a b ∨ (a = i ∧ b = j)) ↔ Val z W i (j + 1) v a b := by
  unfold Val
  rw [gone_succ hj]
  constructor
  · rintro (⟨h1, h2⟩ | ⟨rfl, rfl⟩)
    · exact ⟨h1, .inl h2⟩
    · exact ⟨h, .inr ⟨rfl, rfl⟩⟩
  · rintro ⟨h1, h2 | h2⟩
    · exact .inl ⟨h1, h2⟩
    · exact .inr h2
theorem val_miss {z : Nat → Nat → Int} {W i j : Nat} {v : Int} (hj : j < W) (h : z i j ≠ v) (a b : Nat) : Val z W i j v a b ↔ Val z W i (j + 1) v a b := by
  unfold Val
  rw [gone_succ hj]
  constructor
  · rintro ⟨h1, h2⟩; exact ⟨h1, .inl h2⟩
  · rintro ⟨h1, h2 | ⟨rfl, rfl⟩⟩
    · exact ⟨h1, h2⟩
    · exact absurd h1 h
theorem val_row {z : Nat → Nat → Int} {W i : Nat} {v : Int} (a b : Nat) : Val z W i W v a b ↔ Val z W (i + 1) 0 v a b := by unfold Val; rw [gone_row]

def HullR (pr : Nat → Nat → Prop) (b : Rect) : Prop := Hull pr b.row b.col (b.row + b.high - 1) (b.col + b.wide - 1)
theorem HullR.both {pr : Nat → Nat → Prop} {b : Rect} (h : HullR pr b) (i j : Nat) : HullR (fun a c => pr a c ∨ (a = i ∧ c = j)) (b.both (oneR i j)) := by
  have := Hull.add h i j
  unfold HullR Rect.both oneR
  simp only
  rw [show min b.row (i : Int) + (max (b.row + b.high) ((i : Int) + 1) - min b.row (i : Int)) - 1 = max (b.row + b.high - 1) i by omega, show min b.col (j : Int) + (max (b.col + b.wide) ((j : Int) + 1) - min b.col (j : Int)) - 1 = max (b.col + b.wide - 1) j by omega]
  exact this
theorem one_both {i j : Nat} : (oneR i j).both (oneR i j) = oneR i j := by
  unfold Rect.both oneR
  simp only [Rect.mk.injEq]
  omega
theorem HullR.one {pr : Nat → Nat → Prop} (h : ∀ a b, ¬ pr a b) (i j : Nat) : HullR (fun a b => pr a b ∨ (a = i ∧ b = j)) (oneR i j) := by
  have := Hull.one h i j
  unfold HullR oneR
  simp only
  rw [show (i : Int) + 1 - 1 = i by omega, show (j : Int) + 1 - 1 = j by omega]
  exact this
theorem HullR.congr {pr pr' : Nat → Nat → Prop} {b : Rect} (h : HullR pr b) (e : ∀ a c, pr a c ↔ pr' a c) : HullR pr' b := Hull.congr h e

/-- Keys and rectangles while cells are gone through. -/
structure SeInv (z : Nat → Nat → Int) (W i j : Nat) (ks : List Int) (rs : List Rect) : Prop where
  nd : ks.Nodup
  len : rs.length = ks.length
  mem : ∀ a b, Gone W i j a b → z a b ∈ ks
  hull : ∀ (m : Nat) v b, ks[m]? = some v → rs[m]? = some b → HullR (Val z W i j v) b
theorem nodup_one {l : List Int} (h : l.Nodup) {a b : Nat} {v : Int} (ha : l[a]? = some v) (hb : l[b]? = some v) : a = b := by
  obtain ⟨p1, q1⟩ := List.getElem?_eq_some_iff.1 ha
  obtain ⟨p2, q2⟩ := List.getElem?_eq_some_iff.1 hb
  have := List.pairwise_iff_getElem.1 h
  rcases Nat.lt_trichotomy a b with hlt | heq | hgt
  · exact absurd (q1.trans q2.symm) (this a b p1 p2 hlt)
  · exact heq
  · exact absurd (q2.trans q1.symm) (this b a p2 p1 hgt)
theorem idxOf_mem {ks : List Int} {z : Int} (h : ¬ ks.idxOf z = ks.length) : ks[ks.idxOf z]? = some z := by
  have hl := idxOf_le (ks := ks) (z := z)
  have : z ∈ ks := by rw [← List.idxOf_lt_length_iff]; omega
  rw [List.getElem?_eq_getElem (List.idxOf_lt_length_iff.2 this), List.getElem_idxOf]
theorem idxOf_not {ks : List Int} {z : Int} (h : ks.idxOf z = ks.length) : z ∉ ks := by
  intro hm
  have := List.idxOf_lt_length_iff.2 hm
  omega
theorem SeInv.step {z : Nat → Nat → Int} {W i j : Nat} {ks : List Int} {rs : List Rect} (h : SeInv z W i j ks rs) (hj : j < W) : SeInv z W i (j + 1) (seKs ks (z i j)) (seRs ks rs (z i j) (oneR i j)) := by
  have hlen := h.len
  by_cases hin : ks.idxOf (z i j) = ks.length
  · have hnm := idxOf_not hin
    have e1 : seKs ks (z i j) = ks ++ [z i j] := by simp [seKs, hin]
    have e2 : seRs ks rs (z i j) (oneR i j) = rs ++ [oneR i j] := by
      unfold seRs seIn
      rw [if_pos hin, hin, ← hlen, List.getD_eq_getElem?_getD]
      simp [one_both]
    rw [e1, e2]
    refine ⟨?_, by simp [hlen], ?_, ?_⟩
    · rw [List.nodup_append]
      refine ⟨h.nd, by simp, ?_⟩
      intro a ha b hb
      rw [List.mem_singleton] at hb
      rintro rfl
      exact hnm (hb ▸ ha)
    · intro a b hab
      rw [gone_succ hj] at hab
      rcases hab with hab | ⟨rfl, rfl⟩
      · exact List.mem_append_left _ (h.mem a b hab)
      · simp
    · intro m v b hm hb
      by_cases hml : m < ks.length
      · rw [List.getElem?_append_left hml] at hm
        rw [List.getElem?_append_left (by omega)] at hb
        have hv : z i j ≠ v := fun e => hnm (e ▸ List.mem_of_getElem? hm)
        exact (h.hull m v b hm hb).congr (val_miss hj hv)
      · have hml2 := len_of hm
        simp only [List.length_append, List.length_singleton] at hml2
        obtain rfl : m = ks.length := by omega
        rw [List.getElem?_append_right (Nat.le_refl _), Nat.sub_self] at hm
        rw [← hlen, List.getElem?_append_right (Nat.le_refl _), Nat.sub_self] at hb
        simp only [List.getElem?_cons_zero, Option.some.injEq] at hm hb
        subst hm hb
        exact (HullR.one (pr := Val z W i j (z i j)) (fun a b hab => hnm (hab.1 ▸ h.mem a b hab.2)) i j).congr (val_hit hj rfl)
  · have hk := idxOf_mem hin
    have hkl := len_of hk
    have e1 : seKs ks (z i j) = ks := by simp [seKs, hin]
    obtain ⟨b0, hb0, -⟩ := get_of (show ks.idxOf (z i j) < rs.length by omega)
    have e2 : seRs ks rs (z i j) (oneR i j) = rs.set (ks.idxOf (z i j)) (b0.both (oneR i j)) := by
      unfold seRs seIn
      rw [if_neg hin, List.getD_eq_getElem?_getD, hb0]; rfl
    rw [e1, e2]
    refine ⟨h.nd, by simp [hlen], ?_, ?_⟩
    · intro a b hab
      rw [gone_succ hj] at hab
      rcases hab with hab | ⟨rfl, rfl⟩
      · exact h.mem a b hab
      · exact List.mem_of_getElem? hk
    · intro m v b hm hb
      rw [List.getElem?_set] at hb
      by_cases e : ks.idxOf (z i j) = m
      · subst e
        rw [if_pos rfl, if_pos (by omega)] at hb
        cases hb
        rw [hk] at hm
        cases hm
        exact ((h.hull _ _ _ hk hb0).both i j).congr (val_hit hj rfl)
      · rw [if_neg e] at hb
        have hv : z i j ≠ v := by
          rintro rfl
          exact e (nodup_one h.nd hk hm)
        exact (h.hull m v b hm hb).congr (val_miss hj hv)
theorem SeInv.nil {z : Nat → Nat → Int} {W : Nat} : SeInv z W 0 0 [] [] := by
  refine ⟨by simp, rfl, ?_, by simp⟩
  intro a b h
  unfold Gone at h; omega
theorem SeInv.row {g : List (List Int)} {W i : Nat} {s : List Int × List Rect} (h : SeInv (gz g) W i 0 s.1 s.2) : ∀ j, j ≤ W → SeInv (gz g) W i j (seRow g i s j).1 (seRow g i s j).2
  | 0, _ => h
  | j + 1, hj => (SeInv.row h j (by omega)).step (by omega)
theorem SeInv.rows {g : List (List Int)} {W : Nat} : ∀ i, SeInv (gz g) W i 0 (seRows g W i).1 (seRows g W i).2
  | 0 => SeInv.nil
  | i + 1 => by
    have h := (SeInv.rows (g := g) (W := W) i).row W (Nat.le_refl _)
    refine ⟨h.nd, h.len, fun a b hab => h.mem a b (gone_row.2 hab), fun m v b hm hb => (h.hull m v b hm hb).congr (fun a c => val_row a c)⟩
/-- The numbers of cells are places among the keys. -/
theorem seRow_pre {g : List (List Int)} {i : Nat} {s : List Int × List Rect} : ∀ {j k : Nat}, j ≤ k → ∃ r, (seRow g i s k).1 = (seRow g i s j).1 ++ r
  | j, 0, h => by
    have hj : j = 0 := by omega
    subst hj; exact ⟨[], by simp⟩
  | j, k + 1, h => by
    by_cases e : j = k + 1
    · subst e; exact ⟨[], by simp⟩
    · obtain ⟨r, hr⟩ := seRow_pre (g := g) (i := i) (s := s) (show j ≤ k by omega)
      simp only [seRow, seKs]
      split
      · exact ⟨r ++ [gz g i k], by rw [hr, List.append_assoc]⟩
      · exact ⟨r, hr⟩
theorem seRows_pre {g : List (List Int)} {W : Nat} : ∀ {i k : Nat}, i ≤ k → ∃ r, (seRows g W k).1 = (seRows g W i).1 ++ r
  | i, 0, h => by
    have hi : i = 0 := by omega
    subst hi; exact ⟨[], by simp⟩
  | i, k + 1, h => by
    by_cases e : i = k + 1
    · subst e; exact ⟨[], by simp⟩
    · obtain ⟨r, hr⟩ := seRows_pre (g := g) (W := W) (show i ≤ k by omega)
      obtain ⟨r2, hr2⟩ := seRow_pre (g := g) (i := k) (s := seRows g W k) (Nat.zero_le W)
      simp only [seRows]
      refine ⟨r ++ r2, ?_⟩
      rw [hr2, ← List.append_assoc, ← hr]; rfl
theorem idxOf_app {l r : List Int} {x : Int} (h : ¬ l.idxOf x = l.length) : (l ++ r).idxOf x = l.idxOf x := by
  have hl := idxOf_le (ks := l) (z := x)
  have hm : x ∈ l := by rw [← List.idxOf_lt_length_iff]; omega
  rw [List.idxOf_append, if_pos hm]
theorem idxOf_new {l r : List Int} {x : Int} (h : l.idxOf x = l.length) : (l ++ [x] ++ r).idxOf x = l.length := by
  have hm : x ∉ l := idxOf_not h
  rw [List.append_assoc, List.idxOf_append, if_neg hm]
  simp
theorem zNum {g : List (List Int)} {W nh i j : Nat} (hi : i < nh) (hj : j < W) : ((seRow g i (seRows g W i) j).1.idxOf (gz g i j)) = (seRows g W nh).1.idxOf (gz g i j) := by
  obtain ⟨r, hr⟩ := seRows_pre (g := g) (W := W) (show i + 1 ≤ nh by omega)
  obtain ⟨r2, hr2⟩ := seRow_pre (g := g) (i := i) (s := seRows g W i) (show j + 1 ≤ W by omega)
  have e : (seRows g W nh).1 = seKs (seRow g i (seRows g W i) j).1 (gz g i j) ++ (r2 ++ r) := by
    rw [hr, ← List.append_assoc]
    congr 1
  rw [e]
  generalize (seRow g i (seRows g W i) j).1 = ks
  unfold seKs
  by_cases hin : ks.idxOf (gz g i j) = ks.length
  · rw [if_pos hin, idxOf_new hin, hin]
  · rw [if_neg hin, idxOf_app hin]
end Fw
end Go.Proofs.YtcglmbijpjhbmaaGreat

/-! The least rectangle around a room and its cells, by the specification. -/
namespace Go.Proofs.YtcglmbijpjhbmaaGreat
namespace Fw
open Go

/-- The cells of a room. -/
def inZ (p : List Txt) (r : Int) (i j : Nat) : Bool := decide (cellZ p i j = r)
theorem inRoom_is {p : List Txt} {i k : Nat} {row : Txt} {c : UInt8} {r : Int} (h : p[i]? = some row) (hc : row[k]? = some c) : inRoom r c = inZ p r i k := by
  unfold inRoom inZ; rw [cellZ_is h hc]
theorem cellsRow_cnt {p : List Txt} {i : Nat} {row : Txt} {r : Int} (h : p[i]? = some row) (n : Int) : ∀ k, k ≤ row.length → cellsRow r n (row.take k) = n + sN k fun j => b1 (inZ p r i j)
  | 0, _ => by simp [cellsRow, sN]
  | k + 1, hk => by
    obtain ⟨c, hc, -⟩ := get_of (show k < row.length by omega)
    have ih := cellsRow_cnt (r := r) h n k (by omega)
    unfold cellsRow at ih ⊢
    rw [foldl_tk hc, ih, sN, inRoom_is h hc]
    cases inZ p r i k <;> simp [b1]
    omega
theorem l1Cells_cnt {p : List Txt} {W : Nat} (hW : ∀ row ∈ p, row.length = W) {r : Int} : ∀ i, i ≤ p.length → (p.take i).foldl (cellsRow r) 0 = ((sN i fun i => sN W fun j => b1 (inZ p r i j) : Nat) : Int)
  | 0, _ => by simp [sN]
  | i + 1, hi => by
    obtain ⟨row, hr, hm⟩ := get_of (show i < p.length by omega)
    have ih := l1Cells_cnt hW (r := r) i (by omega)
    have hl := hW row hm
    have := cellsRow_cnt (r := r) hr (((sN i fun i => sN W fun j => b1 (inZ p r i j) : Nat) : Int)) W (by omega)
    rw [List.take_of_length_le (by omega)] at this
    rw [foldl_tk hr, ih, this, sN]
    simp
theorem l1Cells_is {p : List Txt} {W : Nat} (hW : ∀ row ∈ p, row.length = W) {r : Int} : l1Cells p r = ((cnt p.length W (inZ p r) : Nat) : Int) := by
  have := l1Cells_cnt hW (r := r) p.length (Nat.le_refl _)
  rwa [List.take_length] at this
/-- What the specification knows of a room when some cells are gone through. -/
def BoxInv (H W : Nat) (pr : Nat → Nat → Prop) (b : Box) : Prop := ((∀ a c, ¬ pr a c) ∧ b = ⟨H, W, -1, -1⟩) ∨ Hull pr b.top b.left b.low b.right
theorem BoxInv.congr {H W : Nat} {pr pr' : Nat → Nat → Prop} {b : Box} (h : BoxInv H W pr b) (e : ∀ a c, pr a c ↔ pr' a c) : BoxInv H W pr' b := by
  have : pr = pr' := by funext a b; exact propext (e a b)
  exact this ▸ h
theorem BoxInv.add {H W : Nat} {pr : Nat → Nat → Prop} {b : Box} (h : BoxInv H W pr b) {i k : Nat} (hi : i < H) (hk : k < W) : BoxInv H W (fun a c => pr a c ∨ (a = i ∧ c = k)) ⟨min b.top i, min b.left k, max b.low i, max b.right k⟩ := by
  rcases h with ⟨h1, rfl⟩ | h
  · right
    have := Hull.one h1 i k
    simp only
    rw [show min (H : Int) i = i by omega, show min (W : Int) k = k by omega, show max (-1 : Int) i = i by omega, show max (-1 : Int) k = k by omega]
    exact this
  · exact .inr (Hull.add h i k)
theorem rowTo_inv {p : List Txt} {H W i : Nat} {row : Txt} {r : Int} (hr : p[i]? = some row) (hW : row.length = W) (hi : i < H) {b : Box} (h : BoxInv H W (Val (cellZ p) W i 0 r) b) : ∀ k, k ≤ W → BoxInv H W (Val (cellZ p) W i k r) (rowTo r i b row k)
  | 0, _ => by simpa [rowTo] using h
  | k + 1, hk => by
    obtain ⟨c, hc, -⟩ := get_of (show k < row.length by omega)
    have ih := rowTo_inv hr hW hi h k (by omega)
    rw [rowTo_succ hc]
    unfold boxCell
    simp only
    rw [inRoom_is hr hc]
    by_cases e : cellZ p i k = r
    · rw [if_pos (by unfold inZ; exact decide_eq_true e)]
      exact (ih.add hi (by omega)).congr (val_hit (by omega) e)
    · rw [if_neg (by unfold inZ; rw [decide_eq_false e]; exact Bool.false_ne_true)]
      exact ih.congr (val_miss (by omega) e)
theorem boxTo_inv {p : List Txt} {W : Nat} (hW : ∀ row ∈ p, row.length = W) (hh : (hdRow p).length = W) {r : Int} : ∀ i, i ≤ p.length → BoxInv p.length W (Val (cellZ p) W i 0 r) (boxTo p r i)
  | 0, _ => by
    left
    refine ⟨fun a c h => ?_, by simp [boxTo, hh]⟩
    have := h.2
    unfold Gone at this; omega
  | i + 1, hi => by
    obtain ⟨row, hr, hm⟩ := get_of (show i < p.length by omega)
    rw [boxTo_succ hr]
    have := rowTo_inv (r := r) hr (hW row hm) (by omega) (boxTo_inv hW hh i (by omega)) W (Nat.le_refl _)
    rw [hW row hm]
    exact this.congr fun a c => val_row a c
theorem boxOf_inv {p : List Txt} {W : Nat} (hW : ∀ row ∈ p, row.length = W) (hh : (hdRow p).length = W) {r : Int} : BoxInv p.length W (Val (cellZ p) W p.length 0 r) (boxOf p r) := by
  rw [← boxTo_all]; exact boxTo_inv hW hh p.length (Nat.le_refl _)
/-- A rectangle in whole numbers around cells of a grid. -/
theorem Hull.nat {z : Nat → Nat → Int} {H W : Nat} {v : Int} {t l lo ri : Int} (h : Hull (Val z W H 0 v) t l lo ri) : ∃ t' l' h' w' : Nat, t = t' ∧ l = l' ∧ lo = t' + h' - 1 ∧ ri = l' + w' - 1 ∧ 1 ≤ h' ∧ 1 ≤ w' ∧ t' + h' ≤ H ∧ l' + w' ≤ W ∧
    ∀ i j, i < H → j < W → z i j = v → inR t' l' h' w' i j = true := by
  obtain ⟨a1, b1, p1, e1⟩ := h.at_
  obtain ⟨a2, b2, p2, e2⟩ := h.al
  obtain ⟨a3, b3, p3, e3⟩ := h.ao
  obtain ⟨a4, b4, p4, e4⟩ := h.ar
  have q1 := h.inn _ _ p1
  have q2 := h.inn _ _ p2
  obtain ⟨-, g3, g3'⟩ := p3
  obtain ⟨-, g4, g4'⟩ := p4
  refine ⟨a1, b2, a3 + 1 - a1, b4 + 1 - b2, e1.symm, e2.symm, by omega, by omega, by omega, by omega, by omega, by omega, fun i j hi hj hv => ?_⟩
  have := h.inn i j ⟨hv, by unfold Gone; omega⟩
  unfold inR
  simp only [Bool.and_eq_true, decide_eq_true_eq]
  omega
end Fw
end Go.Proofs.YtcglmbijpjhbmaaGreat
