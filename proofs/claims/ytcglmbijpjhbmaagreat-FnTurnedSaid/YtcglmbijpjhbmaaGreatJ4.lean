/- Parts of the framework and of the proof: The numbering of rooms by the program, gone through; The numbering of all rooms of a grid; Grids of the program, gone through; A plan of a grid, as the program finds it; Plans of the program, gone through; Plans that are read, in plain words; Reading plans, gone through; The two closures of relations are the same; The heaviest sums and the least sizes are the same; The program's walls and orders are the specification's; The program's direct orders are the specification's; Sums and counts of cells; The least rectangle around cells, by the program; The least rectangle around a room and its cells, by the specification; Plans that are read are the specification's: grids and names; Plans that are read are the specification's: numbers of rooms and rectangles; Plans that are read are the specification's: rooms fill their rectangles; Areas by the program are the specification's; Areas by the program are the specification's, joined; Arguments of laws as plain data; A slice of bytes as an argument: plain data; The framework, part z: a region in which the bytes of a text become a new row that is written later; Drawing: the reader, gone through; Plans in which no four rooms meet: two orders of rooms go on without end, and each two rooms are in one. -/
import Derived.Test.YtcglmbijpjhbmaaGreatJ3
import Derived.Test.YtcglmbijpjhbmaaGreatRows
import Derived.ProofKit
import Derived.SliceStrings
import Derived.Test.YtcglmbijpjhbmaaGreatJ1
import Derived.Lib.ConvBytes
import Derived.Test.YtcglmbijpjhbmaaGreatJ2
set_option linter.all false
/-! The numbering of rooms by the program, gone through. -/
namespace Go.Proofs.YtcglmbijpjhbmaaGreat
namespace Fw
open Go

theorem keyed_int {z : Int} : TK.keyed tab 3 (.int .i64 z) = true := by simp only [TK.keyed, tyint]; rfl

theorem settled2_old_ev {g d : List (List Int)} {y : List Int} {row ks : List Int} {rs : List Rect} {z : Int} {r c w m xv yv vq t : Nat} (hr : r < 6) (hc : c < 6) (hrow : g[r]? = some row) (hz : row[c]? = some z) (hs : SeOk ks rs) (hk : ks.length ≤ 64) (hin : ¬ ks.idxOf z = ks.length) : Ev Tryz.prog 167 [.int .i64 (r : Nat), .int .i64 (c : Nat), .ref 5 5 0, .ref 0 0 0, .ref 3 3 0] ⟨[.arr 0 84 1 [eGrid g], .arr 1 3 1 [.int .i64 w], .arr 2 87 2 [.nils, .loc 8 vq 0 (rs).length], .arr 3 55 1 [.ref 2 2 0], .map 4 (mE ks), .arr 5 158 1 [.mp 4 4], .arr xv 24 1 (gcs d (.loc 7 yv 0 w) m), .arr yv 3 1 (y.map (.int .i64)), .arr vq 161 4 (rcs rs)], t⟩ fun v S => v = .int .i64 ((ks.idxOf z : Nat) : Int) ∧ ∃ vq t : Nat, S = ⟨[.arr 0 84 1 [eGrid g], .arr 1 3 1 [.int .i64 w], .arr 2 87 2 [.nils, .loc 8 vq 0 ((seRs ks rs z (oneR r c))).length], .arr 3 55 1 [.ref 2 2 0], .map 4 (mE (seKs ks z)), .arr 5 158 1 [.mp 4 4], .arr xv 24 1 (gcs d (.loc 7 yv 0 w) m), .arr yv 3 1 (y.map (.int .i64)), .arr vq 161 4 (rcs (seRs ks rs z (oneR r c)))], t⟩ := by
  have hrl := len_of hrow
  have hcl := len_of hz
  have hgl : g.length = g.length := rfl
  obtain ⟨hi1, hi2, b, hb, hbf⟩ := hs.in_ (z := z) (oneR_fit hr hc)
  have hil := idxOf_le (ks := ks) (z := z)
  have hsl := hs.1
  have hst := hs.step (z := z) (oneR_fit hr hc)
  have hfs := findKey_some hin
  have hki : seKs ks z = ks := by simp [seKs, hin]
  have hri : seIn ks rs z (oneR r c) = rs := by simp [seIn, hin]
  refine Ev.of ⟨Tryz.func167, by kernel_rfl, rfl, by kernel_rfl⟩ tabOk mixed (by show 5 ≤ Tryz.f167.ntmps; decide) ?_
  refine W.seq_region fun K hK => ?_
  simp (disch := omega) only [↓RU, RV, RH, ↓reduceIte, Nat.reduceEqDiff, reduceCtorEq, if_pos, ↓RS, RG, Nat.reduceAdd, Nat.reduceMul, Nat.reduceLeDiff]
  refine hK _ _ ?_
  clear hK K
  refine W.seq_draw (by kernel_rfl) fun K hK => ?_
  simp (disch := omega) only [↓RU, RV, RH, ↓reduceIte, Nat.reduceEqDiff, reduceCtorEq, if_pos, ↓RS, RG, Nat.reduceAdd, Nat.reduceMul, Nat.reduceLeDiff, tyLLint, tyLint, tyimpl_grid, tyint, tymapBint_int, hrow, hz, mE_len, hfs]
  refine hK _ _ ?_
  clear hK K
  refine W.joinS [0, 1, 2, 3, 4, 8] (fun vs S => ∃ vq t : Nat, vs = [.int .i64 (r : Nat), .int .i64 (c : Nat), .ref 5 5 0, .ref 0 0 0, .ref 3 3 0, .int .i64 ((ks.idxOf z : Nat) : Int)] ∧ S = ⟨[.arr 0 84 1 [eGrid g], .arr 1 3 1 [.int .i64 w], .arr 2 87 2 [.nils, .loc 8 vq 0 ((seIn ks rs z (oneR r c))).length], .arr 3 55 1 [.ref 2 2 0], .map 4 (mE (seKs ks z)), .arr 5 158 1 [.mp 4 4], .arr xv 24 1 (gcs d (.loc 7 yv 0 w) m), .arr yv 3 1 (y.map (.int .i64)), .arr vq 161 4 (rcs (seIn ks rs z (oneR r c)))], t⟩) ?_ ?_
  ·
    refine W.seq_region fun K hK => ?_
    simp (disch := omega) only [↓RU, RV, RH, ↓reduceIte, Nat.reduceEqDiff, reduceCtorEq, if_pos, ↓RS, RG, Nat.reduceAdd, Nat.reduceMul, Nat.reduceLeDiff]
    refine hK _ _ ?_
    clear hK K
    refine W.cond rfl (fun h => ?_) (fun h => ?_)
    · try simp only [RL] at h
      exact absurd h (by simp)
    · try simp only [RL] at h
      refine W.skip ?_
      refine XThen.norm ?_
      refine ⟨9, [], [.int .i64 (r : Nat), .int .i64 (c : Nat), .ref 5 5 0, .ref 0 0 0, .ref 3 3 0, .int .i64 ((ks.idxOf z : Nat) : Int)], ⟨[.arr 0 84 1 [eGrid g], .arr 1 3 1 [.int .i64 w], .arr 2 87 2 [.nils, .loc 8 vq 0 ((seIn ks rs z (oneR r c))).length], .arr 3 55 1 [.ref 2 2 0], .map 4 (mE (seKs ks z)), .arr 5 158 1 [.mp 4 4], .arr xv 24 1 (gcs d (.loc 7 yv 0 w) m), .arr yv 3 1 (y.map (.int .i64)), .arr vq 161 4 (rcs (seIn ks rs z (oneR r c)))], (t + 1)⟩, ?_, ?_, vq, t + 1, rfl, rfl⟩
      · simp [-List.mapM_map, Env.put, Env.of, argEnv, Srn_eq, rnObs_cons, rnObs_nil, rnOb_arr, rnOb_map, rn_loc, rn_ref, rn_mp, rn_int, rn_bool, rn_str, rn_ip, rn_sl, rn_nils, rn_nilp, rn_undef, rn_agg, rn_tup, rn_fn, rfq_loc, rfq_int, rfq_bool, rfq_str, rfq_sl, frOf, List.range_succ, List.mapM_append, List.mapM_cons]
      · rw [hki, hri]; simp [-List.mapM_map, Env.put, Env.of, argEnv, Srn_eq, rnObs_cons, rnObs_nil, rnOb_arr, rnOb_map, rn_loc, rn_ref, rn_mp, rn_int, rn_bool, rn_str, rn_ip, rn_sl, rn_nils, rn_nilp, rn_undef, rn_agg, rn_tup, rn_fn, rfq_loc, rfq_int, rfq_bool, rfq_str, rfq_sl, frOf, List.range_succ, List.mapM_append, List.mapM_cons, rn_mE, rn_rcs, rn_ints, rn_gcs]
  rintro vs S - ⟨vq, t, rfl, rfl⟩
  have hrs2 := seRs_is hb
  generalize hks1 : seKs ks z = ks1 at hi1 hst
  generalize hrs1 : seIn ks rs z (oneR r c) = rs1 at hb hi1 hi2 hrs2
  have hbl := len_of hb
  refine W.seq_draw (by kernel_rfl) fun K hK => ?_
  have hcell := (oneR_cells (r := r) (c := c)).symm
  have hba : PV.agg b.cells = eRect b := rfl
  simp (disch := omega) only [↓RU, RV, RH, ↓reduceIte, Nat.reduceEqDiff, reduceCtorEq, if_pos, List.append_nil, ↓RS, RG, Nat.reduceAdd, Nat.reduceMul, Nat.reduceLeDiff, tyLLint, tyLimpl_rect, tyLint, tyPimpl_floor, tyimpl_floor, tyimpl_grid, tyimpl_rect, tyint, tystruct_cells_impl_grid_rooms_Limpl_rect_, tystruct_row_int_col_int_high_int_wide_int_, rcs_at hb, rcs_len, ← oneR_cells, hcell, rcell_len, rcell_all, rcs_set4]
  refine CallR.pc (both_pc (b := b) (o := oneR r c) hbf.in_ (oneR_fit hr hc).in_) rfl (.inl rfl) ?_
  simp (disch := omega) only [↓RU, RV, RH, ↓reduceIte, Nat.reduceEqDiff, reduceCtorEq, if_pos, List.append_nil, ↓RS, RG, Nat.reduceAdd, Nat.reduceMul, Nat.reduceLeDiff, tyLLint, tyLimpl_rect, tyLint, tyPimpl_floor, tyimpl_floor, tyimpl_grid, tyimpl_rect, tyint, tystruct_cells_impl_grid_rooms_Limpl_rect_, tystruct_row_int_col_int_high_int_wide_int_, rcs_at hb, rcs_len, ← oneR_cells, hcell, rcell_len, rcell_all, rcs_set4]
  refine hK _ _ ?_
  clear hK K
  refine W.seq_region fun K hK => ?_
  simp (disch := omega) only [↓RU, RV, RH, ↓reduceIte, Nat.reduceEqDiff, reduceCtorEq, if_pos, ↓RS, RG, Nat.reduceAdd, Nat.reduceMul, Nat.reduceLeDiff]
  refine hK _ _ ?_
  clear hK K
  refine W.ret ?_
  refine BodyQ.ret rfl ?_
  refine ⟨9, rfl, vq, t, ?_⟩
  rw [hrs2]
  simp [take_eq]

theorem settled2_first_ev {g d : List (List Int)} {y : List Int} {row ks : List Int} {rs : List Rect} {z : Int} {r c w m xv yv vq t : Nat} (hr : r < 6) (hc : c < 6) (hrow : g[r]? = some row) (hz : row[c]? = some z) (hs : SeOk ks rs) (hk : ks.length ≤ 64) (hn : rs = []) (hn2 : ks = []) : Ev Tryz.prog 167 [.int .i64 (r : Nat), .int .i64 (c : Nat), .ref 5 5 0, .ref 0 0 0, .ref 3 3 0] ⟨[.arr 0 84 1 [eGrid g], .arr 1 3 1 [.int .i64 w], .arr 2 87 2 [.nils, .nils], .arr 3 55 1 [.ref 2 2 0], .map 4 (mE ks), .arr 5 158 1 [.mp 4 4], .arr xv 24 1 (gcs d (.loc 7 yv 0 w) m), .arr yv 3 1 (y.map (.int .i64))], t⟩ fun v S => v = .int .i64 ((ks.idxOf z : Nat) : Int) ∧ ∃ vq t : Nat, S = ⟨[.arr 0 84 1 [eGrid g], .arr 1 3 1 [.int .i64 w], .arr 2 87 2 [.nils, .loc 8 vq 0 ((seRs ks rs z (oneR r c))).length], .arr 3 55 1 [.ref 2 2 0], .map 4 (mE (seKs ks z)), .arr 5 158 1 [.mp 4 4], .arr xv 24 1 (gcs d (.loc 7 yv 0 w) m), .arr yv 3 1 (y.map (.int .i64)), .arr vq 161 4 (rcs (seRs ks rs z (oneR r c)))], t⟩ := by
  have hin : ks.idxOf z = ks.length := by rw [hn2]; rfl
  have hrl := len_of hrow
  have hcl := len_of hz
  have hgl : g.length = g.length := rfl
  obtain ⟨hi1, hi2, b, hb, hbf⟩ := hs.in_ (z := z) (oneR_fit hr hc)
  have hil := idxOf_le (ks := ks) (z := z)
  have hsl := hs.1
  have hst := hs.step (z := z) (oneR_fit hr hc)
  have hfn := findKey_none hin
  have hki : seKs ks z = ks ++ [z] := by simp [seKs, hin]
  have hri : seIn ks rs z (oneR r c) = rs ++ [oneR r c] := by simp [seIn, hin]
  refine Ev.of ⟨Tryz.func167, by kernel_rfl, rfl, by kernel_rfl⟩ tabOk mixed (by show 5 ≤ Tryz.f167.ntmps; decide) ?_
  refine W.seq_region fun K hK => ?_
  simp (disch := omega) only [↓RU, RV, RH, ↓reduceIte, Nat.reduceEqDiff, reduceCtorEq, if_pos, ↓RS, RG, Nat.reduceAdd, Nat.reduceMul, Nat.reduceLeDiff]
  refine hK _ _ ?_
  clear hK K
  refine W.seq_draw (by kernel_rfl) fun K hK => ?_
  simp (disch := omega) only [↓RU, RV, RH, ↓reduceIte, Nat.reduceEqDiff, reduceCtorEq, if_pos, ↓RS, RG, Nat.reduceAdd, Nat.reduceMul, Nat.reduceLeDiff, tyLLint, tyLint, tyimpl_grid, tyint, tymapBint_int, hrow, hz, mE_len, hfn]
  refine hK _ _ ?_
  clear hK K
  refine W.joinS [0, 1, 2, 3, 4, 8] (fun vs S => ∃ vq t : Nat, vs = [.int .i64 (r : Nat), .int .i64 (c : Nat), .ref 5 5 0, .ref 0 0 0, .ref 3 3 0, .int .i64 ((ks.idxOf z : Nat) : Int)] ∧ S = ⟨[.arr 0 84 1 [eGrid g], .arr 1 3 1 [.int .i64 w], .arr 2 87 2 [.nils, .loc 8 vq 0 ((seIn ks rs z (oneR r c))).length], .arr 3 55 1 [.ref 2 2 0], .map 4 (mE (seKs ks z)), .arr 5 158 1 [.mp 4 4], .arr xv 24 1 (gcs d (.loc 7 yv 0 w) m), .arr yv 3 1 (y.map (.int .i64)), .arr vq 161 4 (rcs (seIn ks rs z (oneR r c)))], t⟩) ?_ ?_
  ·
    refine W.seq_region fun K hK => ?_
    simp (disch := omega) only [↓RU, RV, RH, ↓reduceIte, Nat.reduceEqDiff, reduceCtorEq, if_pos, ↓RS, RG, Nat.reduceAdd, Nat.reduceMul, Nat.reduceLeDiff]
    refine hK _ _ ?_
    clear hK K
    refine W.cond rfl (fun h => ?_) (fun h => ?_)
    · try simp only [RL] at h
      refine W.seq_region fun K hK => ?_
      simp (disch := omega) only [↓RU, RV, RH, ↓reduceIte, Nat.reduceEqDiff, reduceCtorEq, if_pos, ↓RS, RG, Nat.reduceAdd, Nat.reduceMul, Nat.reduceLeDiff, tyint, tymapBint_int, mE_len]
      refine hK _ _ ?_
      clear hK K
      refine W.seq_draw (by kernel_rfl) fun K hK => ?_
      simp (disch := omega) only [↓RU, RV, RH, ↓reduceIte, Nat.reduceEqDiff, reduceCtorEq, if_pos, ↓RS, RG, Nat.reduceAdd, Nat.reduceMul, Nat.reduceLeDiff, tyLLint, tyLint, tyimpl_grid, tyint, tymapBint_int, hrow, hz, hfn, keyed_int]
      refine hK _ _ ?_
      clear hK K
      refine W.region_pk 10 [some 35, some 36, some 37, some 38, some 39] [2, 3] (by decide) (by kernel_rfl) fun K hK => ?_
      simp only [List.take_succ_cons, List.take_zero, List.drop_succ_cons, List.drop_zero]
      refine eRunK_pend (.ref 2 2 0) rfl rfl rfl (fun S' hS => ?_) ?_
      · skip
        have k2 := (hS 2 (by decide)).trans (show _ = some _ from rfl)
        have k3 := (hS 3 (by decide)).trans (show _ = some _ from rfl)
        simp (disch := omega) only [↓RU, RV, RH, ↓reduceIte, Nat.reduceEqDiff, reduceCtorEq, if_pos, ↓RS, RG, Nat.reduceAdd, Nat.reduceMul, Nat.reduceLeDiff, tyLLint, tyLimpl_rect, tyLint, tyPimpl_floor, tyimpl_floor, tyimpl_grid, tyimpl_rect, tyint, tystruct_cells_impl_grid_rooms_Limpl_rect_, tystruct_row_int_col_int_high_int_wide_int_, rcs_len, rcell_len, rcell_all, pp_load, pp_nil, pp_fa, pp_ia, k2, k3]
      refine eRunK_pend (.ref 2 2 0) rfl rfl rfl (fun S' hS => ?_) ?_
      · skip
        have k2 := (hS 2 (by decide)).trans (show _ = some _ from rfl)
        have k3 := (hS 3 (by decide)).trans (show _ = some _ from rfl)
        simp (disch := omega) only [↓RU, RV, RH, ↓reduceIte, Nat.reduceEqDiff, reduceCtorEq, if_pos, ↓RS, RG, Nat.reduceAdd, Nat.reduceMul, Nat.reduceLeDiff, tyLLint, tyLimpl_rect, tyLint, tyPimpl_floor, tyimpl_floor, tyimpl_grid, tyimpl_rect, tyint, tystruct_cells_impl_grid_rooms_Limpl_rect_, tystruct_row_int_col_int_high_int_wide_int_, rcs_len, rcell_len, rcell_all, pp_load, pp_nil, pp_fa, pp_ia, k2, k3]
      refine eRunK_pend (.ref 2 2 0) rfl rfl rfl (fun S' hS => ?_) ?_
      · skip
        have k2 := (hS 2 (by decide)).trans (show _ = some _ from rfl)
        have k3 := (hS 3 (by decide)).trans (show _ = some _ from rfl)
        simp (disch := omega) only [↓RU, RV, RH, ↓reduceIte, Nat.reduceEqDiff, reduceCtorEq, if_pos, ↓RS, RG, Nat.reduceAdd, Nat.reduceMul, Nat.reduceLeDiff, tyLLint, tyLimpl_rect, tyLint, tyPimpl_floor, tyimpl_floor, tyimpl_grid, tyimpl_rect, tyint, tystruct_cells_impl_grid_rooms_Limpl_rect_, tystruct_row_int_col_int_high_int_wide_int_, rcs_len, rcell_len, rcell_all, pp_load, pp_nil, pp_fa, pp_ia, k2, k3]
      refine eRunK_pend (.ref 2 2 1) rfl rfl rfl (fun S' hS => ?_) ?_
      · skip
        have k2 := (hS 2 (by decide)).trans (show _ = some _ from rfl)
        have k3 := (hS 3 (by decide)).trans (show _ = some _ from rfl)
        simp (disch := omega) only [↓RU, RV, RH, ↓reduceIte, Nat.reduceEqDiff, reduceCtorEq, if_pos, ↓RS, RG, Nat.reduceAdd, Nat.reduceMul, Nat.reduceLeDiff, tyLLint, tyLimpl_rect, tyLint, tyPimpl_floor, tyimpl_floor, tyimpl_grid, tyimpl_rect, tyint, tystruct_cells_impl_grid_rooms_Limpl_rect_, tystruct_row_int_col_int_high_int_wide_int_, rcs_len, rcell_len, rcell_all, pp_load, pp_nil, pp_fa, pp_ia, k2, k3]
      refine eRunK_pend (.nils) rfl rfl rfl (fun S' hS => ?_) ?_
      · skip
        have k2 := (hS 2 (by decide)).trans (show _ = some _ from rfl)
        have k3 := (hS 3 (by decide)).trans (show _ = some _ from rfl)
        simp (disch := omega) only [↓RU, RV, RH, ↓reduceIte, Nat.reduceEqDiff, reduceCtorEq, if_pos, ↓RS, RG, Nat.reduceAdd, Nat.reduceMul, Nat.reduceLeDiff, tyLLint, tyLimpl_rect, tyLint, tyPimpl_floor, tyimpl_floor, tyimpl_grid, tyimpl_rect, tyint, tystruct_cells_impl_grid_rooms_Limpl_rect_, tystruct_row_int_col_int_high_int_wide_int_, rcs_len, rcell_len, rcell_all, pp_load, pp_nil, pp_fa, pp_ia, k2, k3]
      refine eRunK_go rfl ?_
      simp (disch := omega) only [↓RU, RV, RH, ↓reduceIte, Nat.reduceEqDiff, reduceCtorEq, if_pos, ↓RS, RG, Nat.reduceAdd, Nat.reduceMul, Nat.reduceLeDiff, tyLLint, tyLimpl_rect, tyLint, tyPimpl_floor, tyimpl_floor, tyimpl_grid, tyimpl_rect, tyint, tystruct_cells_impl_grid_rooms_Limpl_rect_, tystruct_row_int_col_int_high_int_wide_int_, rcs_len, rcell_len, rcell_all, keeps_cons, keeps_nil]
      refine eRunK_go rfl ?_
      simp (disch := omega) only [↓RU, RV, RH, ↓reduceIte, Nat.reduceEqDiff, reduceCtorEq, if_pos, ↓RS, RG, Nat.reduceAdd, Nat.reduceMul, Nat.reduceLeDiff, tyLLint, tyLimpl_rect, tyLint, tyPimpl_floor, tyimpl_floor, tyimpl_grid, tyimpl_rect, tyint, tystruct_cells_impl_grid_rooms_Limpl_rect_, tystruct_row_int_col_int_high_int_wide_int_, rcs_len, rcell_len, rcell_all, keeps_cons, keeps_nil]
      refine eRunK_go rfl ?_
      simp (disch := omega) only [↓RU, RV, RH, ↓reduceIte, Nat.reduceEqDiff, reduceCtorEq, if_pos, ↓RS, RG, Nat.reduceAdd, Nat.reduceMul, Nat.reduceLeDiff, tyLLint, tyLimpl_rect, tyLint, tyPimpl_floor, tyimpl_floor, tyimpl_grid, tyimpl_rect, tyint, tystruct_cells_impl_grid_rooms_Limpl_rect_, tystruct_row_int_col_int_high_int_wide_int_, rcs_len, rcell_len, rcell_all, keeps_cons, keeps_nil]
      refine eRunK_go rfl ?_
      simp (disch := omega) only [↓RU, RV, RH, ↓reduceIte, Nat.reduceEqDiff, reduceCtorEq, if_pos, ↓RS, RG, Nat.reduceAdd, Nat.reduceMul, Nat.reduceLeDiff, tyLLint, tyLimpl_rect, tyLint, tyPimpl_floor, tyimpl_floor, tyimpl_grid, tyimpl_rect, tyint, tystruct_cells_impl_grid_rooms_Limpl_rect_, tystruct_row_int_col_int_high_int_wide_int_, rcs_len, rcell_len, rcell_all, keeps_cons, keeps_nil]
      refine eRunK_go rfl ?_
      simp (disch := omega) only [↓RU, RV, RH, ↓reduceIte, Nat.reduceEqDiff, reduceCtorEq, if_pos, ↓RS, RG, Nat.reduceAdd, Nat.reduceMul, Nat.reduceLeDiff, tyLLint, tyLimpl_rect, tyLint, tyPimpl_floor, tyimpl_floor, tyimpl_grid, tyimpl_rect, tyint, tystruct_cells_impl_grid_rooms_Limpl_rect_, tystruct_row_int_col_int_high_int_wide_int_, rcs_len, rcell_len, rcell_all, keeps_cons, keeps_nil]
      refine eRunK_end ?_
      simp (disch := omega) only [↓RU, RV, RH, ↓reduceIte, Nat.reduceEqDiff, reduceCtorEq, if_pos, ↓RS, RG, Nat.reduceAdd, Nat.reduceMul, Nat.reduceLeDiff, tyLLint, tyLimpl_rect, tyLint, tyPimpl_floor, tyimpl_floor, tyimpl_grid, tyimpl_rect, tyint, tystruct_cells_impl_grid_rooms_Limpl_rect_, tystruct_row_int_col_int_high_int_wide_int_, rcs_len, rcell_len, rcell_all]
      refine hK _ _ ?_
      clear hK K
      refine XThen.norm ?_
      refine ⟨8, [9], [.int .i64 (r : Nat), .int .i64 (c : Nat), .ref 5 5 0, .ref 0 0 0, .ref 3 3 0, .int .i64 ((ks.idxOf z : Nat) : Int)], ⟨[.arr 0 84 1 [eGrid g], .arr 1 3 1 [.int .i64 w], .arr 2 87 2 [.nils, .loc 8 (t + 2) 0 ((seIn ks rs z (oneR r c))).length], .arr 3 55 1 [.ref 2 2 0], .map 4 (mE (seKs ks z)), .arr 5 158 1 [.mp 4 4], .arr xv 24 1 (gcs d (.loc 7 yv 0 w) m), .arr yv 3 1 (y.map (.int .i64)), .arr (t + 2) 161 4 (rcs (seIn ks rs z (oneR r c)))], (t + 3)⟩, ?_, ?_, (t + 2), (t + 3), rfl, rfl⟩
      · rw [hin]; simp [-List.mapM_map, Env.put, Env.of, argEnv, Srn_eq, rnObs_cons, rnObs_nil, rnOb_arr, rnOb_map, rn_loc, rn_ref, rn_mp, rn_int, rn_bool, rn_str, rn_ip, rn_sl, rn_nils, rn_nilp, rn_undef, rn_agg, rn_tup, rn_fn, rfq_loc, rfq_int, rfq_bool, rfq_str, rfq_sl, frOf, List.range_succ, List.mapM_append, List.mapM_cons]
      · rw [hki, hri, hn]; simp [-List.mapM_map, Env.put, Env.of, argEnv, Srn_eq, rnObs_cons, rnObs_nil, rnOb_arr, rnOb_map, rn_loc, rn_ref, rn_mp, rn_int, rn_bool, rn_str, rn_ip, rn_sl, rn_nils, rn_nilp, rn_undef, rn_agg, rn_tup, rn_fn, rfq_loc, rfq_int, rfq_bool, rfq_str, rfq_sl, frOf, List.range_succ, List.mapM_append, List.mapM_cons, rn_mE, rn_rcs, rn_ints, rn_gcs, mE_app, rcs_app, rcs_one, oneR_cells, rcs_tk]
    · try simp only [RL] at h
      exact absurd h (by simp)
  rintro vs S - ⟨vq, t, rfl, rfl⟩
  have hrs2 := seRs_is hb
  generalize hks1 : seKs ks z = ks1 at hi1 hst
  generalize hrs1 : seIn ks rs z (oneR r c) = rs1 at hb hi1 hi2 hrs2
  have hbl := len_of hb
  refine W.seq_draw (by kernel_rfl) fun K hK => ?_
  have hcell := (oneR_cells (r := r) (c := c)).symm
  have hba : PV.agg b.cells = eRect b := rfl
  simp (disch := omega) only [↓RU, RV, RH, ↓reduceIte, Nat.reduceEqDiff, reduceCtorEq, if_pos, List.append_nil, ↓RS, RG, Nat.reduceAdd, Nat.reduceMul, Nat.reduceLeDiff, tyLLint, tyLimpl_rect, tyLint, tyPimpl_floor, tyimpl_floor, tyimpl_grid, tyimpl_rect, tyint, tystruct_cells_impl_grid_rooms_Limpl_rect_, tystruct_row_int_col_int_high_int_wide_int_, rcs_at hb, rcs_len, ← oneR_cells, hcell, rcell_len, rcell_all, rcs_set4]
  refine CallR.pc (both_pc (b := b) (o := oneR r c) hbf.in_ (oneR_fit hr hc).in_) rfl (.inl rfl) ?_
  simp (disch := omega) only [↓RU, RV, RH, ↓reduceIte, Nat.reduceEqDiff, reduceCtorEq, if_pos, List.append_nil, ↓RS, RG, Nat.reduceAdd, Nat.reduceMul, Nat.reduceLeDiff, tyLLint, tyLimpl_rect, tyLint, tyPimpl_floor, tyimpl_floor, tyimpl_grid, tyimpl_rect, tyint, tystruct_cells_impl_grid_rooms_Limpl_rect_, tystruct_row_int_col_int_high_int_wide_int_, rcs_at hb, rcs_len, ← oneR_cells, hcell, rcell_len, rcell_all, rcs_set4]
  refine hK _ _ ?_
  clear hK K
  refine W.seq_region fun K hK => ?_
  simp (disch := omega) only [↓RU, RV, RH, ↓reduceIte, Nat.reduceEqDiff, reduceCtorEq, if_pos, ↓RS, RG, Nat.reduceAdd, Nat.reduceMul, Nat.reduceLeDiff]
  refine hK _ _ ?_
  clear hK K
  refine W.ret ?_
  refine BodyQ.ret rfl ?_
  refine ⟨9, rfl, vq, t, ?_⟩
  rw [hrs2]
  simp [take_eq]

theorem settled2_new_ev {g d : List (List Int)} {y : List Int} {row ks : List Int} {rs : List Rect} {z : Int} {r c w m xv yv vq t : Nat} (hr : r < 6) (hc : c < 6) (hrow : g[r]? = some row) (hz : row[c]? = some z) (hs : SeOk ks rs) (hk : ks.length ≤ 64) (hin : ks.idxOf z = ks.length) : Ev Tryz.prog 167 [.int .i64 (r : Nat), .int .i64 (c : Nat), .ref 5 5 0, .ref 0 0 0, .ref 3 3 0] ⟨[.arr 0 84 1 [eGrid g], .arr 1 3 1 [.int .i64 w], .arr 2 87 2 [.nils, .loc 8 vq 0 (rs).length], .arr 3 55 1 [.ref 2 2 0], .map 4 (mE ks), .arr 5 158 1 [.mp 4 4], .arr xv 24 1 (gcs d (.loc 7 yv 0 w) m), .arr yv 3 1 (y.map (.int .i64)), .arr vq 161 4 (rcs rs)], t⟩ fun v S => v = .int .i64 ((ks.idxOf z : Nat) : Int) ∧ ∃ vq t : Nat, S = ⟨[.arr 0 84 1 [eGrid g], .arr 1 3 1 [.int .i64 w], .arr 2 87 2 [.nils, .loc 8 vq 0 ((seRs ks rs z (oneR r c))).length], .arr 3 55 1 [.ref 2 2 0], .map 4 (mE (seKs ks z)), .arr 5 158 1 [.mp 4 4], .arr xv 24 1 (gcs d (.loc 7 yv 0 w) m), .arr yv 3 1 (y.map (.int .i64)), .arr vq 161 4 (rcs (seRs ks rs z (oneR r c)))], t⟩ := by
  have hrl := len_of hrow
  have hcl := len_of hz
  have hgl : g.length = g.length := rfl
  obtain ⟨hi1, hi2, b, hb, hbf⟩ := hs.in_ (z := z) (oneR_fit hr hc)
  have hil := idxOf_le (ks := ks) (z := z)
  have hsl := hs.1
  have hst := hs.step (z := z) (oneR_fit hr hc)
  have hfn := findKey_none hin
  have hki : seKs ks z = ks ++ [z] := by simp [seKs, hin]
  have hri : seIn ks rs z (oneR r c) = rs ++ [oneR r c] := by simp [seIn, hin]
  refine Ev.of ⟨Tryz.func167, by kernel_rfl, rfl, by kernel_rfl⟩ tabOk mixed (by show 5 ≤ Tryz.f167.ntmps; decide) ?_
  refine W.seq_region fun K hK => ?_
  simp (disch := omega) only [↓RU, RV, RH, ↓reduceIte, Nat.reduceEqDiff, reduceCtorEq, if_pos, ↓RS, RG, Nat.reduceAdd, Nat.reduceMul, Nat.reduceLeDiff]
  refine hK _ _ ?_
  clear hK K
  refine W.seq_draw (by kernel_rfl) fun K hK => ?_
  simp (disch := omega) only [↓RU, RV, RH, ↓reduceIte, Nat.reduceEqDiff, reduceCtorEq, if_pos, ↓RS, RG, Nat.reduceAdd, Nat.reduceMul, Nat.reduceLeDiff, tyLLint, tyLint, tyimpl_grid, tyint, tymapBint_int, hrow, hz, mE_len, hfn]
  refine hK _ _ ?_
  clear hK K
  refine W.joinS [0, 1, 2, 3, 4, 8] (fun vs S => ∃ vq t : Nat, vs = [.int .i64 (r : Nat), .int .i64 (c : Nat), .ref 5 5 0, .ref 0 0 0, .ref 3 3 0, .int .i64 ((ks.idxOf z : Nat) : Int)] ∧ S = ⟨[.arr 0 84 1 [eGrid g], .arr 1 3 1 [.int .i64 w], .arr 2 87 2 [.nils, .loc 8 vq 0 ((seIn ks rs z (oneR r c))).length], .arr 3 55 1 [.ref 2 2 0], .map 4 (mE (seKs ks z)), .arr 5 158 1 [.mp 4 4], .arr xv 24 1 (gcs d (.loc 7 yv 0 w) m), .arr yv 3 1 (y.map (.int .i64)), .arr vq 161 4 (rcs (seIn ks rs z (oneR r c)))], t⟩) ?_ ?_
  ·
    refine W.seq_region fun K hK => ?_
    simp (disch := omega) only [↓RU, RV, RH, ↓reduceIte, Nat.reduceEqDiff, reduceCtorEq, if_pos, ↓RS, RG, Nat.reduceAdd, Nat.reduceMul, Nat.reduceLeDiff]
    refine hK _ _ ?_
    clear hK K
    refine W.cond rfl (fun h => ?_) (fun h => ?_)
    · try simp only [RL] at h
      refine W.seq_region fun K hK => ?_
      simp (disch := omega) only [↓RU, RV, RH, ↓reduceIte, Nat.reduceEqDiff, reduceCtorEq, if_pos, ↓RS, RG, Nat.reduceAdd, Nat.reduceMul, Nat.reduceLeDiff, tyint, tymapBint_int, mE_len]
      refine hK _ _ ?_
      clear hK K
      refine W.seq_draw (by kernel_rfl) fun K hK => ?_
      simp (disch := omega) only [↓RU, RV, RH, ↓reduceIte, Nat.reduceEqDiff, reduceCtorEq, if_pos, ↓RS, RG, Nat.reduceAdd, Nat.reduceMul, Nat.reduceLeDiff, tyLLint, tyLint, tyimpl_grid, tyint, tymapBint_int, hrow, hz, hfn, keyed_int]
      refine hK _ _ ?_
      clear hK K
      refine W.region_pk 10 [some 35, some 36, some 37, some 38, some 39] [2, 3] (by decide) (by kernel_rfl) fun K hK => ?_
      simp only [List.take_succ_cons, List.take_zero, List.drop_succ_cons, List.drop_zero]
      refine eRunK_pend (.ref 2 2 0) rfl rfl rfl (fun S' hS => ?_) ?_
      · skip
        have k2 := (hS 2 (by decide)).trans (show _ = some _ from rfl)
        have k3 := (hS 3 (by decide)).trans (show _ = some _ from rfl)
        simp (disch := omega) only [↓RU, RV, RH, ↓reduceIte, Nat.reduceEqDiff, reduceCtorEq, if_pos, ↓RS, RG, Nat.reduceAdd, Nat.reduceMul, Nat.reduceLeDiff, tyLLint, tyLimpl_rect, tyLint, tyPimpl_floor, tyimpl_floor, tyimpl_grid, tyimpl_rect, tyint, tystruct_cells_impl_grid_rooms_Limpl_rect_, tystruct_row_int_col_int_high_int_wide_int_, rcs_len, rcell_len, rcell_all, pp_load, pp_nil, pp_fa, pp_ia, k2, k3]
      refine eRunK_pend (.ref 2 2 0) rfl rfl rfl (fun S' hS => ?_) ?_
      · skip
        have k2 := (hS 2 (by decide)).trans (show _ = some _ from rfl)
        have k3 := (hS 3 (by decide)).trans (show _ = some _ from rfl)
        simp (disch := omega) only [↓RU, RV, RH, ↓reduceIte, Nat.reduceEqDiff, reduceCtorEq, if_pos, ↓RS, RG, Nat.reduceAdd, Nat.reduceMul, Nat.reduceLeDiff, tyLLint, tyLimpl_rect, tyLint, tyPimpl_floor, tyimpl_floor, tyimpl_grid, tyimpl_rect, tyint, tystruct_cells_impl_grid_rooms_Limpl_rect_, tystruct_row_int_col_int_high_int_wide_int_, rcs_len, rcell_len, rcell_all, pp_load, pp_nil, pp_fa, pp_ia, k2, k3]
      refine eRunK_pend (.ref 2 2 0) rfl rfl rfl (fun S' hS => ?_) ?_
      · skip
        have k2 := (hS 2 (by decide)).trans (show _ = some _ from rfl)
        have k3 := (hS 3 (by decide)).trans (show _ = some _ from rfl)
        simp (disch := omega) only [↓RU, RV, RH, ↓reduceIte, Nat.reduceEqDiff, reduceCtorEq, if_pos, ↓RS, RG, Nat.reduceAdd, Nat.reduceMul, Nat.reduceLeDiff, tyLLint, tyLimpl_rect, tyLint, tyPimpl_floor, tyimpl_floor, tyimpl_grid, tyimpl_rect, tyint, tystruct_cells_impl_grid_rooms_Limpl_rect_, tystruct_row_int_col_int_high_int_wide_int_, rcs_len, rcell_len, rcell_all, pp_load, pp_nil, pp_fa, pp_ia, k2, k3]
      refine eRunK_pend (.ref 2 2 1) rfl rfl rfl (fun S' hS => ?_) ?_
      · skip
        have k2 := (hS 2 (by decide)).trans (show _ = some _ from rfl)
        have k3 := (hS 3 (by decide)).trans (show _ = some _ from rfl)
        simp (disch := omega) only [↓RU, RV, RH, ↓reduceIte, Nat.reduceEqDiff, reduceCtorEq, if_pos, ↓RS, RG, Nat.reduceAdd, Nat.reduceMul, Nat.reduceLeDiff, tyLLint, tyLimpl_rect, tyLint, tyPimpl_floor, tyimpl_floor, tyimpl_grid, tyimpl_rect, tyint, tystruct_cells_impl_grid_rooms_Limpl_rect_, tystruct_row_int_col_int_high_int_wide_int_, rcs_len, rcell_len, rcell_all, pp_load, pp_nil, pp_fa, pp_ia, k2, k3]
      refine eRunK_pend (.loc 8 vq 0 rs.length) rfl rfl rfl (fun S' hS => ?_) ?_
      · skip
        have k2 := (hS 2 (by decide)).trans (show _ = some _ from rfl)
        have k3 := (hS 3 (by decide)).trans (show _ = some _ from rfl)
        simp (disch := omega) only [↓RU, RV, RH, ↓reduceIte, Nat.reduceEqDiff, reduceCtorEq, if_pos, ↓RS, RG, Nat.reduceAdd, Nat.reduceMul, Nat.reduceLeDiff, tyLLint, tyLimpl_rect, tyLint, tyPimpl_floor, tyimpl_floor, tyimpl_grid, tyimpl_rect, tyint, tystruct_cells_impl_grid_rooms_Limpl_rect_, tystruct_row_int_col_int_high_int_wide_int_, rcs_len, rcell_len, rcell_all, pp_load, pp_nil, pp_fa, pp_ia, k2, k3]
      refine eRunK_go rfl ?_
      simp (disch := omega) only [↓RU, RV, RH, ↓reduceIte, Nat.reduceEqDiff, reduceCtorEq, if_pos, ↓RS, RG, Nat.reduceAdd, Nat.reduceMul, Nat.reduceLeDiff, tyLLint, tyLimpl_rect, tyLint, tyPimpl_floor, tyimpl_floor, tyimpl_grid, tyimpl_rect, tyint, tystruct_cells_impl_grid_rooms_Limpl_rect_, tystruct_row_int_col_int_high_int_wide_int_, rcs_len, rcell_len, rcell_all, keeps_cons, keeps_nil]
      refine eRunK_go rfl ?_
      simp (disch := omega) only [↓RU, RV, RH, ↓reduceIte, Nat.reduceEqDiff, reduceCtorEq, if_pos, ↓RS, RG, Nat.reduceAdd, Nat.reduceMul, Nat.reduceLeDiff, tyLLint, tyLimpl_rect, tyLint, tyPimpl_floor, tyimpl_floor, tyimpl_grid, tyimpl_rect, tyint, tystruct_cells_impl_grid_rooms_Limpl_rect_, tystruct_row_int_col_int_high_int_wide_int_, rcs_len, rcell_len, rcell_all, keeps_cons, keeps_nil]
      refine eRunK_go rfl ?_
      simp (disch := omega) only [↓RU, RV, RH, ↓reduceIte, Nat.reduceEqDiff, reduceCtorEq, if_pos, ↓RS, RG, Nat.reduceAdd, Nat.reduceMul, Nat.reduceLeDiff, tyLLint, tyLimpl_rect, tyLint, tyPimpl_floor, tyimpl_floor, tyimpl_grid, tyimpl_rect, tyint, tystruct_cells_impl_grid_rooms_Limpl_rect_, tystruct_row_int_col_int_high_int_wide_int_, rcs_len, rcell_len, rcell_all, keeps_cons, keeps_nil]
      refine eRunK_go rfl ?_
      simp (disch := omega) only [↓RU, RV, RH, ↓reduceIte, Nat.reduceEqDiff, reduceCtorEq, if_pos, ↓RS, RG, Nat.reduceAdd, Nat.reduceMul, Nat.reduceLeDiff, tyLLint, tyLimpl_rect, tyLint, tyPimpl_floor, tyimpl_floor, tyimpl_grid, tyimpl_rect, tyint, tystruct_cells_impl_grid_rooms_Limpl_rect_, tystruct_row_int_col_int_high_int_wide_int_, rcs_len, rcell_len, rcell_all, keeps_cons, keeps_nil]
      refine eRunK_go rfl ?_
      simp (disch := omega) only [↓RU, RV, RH, ↓reduceIte, Nat.reduceEqDiff, reduceCtorEq, if_pos, ↓RS, RG, Nat.reduceAdd, Nat.reduceMul, Nat.reduceLeDiff, tyLLint, tyLimpl_rect, tyLint, tyPimpl_floor, tyimpl_floor, tyimpl_grid, tyimpl_rect, tyint, tystruct_cells_impl_grid_rooms_Limpl_rect_, tystruct_row_int_col_int_high_int_wide_int_, rcs_len, rcell_len, rcell_all, keeps_cons, keeps_nil]
      refine eRunK_end ?_
      simp (disch := omega) only [↓RU, RV, RH, ↓reduceIte, Nat.reduceEqDiff, reduceCtorEq, if_pos, ↓RS, RG, Nat.reduceAdd, Nat.reduceMul, Nat.reduceLeDiff, tyLLint, tyLimpl_rect, tyLint, tyPimpl_floor, tyimpl_floor, tyimpl_grid, tyimpl_rect, tyint, tystruct_cells_impl_grid_rooms_Limpl_rect_, tystruct_row_int_col_int_high_int_wide_int_, rcs_len, rcell_len, rcell_all]
      refine hK _ _ ?_
      clear hK K
      refine XThen.norm ?_
      refine ⟨9, [], [.int .i64 (r : Nat), .int .i64 (c : Nat), .ref 5 5 0, .ref 0 0 0, .ref 3 3 0, .int .i64 ((ks.idxOf z : Nat) : Int)], ⟨[.arr 0 84 1 [eGrid g], .arr 1 3 1 [.int .i64 w], .arr 2 87 2 [.nils, .loc 8 (t + 1) 0 ((seIn ks rs z (oneR r c))).length], .arr 3 55 1 [.ref 2 2 0], .map 4 (mE (seKs ks z)), .arr 5 158 1 [.mp 4 4], .arr xv 24 1 (gcs d (.loc 7 yv 0 w) m), .arr yv 3 1 (y.map (.int .i64)), .arr (t + 1) 161 4 (rcs (seIn ks rs z (oneR r c)))], (t + 3)⟩, ?_, ?_, (t + 1), (t + 3), rfl, rfl⟩
      · rw [hin]; simp [-List.mapM_map, Env.put, Env.of, argEnv, Srn_eq, rnObs_cons, rnObs_nil, rnOb_arr, rnOb_map, rn_loc, rn_ref, rn_mp, rn_int, rn_bool, rn_str, rn_ip, rn_sl, rn_nils, rn_nilp, rn_undef, rn_agg, rn_tup, rn_fn, rfq_loc, rfq_int, rfq_bool, rfq_str, rfq_sl, frOf, List.range_succ, List.mapM_append, List.mapM_cons]
      · rw [hki, hri]; simp [-List.mapM_map, Env.put, Env.of, argEnv, Srn_eq, rnObs_cons, rnObs_nil, rnOb_arr, rnOb_map, rn_loc, rn_ref, rn_mp, rn_int, rn_bool, rn_str, rn_ip, rn_sl, rn_nils, rn_nilp, rn_undef, rn_agg, rn_tup, rn_fn, rfq_loc, rfq_int, rfq_bool, rfq_str, rfq_sl, frOf, List.range_succ, List.mapM_append, List.mapM_cons, rn_mE, rn_rcs, rn_ints, rn_gcs, mE_app, rcs_app, rcs_one, oneR_cells, rcs_tk]
    · try simp only [RL] at h
      exact absurd h (by simp)
  rintro vs S - ⟨vq, t, rfl, rfl⟩
  have hrs2 := seRs_is hb
  generalize hks1 : seKs ks z = ks1 at hi1 hst
  generalize hrs1 : seIn ks rs z (oneR r c) = rs1 at hb hi1 hi2 hrs2
  have hbl := len_of hb
  refine W.seq_draw (by kernel_rfl) fun K hK => ?_
  have hcell := (oneR_cells (r := r) (c := c)).symm
  have hba : PV.agg b.cells = eRect b := rfl
  simp (disch := omega) only [↓RU, RV, RH, ↓reduceIte, Nat.reduceEqDiff, reduceCtorEq, if_pos, List.append_nil, ↓RS, RG, Nat.reduceAdd, Nat.reduceMul, Nat.reduceLeDiff, tyLLint, tyLimpl_rect, tyLint, tyPimpl_floor, tyimpl_floor, tyimpl_grid, tyimpl_rect, tyint, tystruct_cells_impl_grid_rooms_Limpl_rect_, tystruct_row_int_col_int_high_int_wide_int_, rcs_at hb, rcs_len, ← oneR_cells, hcell, rcell_len, rcell_all, rcs_set4]
  refine CallR.pc (both_pc (b := b) (o := oneR r c) hbf.in_ (oneR_fit hr hc).in_) rfl (.inl rfl) ?_
  simp (disch := omega) only [↓RU, RV, RH, ↓reduceIte, Nat.reduceEqDiff, reduceCtorEq, if_pos, List.append_nil, ↓RS, RG, Nat.reduceAdd, Nat.reduceMul, Nat.reduceLeDiff, tyLLint, tyLimpl_rect, tyLint, tyPimpl_floor, tyimpl_floor, tyimpl_grid, tyimpl_rect, tyint, tystruct_cells_impl_grid_rooms_Limpl_rect_, tystruct_row_int_col_int_high_int_wide_int_, rcs_at hb, rcs_len, ← oneR_cells, hcell, rcell_len, rcell_all, rcs_set4]
  refine hK _ _ ?_
  clear hK K
  refine W.seq_region fun K hK => ?_
  simp (disch := omega) only [↓RU, RV, RH, ↓reduceIte, Nat.reduceEqDiff, reduceCtorEq, if_pos, ↓RS, RG, Nat.reduceAdd, Nat.reduceMul, Nat.reduceLeDiff]
  refine hK _ _ ?_
  clear hK K
  refine W.ret ?_
  refine BodyQ.ret rfl ?_
  refine ⟨9, rfl, vq, t, ?_⟩
  rw [hrs2]
  simp [take_eq]

end Fw
end Go.Proofs.YtcglmbijpjhbmaaGreat

/-! The numbering of all rooms of a grid. -/
namespace Go.Proofs.YtcglmbijpjhbmaaGreat
namespace Fw
open Go

def prS (g : List (List Int)) (w : Nat) (rv : PV) (ks : List Int) : List Ob := [.arr 0 84 1 [eGrid g], .arr 1 3 1 [.int .i64 w], .arr 2 87 2 [.nils, rv], .arr 3 55 1 [.ref 2 2 0], .map 4 (mE ks), .arr 5 158 1 [.mp 4 4]]
/-- The store while a row is being filled. -/
def seS (g : List (List Int)) (w : Nat) (xv yv : Nat) (x y : List PV) (ks : List Int) (rs : List Rect) (vq t : Nat) : Store :=
  match rs with
  | [] => ⟨prS g w .nils ks ++ [.arr xv 24 1 x, .arr yv 3 1 y], t⟩
  | rs => ⟨prS g w (.loc 8 vq 0 rs.length) ks ++ [.arr xv 24 1 x, .arr yv 3 1 y, .arr vq 161 4 (rcs rs)], t⟩
theorem seS_nil {g : List (List Int)} {w xv yv : Nat} {x y : List PV} {ks : List Int} {vq t : Nat} : seS g w xv yv x y ks [] vq t = ⟨prS g w .nils ks ++ [.arr xv 24 1 x, .arr yv 3 1 y], t⟩ := rfl
theorem seS_ne {g : List (List Int)} {w xv yv : Nat} {x y : List PV} {ks : List Int} {rs : List Rect} {vq t : Nat} (h : rs ≠ []) : seS g w xv yv x y ks rs vq t = ⟨prS g w (.loc 8 vq 0 rs.length) ks ++ [.arr xv 24 1 x, .arr yv 3 1 y, .arr vq 161 4 (rcs rs)], t⟩ := by
  cases rs with
  | nil => exact absurd rfl h
  | cons a l => rfl
section
variable {g : List (List Int)} {w xv yv : Nat} {x y y2 : List PV} {ks : List Int} {rs : List Rect} {vq t : Nat}
theorem seS_get6 : (seS g w xv yv x y ks rs vq t).obs[6]? = some (.arr xv 24 1 x) := by cases rs <;> rfl
theorem seS_get7 : (seS g w xv yv x y ks rs vq t).obs[7]? = some (.arr yv 3 1 y) := by cases rs <;> rfl
theorem seS_upd : (seS g w xv yv x y ks rs vq t).set 7 (.arr yv 3 1 y2) = seS g w xv yv x y2 ks rs vq t := by cases rs <;> rfl
end
theorem rn_rep {S : Store} {k f : Nat} {sel : List Nat} {n : Nat} {q : IntKind} {z : Int} : (List.replicate n (PV.int q z)).mapM (rn S k sel (f + 1)) = some (List.replicate n (PV.int q z)) :=
  mapM_same fun x hx => by obtain rfl := List.eq_of_mem_replicate hx; rfl
theorem rn_nilsr {S : Store} {k f : Nat} {sel : List Nat} {n : Nat} : (List.replicate n PV.nils).mapM (rn S k sel (f + 1)) = some (List.replicate n PV.nils) :=
  mapM_same fun x hx => by obtain rfl := List.eq_of_mem_replicate hx; rfl
theorem rn_gcs2 {S : Store} {k f : Nat} {sel : List Nat} {d : List (List Int)} {cur : PV} {m : Nat} : (gcs d cur m).mapM (rn S k sel (f + 1)) = (rn S k sel (f + 1) cur).map fun c => gcs d c m := by
  unfold gcs
  rw [List.mapM_append, mapM_same (l := d.map eInts) (fun x hx => by obtain ⟨a, _, rfl⟩ := List.mem_map.1 hx; rfl), List.mapM_cons, mapM_same (l := List.replicate m PV.nils) (fun x hx => by obtain rfl := List.eq_of_mem_replicate hx; rfl)]
  cases rn S k sel (f + 1) cur <;> rfl
theorem rfq_ints {S : Store} {fr : Nat → Bool} {f : Nat} {q : IntKind} (l : List Int) : (l.map (PV.int q)).mapM (rfq S fr (f + 1)) = some (l.map (PV.int q)) :=
  mapM_same fun x hx => by obtain ⟨a, _, rfl⟩ := List.mem_map.1 hx; rfl
/-- The store between rows. -/
def seO (g : List (List Int)) (w : Nat) (xv : Nat) (x : List PV) (ks : List Int) (rs : List Rect) (vq t : Nat) : Store :=
  match rs with
  | [] => ⟨prS g w .nils ks ++ [.arr xv 24 1 x], t⟩
  | rs => ⟨prS g w (.loc 7 vq 0 rs.length) ks ++ [.arr xv 24 1 x, .arr vq 161 4 (rcs rs)], t⟩
theorem seO_nil {g : List (List Int)} {w xv : Nat} {x : List PV} {ks : List Int} {vq t : Nat} : seO g w xv x ks [] vq t = ⟨prS g w .nils ks ++ [.arr xv 24 1 x], t⟩ := rfl
theorem seO_ne {g : List (List Int)} {w xv : Nat} {x : List PV} {ks : List Int} {rs : List Rect} {vq t : Nat} (h : rs ≠ []) : seO g w xv x ks rs vq t = ⟨prS g w (.loc 7 vq 0 rs.length) ks ++ [.arr xv 24 1 x, .arr vq 161 4 (rcs rs)], t⟩ := by
  cases rs with
  | nil => exact absurd rfl h
  | cons a l => rfl

def seRow (g : List (List Int)) (i : Nat) (s : List Int × List Rect) : Nat → List Int × List Rect
  | 0 => s
  | j + 1 => (seKs (seRow g i s j).1 (gz g i j), seRs (seRow g i s j).1 (seRow g i s j).2 (gz g i j) (oneR i j))
def seRows (g : List (List Int)) (nw : Nat) : Nat → List Int × List Rect
  | 0 => ([], [])
  | i + 1 => seRow g i (seRows g nw i) nw
/-- The numbers of a row. -/
def zRow (g : List (List Int)) (i : Nat) (s : List Int × List Rect) : Nat → List Int
  | 0 => []
  | j + 1 => zRow g i s j ++ [(((seRow g i s j).1.idxOf (gz g i j) : Nat) : Int)]
def zRows (g : List (List Int)) (nw : Nat) : Nat → List (List Int)
  | 0 => []
  | i + 1 => zRows g nw i ++ [zRow g i (seRows g nw i) nw]
theorem zRow_len {g : List (List Int)} {i : Nat} {s : List Int × List Rect} : ∀ j, (zRow g i s j).length = j
  | 0 => rfl
  | j + 1 => by simp [zRow, zRow_len j]
theorem zRow_set {g : List (List Int)} {i nw j : Nat} {s : List Int × List Rect} (h : j < nw) : zRow g i s (j + 1) ++ List.replicate (nw - (j + 1)) 0 = (zRow g i s j ++ List.replicate (nw - j) 0).set j (((seRow g i s j).1.idxOf (gz g i j) : Nat) : Int) := by
  obtain ⟨m, hm⟩ : ∃ m, nw - j = m + 1 := ⟨nw - j - 1, by omega⟩
  rw [hm, show nw - (j + 1) = m by omega, List.set_append_right _ _ (by rw [zRow_len]; exact Nat.le_refl _), zRow_len, Nat.sub_self]
  simp [zRow, List.replicate_succ]
theorem zRows_len {g : List (List Int)} {nw : Nat} : ∀ i, (zRows g nw i).length = i
  | 0 => rfl
  | i + 1 => by simp [zRows, zRows_len i]
theorem seKs_len {ks : List Int} {z : Int} : (seKs ks z).length ≤ ks.length + 1 ∧ ks.length ≤ (seKs ks z).length ∧ 1 ≤ (seKs ks z).length := by
  have h := idxOf_le (ks := ks) (z := z)
  unfold seKs
  split
  · simp
  · refine ⟨by omega, by omega, ?_⟩
    have : ks.idxOf z ≠ ks.length := by assumption
    omega
theorem seRow_ok {g : List (List Int)} {i : Nat} (hi : i < 6) {s : List Int × List Rect} (h : SeOk s.1 s.2) : ∀ j, j ≤ 6 → SeOk (seRow g i s j).1 (seRow g i s j).2 ∧ (seRow g i s j).1.length ≤ s.1.length + j ∧ s.1.length ≤ (seRow g i s j).1.length ∧ (1 ≤ j → 1 ≤ (seRow g i s j).1.length)
  | 0, _ => ⟨h, by simp [seRow], by simp [seRow], by omega⟩
  | j + 1, hj => by
    obtain ⟨h1, h2, h3, h4⟩ := seRow_ok hi h j (by omega)
    have := seKs_len (ks := (seRow g i s j).1) (z := gz g i j)
    exact ⟨h1.step (oneR_fit hi (by omega)), by simp only [seRow]; omega, by simp only [seRow]; omega, fun _ => by simp only [seRow]; omega⟩
theorem seRows_ok {g : List (List Int)} {nw : Nat} (hw : nw ≤ 6) (hw1 : 1 ≤ nw) : ∀ i, i ≤ 6 → SeOk (seRows g nw i).1 (seRows g nw i).2 ∧ (seRows g nw i).1.length ≤ 6 * i ∧ (1 ≤ i → 1 ≤ (seRows g nw i).1.length)
  | 0, _ => ⟨SeOk.nil, by simp [seRows], by omega⟩
  | i + 1, hi => by
    obtain ⟨h1, h2, h3⟩ := seRows_ok hw hw1 i (by omega)
    obtain ⟨k1, k2, k3, k4⟩ := seRow_ok (g := g) (i := i) (by omega) h1 nw hw
    exact ⟨k1, by simp only [seRows]; omega, fun _ => by simp only [seRows]; exact k4 hw1⟩
theorem SeOk.ne {ks : List Int} {rs : List Rect} (h : SeOk ks rs) (h1 : 1 ≤ ks.length) : rs ≠ [] := by
  rintro rfl
  have := h.1
  simp at this; omega
theorem SeOk.nl {ks : List Int} (h : SeOk ks []) : ks = [] := List.eq_nil_of_length_eq_zero h.1.symm
theorem gcs_get {d : List (List Int)} {cur : PV} {m i : Nat} (h : d.length = i) : (gcs d cur m)[i]? = some cur := by subst h; simp [gcs]
theorem gcs_len {d : List (List Int)} {cur : PV} {m : Nat} : (gcs d cur m).length = d.length + 1 + m := by simp [gcs]; omega
/-- A grid whose last rows aren't made yet. -/
def gc0 (d : List (List Int)) (m : Nat) : List PV := d.map eInts ++ List.replicate m .nils
theorem gc0_len {d : List (List Int)} {m : Nat} : (gc0 d m).length = d.length + m := by simp [gc0]
theorem gc0_set {d : List (List Int)} {m i : Nat} {c : PV} (h : d.length = i) (hm : 1 ≤ m) : (gc0 d m).take i ++ [c] ++ (gc0 d m).drop (i + 1) = gcs d c (m - 1) := by
  subst h
  obtain ⟨m, rfl⟩ : ∃ n, m = n + 1 := ⟨m - 1, by omega⟩
  simp only [gc0, gcs, Nat.add_sub_cancel]
  rw [show d.length = (d.map eInts).length by simp, List.take_left, List.drop_length_add_append]
  simp [List.replicate_succ]
theorem gcs_gc0 {d : List (List Int)} {r : List Int} {m : Nat} : gcs d (eInts r) m = gc0 (d ++ [r]) m := by simp [gcs, gc0]
theorem gc0_all {d : List (List Int)} : gc0 d 0 = d.map eInts := by simp [gc0]
theorem gc0_nil {m : Nat} : gc0 [] m = List.replicate m .nils := rfl
end Fw
end Go.Proofs.YtcglmbijpjhbmaaGreat

/-! Grids of the program, gone through. -/
namespace Go.Proofs.YtcglmbijpjhbmaaGreat
namespace Fw
open Go

theorem settled2_ev {g d : List (List Int)} {y : List Int} {row ks : List Int} {rs : List Rect} {z : Int} {r c w m xv yv vq t : Nat} (hr : r < 6) (hc : c < 6) (hrow : g[r]? = some row) (hz : row[c]? = some z) (hs : SeOk ks rs) (hk : ks.length ≤ 64) :
    Ev Tryz.prog 167 [.int .i64 (r : Nat), .int .i64 (c : Nat), .ref 5 5 0, .ref 0 0 0, .ref 3 3 0] (seS g w xv yv (gcs d (.loc 7 yv 0 w) m) (y.map (.int .i64)) ks rs vq t)
      fun v S => v = .int .i64 ((ks.idxOf z : Nat) : Int) ∧ ∃ vq t : Nat, S = seS g w xv yv (gcs d (.loc 7 yv 0 w) m) (y.map (.int .i64)) (seKs ks z) (seRs ks rs z (oneR r c)) vq t := by
  have hne : seRs ks rs z (oneR r c) ≠ [] := (hs.step (z := z) (oneR_fit hr hc)).ne seKs_len.2.2
  simp only [seS_ne hne]
  by_cases h0 : rs = []
  · subst h0
    rw [seS_nil]
    exact settled2_first_ev (vq := 0) hr hc hrow hz hs hk rfl hs.nl
  · rw [seS_ne h0]
    by_cases hin : ks.idxOf z = ks.length
    · exact settled2_new_ev hr hc hrow hz hs hk hin
    · exact settled2_old_ev hr hc hrow hz hs hk hin

theorem blank_ev {g : List (List Int)} {nh nw : Nat} (hg : GW g nh nw) : Ev Tryz.prog 166 [.int .i64 nh, .int .i64 nw, .fn 167 [.ref 5 5 0, .ref 0 0 0, .ref 3 3 0]] ⟨prS g nw .nils [], 6⟩ fun v S => ∃ xv vq t : Nat, v = .loc 6 xv 0 nh ∧ S = seO g nw xv ((zRows g nw nh).map eInts) (seRows g nw nh).1 (seRows g nw nh).2 vq t := by
  have hl := hg.1
  obtain ⟨hg1, hg2, hg3, hg4⟩ := hg.2.2
  refine Ev.of ⟨Tryz.func166, by kernel_rfl, rfl, by kernel_rfl⟩ tabOk mixed (by show 3 ≤ Tryz.f166.ntmps; decide) ?_
  refine W.seq_region fun K hK => ?_
  simp (disch := omega) only [↓RU, RV, RH, ↓reduceIte, Nat.reduceEqDiff, reduceCtorEq, if_pos, ↓RS, RG, Nat.reduceAdd, Nat.reduceMul, Nat.reduceLeDiff, prS]
  refine hK _ _ ?_
  clear hK K
  refine W.seq_region fun K hK => ?_
  simp (disch := omega) only [↓RU, RV, RH, ↓reduceIte, Nat.reduceEqDiff, reduceCtorEq, if_pos, ↓RS, RG, Nat.reduceAdd, Nat.reduceMul, Nat.reduceLeDiff, tyLLint, tyLint, tyimpl_grid, tyint, prS, repz_nils, repz_int, ile_true]
  refine hK _ _ ?_
  clear hK K
  refine W.seq ?_
  refine W.seq_region fun K hK => ?_
  simp (disch := omega) only [↓RU, RV, RH, ↓reduceIte, Nat.reduceEqDiff, reduceCtorEq, if_pos, ↓RS, RG, Nat.reduceAdd, Nat.reduceMul, Nat.reduceLeDiff, tyLLint, tyLint, tyimpl_grid, tyint, prS]
  refine hK _ _ ?_
  clear hK K
  refine W.block ?_
  refine W.loopS [1, 2, 7, 13, 14] (fun n vs S => ∃ (i xv vq t : Nat), n = nh - i ∧ i ≤ nh ∧ vs = [.int .i64 nw, .fn 167 [.ref 5 5 0, .ref 0 0 0, .ref 3 3 0], .loc 6 xv 0 nh, .int .i64 nh, .int .i64 (i : Nat)] ∧ S = seO g nw xv (gc0 (zRows g nw i) (nh - i)) (seRows g nw i).1 (seRows g nw i).2 vq t) nh ?_ ?_
  · refine ⟨7, [], [.int .i64 nw, .fn 167 [.ref 5 5 0, .ref 0 0 0, .ref 3 3 0], .loc 6 6 0 nh, .int .i64 nh, .int .i64 (0 : Nat)], seO g nw 6 (gc0 (zRows g nw 0) (nh - 0)) (seRows g nw 0).1 (seRows g nw 0).2 0 8, ?_, ?_, 0, 6, 0, 8, rfl, Nat.zero_le _, rfl, rfl⟩
    · simp [-List.mapM_map, Env.put, Env.of, argEnv, Srn_eq, rnObs_cons, rnObs_nil, rnOb_arr, rnOb_map, rn_loc, rn_ref, rn_mp, rn_int, rn_bool, rn_str, rn_ip, rn_sl, rn_nils, rn_nilp, rn_undef, rn_agg, rn_tup, rn_fn, rfq_loc, rfq_int, rfq_bool, rfq_str, rfq_sl, frOf, List.range_succ, List.mapM_append, List.mapM_cons]
    · simp [-List.mapM_map, Env.put, Env.of, argEnv, Srn_eq, rnObs_cons, rnObs_nil, rnOb_arr, rnOb_map, rn_loc, rn_ref, rn_mp, rn_int, rn_bool, rn_str, rn_ip, rn_sl, rn_nils, rn_nilp, rn_undef, rn_agg, rn_tup, rn_fn, rfq_loc, rfq_int, rfq_bool, rfq_str, rfq_sl, frOf, List.range_succ, List.mapM_append, List.mapM_cons, prS, seO_nil, seRows, zRows, gc0_nil, rn_nilsr, rn_mE]
  rintro n vs S - ⟨i, xv, vq, t, rfl, h_i, rfl, rfl⟩
  refine W.seq_region fun K hK => ?_
  simp (disch := omega) only [↓RU, RV, RH, ↓reduceIte, Nat.reduceEqDiff, reduceCtorEq, if_pos, w64, ↓RS, RG, Nat.reduceAdd, Nat.reduceMul, Nat.reduceLeDiff, tyint, prS]
  refine hK _ _ ?_
  clear hK K
  refine W.seq ?_
  refine W.cond rfl (fun h => ?_) (fun h => ?_)
  · try simp only [RL] at h
    have hzl := zRows_len (g := g) (nw := nw) i
    have hiw : i < nh := by omega
    obtain ⟨hso, hsl, hsp⟩ := seRows_ok (g := g) hg4 hg3 i (by omega)
    refine W.skip ?_
    refine XThen.norm ?_
    refine W.seq ?_
    refine W.block ?_
    refine W.seq_region fun K hK => ?_
    simp (disch := omega) only [↓RU, RV, RH, ↓reduceIte, Nat.reduceEqDiff, reduceCtorEq, if_pos, ↓RS, RG, Nat.reduceAdd, Nat.reduceMul, Nat.reduceLeDiff, prS]
    refine hK _ _ ?_
    clear hK K
    refine W.joinS [1, 2, 7, 8, 13, 14] (fun vs S => ∃ (yv vq t : Nat), vs = [.int .i64 nw, .fn 167 [.ref 5 5 0, .ref 0 0 0, .ref 3 3 0], .loc 6 xv 0 nh, .int .i64 (i : Nat), .int .i64 nh, .int .i64 (i : Nat)] ∧ S = seS g nw xv yv (gcs (zRows g nw i) (.loc 7 yv 0 nw) (nh - i - 1)) ((List.replicate nw 0).map (.int .i64)) (seRows g nw i).1 (seRows g nw i).2 vq t) ?_ ?_
    ·
      refine W.region_k fun K hK => ?_
      by_cases hi0 : seRows g nw i = ([], [])
      · skip
        rw [hi0, seO_nil]
        simp (disch := omega) only [↓RU, RV, RH, ↓reduceIte, Nat.reduceEqDiff, reduceCtorEq, if_pos, ↓RS, RG, Nat.reduceAdd, Nat.reduceMul, Nat.reduceLeDiff, tyLLint, tyLint, tyimpl_grid, tyint, prS, repz_int, ile_true, gc0_len, zRows_len, gc0_set]
        refine hK _ _ ?_
        clear hK K
        refine XThen.norm ?_
        refine ⟨8, [], [.int .i64 nw, .fn 167 [.ref 5 5 0, .ref 0 0 0, .ref 3 3 0], .loc 6 xv 0 nh, .int .i64 (i : Nat), .int .i64 nh, .int .i64 (i : Nat)], seS g nw xv t (gcs (zRows g nw i) (.loc 7 t 0 nw) (nh - i - 1)) ((List.replicate nw 0).map (.int .i64)) (seRows g nw i).1 (seRows g nw i).2 vq (t + 2), ?_, ?_, t, vq, t + 2, rfl, rfl⟩
        · simp [-List.mapM_map, Env.put, Env.of, argEnv, Srn_eq, rnObs_cons, rnObs_nil, rnOb_arr, rnOb_map, rn_loc, rn_ref, rn_mp, rn_int, rn_bool, rn_str, rn_ip, rn_sl, rn_nils, rn_nilp, rn_undef, rn_agg, rn_tup, rn_fn, rfq_loc, rfq_int, rfq_bool, rfq_str, rfq_sl, frOf, List.range_succ, List.mapM_append, List.mapM_cons]
        · rw [hi0, seS_nil]; simp [-List.mapM_map, Env.put, Env.of, argEnv, Srn_eq, rnObs_cons, rnObs_nil, rnOb_arr, rnOb_map, rn_loc, rn_ref, rn_mp, rn_int, rn_bool, rn_str, rn_ip, rn_sl, rn_nils, rn_nilp, rn_undef, rn_agg, rn_tup, rn_fn, rfq_loc, rfq_int, rfq_bool, rfq_str, rfq_sl, frOf, List.range_succ, List.mapM_append, List.mapM_cons, prS, rn_mE, rn_rcs, rn_ints, rn_gcs, rn_rep, show List.idxOf 7 [8, 7] = 1 from rfl]
      · skip
        have hne : (seRows g nw i).2 ≠ [] := fun e => hi0 (by have := hso; rw [e] at this; rw [← Prod.eta (seRows g nw i), e, this.nl])
        rw [seO_ne hne]
        simp (disch := omega) only [↓RU, RV, RH, ↓reduceIte, Nat.reduceEqDiff, reduceCtorEq, if_pos, ↓RS, RG, Nat.reduceAdd, Nat.reduceMul, Nat.reduceLeDiff, tyLLint, tyLint, tyimpl_grid, tyint, prS, repz_int, ile_true, gc0_len, zRows_len, gc0_set]
        refine hK _ _ ?_
        clear hK K
        refine XThen.norm ?_
        refine ⟨7, [8, 7], [.int .i64 nw, .fn 167 [.ref 5 5 0, .ref 0 0 0, .ref 3 3 0], .loc 6 xv 0 nh, .int .i64 (i : Nat), .int .i64 nh, .int .i64 (i : Nat)], seS g nw xv (t + 1) (gcs (zRows g nw i) (.loc 7 (t + 1) 0 nw) (nh - i - 1)) ((List.replicate nw 0).map (.int .i64)) (seRows g nw i).1 (seRows g nw i).2 (t + 1) (t + 2), ?_, ?_, t + 1, t + 1, t + 2, rfl, rfl⟩
        · simp [-List.mapM_map, Env.put, Env.of, argEnv, Srn_eq, rnObs_cons, rnObs_nil, rnOb_arr, rnOb_map, rn_loc, rn_ref, rn_mp, rn_int, rn_bool, rn_str, rn_ip, rn_sl, rn_nils, rn_nilp, rn_undef, rn_agg, rn_tup, rn_fn, rfq_loc, rfq_int, rfq_bool, rfq_str, rfq_sl, frOf, List.range_succ, List.mapM_append, List.mapM_cons]
        · rw [seS_ne hne]; simp [-List.mapM_map, Env.put, Env.of, argEnv, Srn_eq, rnObs_cons, rnObs_nil, rnOb_arr, rnOb_map, rn_loc, rn_ref, rn_mp, rn_int, rn_bool, rn_str, rn_ip, rn_sl, rn_nils, rn_nilp, rn_undef, rn_agg, rn_tup, rn_fn, rfq_loc, rfq_int, rfq_bool, rfq_str, rfq_sl, frOf, List.range_succ, List.mapM_append, List.mapM_cons, prS, rn_mE, rn_rcs, rn_ints, rn_gcs, rn_rep, show List.idxOf 7 [8, 7] = 1 from rfl]
    rintro vs S - ⟨yv, vq, t, rfl, rfl⟩
    refine W.seq_region fun K hK => ?_
    simp (disch := omega) only [↓RU, RV, RH, ↓reduceIte, Nat.reduceEqDiff, reduceCtorEq, if_pos, ↓RS, RG, Nat.reduceAdd, Nat.reduceMul, Nat.reduceLeDiff, tyLLint, tyLint, tyimpl_grid, tyint, prS, seS_get6, seS_get7, gcs_get, gcs_len, hzl]
    refine hK _ _ ?_
    clear hK K
    refine W.block ?_
    refine W.loop [1, 2, 7, 8, 13, 14, 26, 27] (fun n vs S => ∃ (j vq t : Nat), n = nw - j ∧ j ≤ nw ∧ vs = [.int .i64 nw, .fn 167 [.ref 5 5 0, .ref 0 0 0, .ref 3 3 0], .loc 6 xv 0 nh, .int .i64 (i : Nat), .int .i64 nh, .int .i64 (i : Nat), .int .i64 nw, .int .i64 (j : Nat)] ∧ S = seS g nw xv yv (gcs (zRows g nw i) (.loc 7 yv 0 nw) (nh - i - 1)) ((zRow g i (seRows g nw i) j ++ List.replicate (nw - j) 0).map (.int .i64)) (seRow g i (seRows g nw i) j).1 (seRow g i (seRows g nw i) j).2 vq t) nw ?_ ?_
    · refine ⟨_, 0, vq, t, rfl, Nat.zero_le _, ?_, take_all⟩
      simp [Env.put, Env.of]
    rintro n vs S - ⟨j, vq, t, rfl, h_j, rfl, rfl⟩
    refine W.seq_region fun K hK => ?_
    simp (disch := omega) only [↓RU, RV, RH, ↓reduceIte, Nat.reduceEqDiff, reduceCtorEq, if_pos, w64, ↓RS, RG, Nat.reduceAdd, Nat.reduceMul, Nat.reduceLeDiff, tyint, prS]
    refine hK _ _ ?_
    clear hK K
    refine W.seq ?_
    refine W.cond rfl (fun h1 => ?_) (fun h1 => ?_)
    · try simp only [RL] at h1
      have hjw : j < nw := by omega
      obtain ⟨row, hrow, hrl, hz⟩ := hg.at_ hiw hjw
      obtain ⟨hro, hrl2, -, -⟩ := seRow_ok (g := g) (i := i) (by omega) hso j (by omega)
      have hYl : (zRow g i (seRows g nw i) j ++ List.replicate (nw - j) 0).length = nw := by simp only [List.length_append, List.length_replicate, zRow_len]; omega
      generalize hY : zRow g i (seRows g nw i) j ++ List.replicate (nw - j) 0 = Y at hYl
      refine W.skip ?_
      refine XThen.norm ?_
      refine W.seq ?_
      refine W.block ?_
      refine W.seq_region fun K hK => ?_
      simp (disch := omega) only [↓RU, RV, RH, ↓reduceIte, Nat.reduceEqDiff, reduceCtorEq, if_pos, ↓RS, RG, Nat.reduceAdd, Nat.reduceMul, Nat.reduceLeDiff, prS]
      refine hK _ _ ?_
      clear hK K
      refine W.region_pk 9 [some 32, some 33] [6] (by decide) (by kernel_rfl) fun K hK => ?_
      simp only [List.take_succ_cons, List.take_zero, List.drop_succ_cons, List.drop_zero]
      refine eRunK_go rfl ?_
      simp (disch := omega) only [↓RU, RV, RH, ↓reduceIte, Nat.reduceEqDiff, reduceCtorEq, if_pos, List.append_nil, ↓RS, RG, Nat.reduceAdd, Nat.reduceMul, Nat.reduceLeDiff, tyLLint, tyLint, tyimpl_grid, tyint, prS, seS_get6, seS_get7, gcs_get, gcs_len, hzl, seS_upd, set_spl, set_int, hYl, keeps_cons, keeps_nil]
      refine eRunK_go rfl ?_
      simp (disch := omega) only [↓RU, RV, RH, ↓reduceIte, Nat.reduceEqDiff, reduceCtorEq, if_pos, List.append_nil, ↓RS, RG, Nat.reduceAdd, Nat.reduceMul, Nat.reduceLeDiff, tyLLint, tyLint, tyimpl_grid, tyint, prS, seS_get6, seS_get7, gcs_get, gcs_len, hzl, seS_upd, set_spl, set_int, hYl, keeps_cons, keeps_nil]
      refine eRunK_pend (.ref 6 xv i) rfl rfl rfl (fun S' hS => ?_) ?_
      · skip
        have k6 := (hS 6 (by decide)).trans seS_get6
        simp (disch := omega) only [↓RU, RV, RH, ↓reduceIte, Nat.reduceEqDiff, reduceCtorEq, if_pos, List.append_nil, ↓RS, RG, Nat.reduceAdd, Nat.reduceMul, Nat.reduceLeDiff, tyLLint, tyLint, tyimpl_grid, tyint, prS, seS_get6, seS_get7, gcs_get, gcs_len, hzl, seS_upd, set_spl, set_int, hYl, pp_load, pp_nil, pp_fa, pp_ia, k6]
      refine eRunK_pend (.loc 7 yv 0 nw) rfl rfl rfl (fun S' hS => ?_) ?_
      · skip
        have k6 := (hS 6 (by decide)).trans seS_get6
        simp (disch := omega) only [↓RU, RV, RH, ↓reduceIte, Nat.reduceEqDiff, reduceCtorEq, if_pos, List.append_nil, ↓RS, RG, Nat.reduceAdd, Nat.reduceMul, Nat.reduceLeDiff, tyLLint, tyLint, tyimpl_grid, tyint, prS, seS_get6, seS_get7, gcs_get, gcs_len, hzl, seS_upd, set_spl, set_int, hYl, pp_load, pp_nil, pp_fa, pp_ia, k6]
      refine eRunK_go rfl ?_
      simp (disch := omega) only [↓RU, RV, RH, ↓reduceIte, Nat.reduceEqDiff, reduceCtorEq, if_pos, List.append_nil, ↓RS, RG, Nat.reduceAdd, Nat.reduceMul, Nat.reduceLeDiff, tyLLint, tyLint, tyimpl_grid, tyint, prS, seS_get6, seS_get7, gcs_get, gcs_len, hzl, seS_upd, set_spl, set_int, hYl, keeps_cons, keeps_nil]
      refine eRunK_go rfl ?_
      simp (disch := omega) only [↓RU, RV, RH, ↓reduceIte, Nat.reduceEqDiff, reduceCtorEq, if_pos, List.append_nil, ↓RS, RG, Nat.reduceAdd, Nat.reduceMul, Nat.reduceLeDiff, tyLLint, tyLint, tyimpl_grid, tyint, prS, seS_get6, seS_get7, gcs_get, gcs_len, hzl, seS_upd, set_spl, set_int, hYl, keeps_cons, keeps_nil]
      refine eRunK_go rfl ?_
      simp (disch := omega) only [↓RU, RV, RH, ↓reduceIte, Nat.reduceEqDiff, reduceCtorEq, if_pos, List.append_nil, ↓RS, RG, Nat.reduceAdd, Nat.reduceMul, Nat.reduceLeDiff, tyLLint, tyLint, tyimpl_grid, tyint, prS, seS_get6, seS_get7, gcs_get, gcs_len, hzl, seS_upd, set_spl, set_int, hYl, keeps_cons, keeps_nil]
      refine eRunK_go rfl ?_
      simp (disch := omega) only [↓RU, RV, RH, ↓reduceIte, Nat.reduceEqDiff, reduceCtorEq, if_pos, List.append_nil, ↓RS, RG, Nat.reduceAdd, Nat.reduceMul, Nat.reduceLeDiff, tyLLint, tyLint, tyimpl_grid, tyint, prS, seS_get6, seS_get7, gcs_get, gcs_len, hzl, seS_upd, set_spl, set_int, hYl, keeps_cons, keeps_nil]
      refine eRunK_go rfl ?_
      simp (disch := omega) only [↓RU, RV, RH, ↓reduceIte, Nat.reduceEqDiff, reduceCtorEq, if_pos, List.append_nil, ↓RS, RG, Nat.reduceAdd, Nat.reduceMul, Nat.reduceLeDiff, tyLLint, tyLint, tyimpl_grid, tyint, prS, seS_get6, seS_get7, gcs_get, gcs_len, hzl, seS_upd, set_spl, set_int, hYl, keeps_cons, keeps_nil]
      refine CallR.ev (settled2_ev (y := Y) (by omega) (by omega) hrow hz hro (by omega)) ?_
      rintro _ _ ⟨rfl, vq2, t2, rfl⟩
      simp (disch := omega) only [↓RU, RV, RH, ↓reduceIte, Nat.reduceEqDiff, reduceCtorEq, if_pos, List.append_nil, ↓RS, RG, Nat.reduceAdd, Nat.reduceMul, Nat.reduceLeDiff, tyLLint, tyLint, tyimpl_grid, tyint, prS, seS_get6, seS_get7, gcs_get, gcs_len, hzl, seS_upd, set_spl, set_int, hYl, keeps_cons, keeps_nil]
      refine eRunK_end ?_
      simp (disch := omega) only [↓RU, RV, RH, ↓reduceIte, Nat.reduceEqDiff, reduceCtorEq, if_pos, List.append_nil, ↓RS, RG, Nat.reduceAdd, Nat.reduceMul, Nat.reduceLeDiff, tyLLint, tyLint, tyimpl_grid, tyint, prS, seS_get6, seS_get7, gcs_get, gcs_len, hzl, seS_upd, set_spl, set_int, hYl]
      refine hK _ _ ?_
      clear hK K
      refine XBlock.norm ?_
      refine XThen.norm ?_
      refine W.region_k fun K hK => ?_
      simp (disch := omega) only [↓RU, RV, RH, ↓reduceIte, Nat.reduceEqDiff, reduceCtorEq, if_pos, w64, ↓RS, RG, Nat.reduceAdd, Nat.reduceMul, Nat.reduceLeDiff, tyint, prS]
      refine hK _ _ ?_
      clear hK K
      refine XThen.norm ?_
      refine ⟨nw - (j + 1), by omega, _, j + 1, vq2, t2, rfl, by omega, ?_, take_all_of ?_⟩
      rotate_left
      · rw [show zRow g i (seRows g nw i) (j + 1) ++ List.replicate (nw - (j + 1)) 0 = (zRow g i (seRows g nw i) j ++ List.replicate (nw - j) 0).set j (((seRow g i (seRows g nw i) j).1.idxOf (gz g i j) : Nat) : Int) from zRow_set hjw, hY]; rfl
      · simp [Env.put, Env.of]
    · try simp only [RL] at h1
      obtain rfl : nw = j := by omega
      obtain ⟨hro, hrl2, -, hro4⟩ := seRow_ok (g := g) (i := i) (by omega) hso nw hg4
      have hne := hro.ne (hro4 hg3)
      have hY : zRow g i (seRows g nw i) nw ++ List.replicate (nw - nw) 0 = zRow g i (seRows g nw i) nw := by rw [Nat.sub_self]; exact List.append_nil _
      have hYl := zRow_len (g := g) (i := i) (s := seRows g nw i) nw
      rw [hY, seS_ne hne]
      generalize hYe : zRow g i (seRows g nw i) nw = Y at hYl
      have hYt : (Y.map (PV.int .i64)).take nw = Y.map (PV.int .i64) := List.take_of_length_le (by rw [List.length_map]; omega)
      have hYE : eInts Y = PV.sl (Y.map (PV.int .i64)) nw := by rw [← hYl]
      have hsr : seRow g i (seRows g nw i) nw = seRows g nw (i + 1) := rfl
      rw [hsr] at hne ⊢
      have hzs : zRows g nw (i + 1) = zRows g nw i ++ [Y] := by rw [← hYe]; rfl
      refine W.exit ?_
      refine XThen.exit ?_
      refine XThen.exit ?_
      refine XBlock.hit ?_
      refine XBlock.norm ?_
      refine XThen.norm ?_
      refine W.region_k fun K hK => ?_
      simp (disch := omega) only [↓RU, RV, RH, ↓reduceIte, Nat.reduceEqDiff, reduceCtorEq, if_pos, w64, ↓RS, RG, Nat.reduceAdd, Nat.reduceMul, Nat.reduceLeDiff, tyint, prS]
      refine hK _ _ ?_
      clear hK K
      refine XThen.norm ?_
      refine ⟨nh - (i + 1), by omega, 7, [8], [.int .i64 nw, .fn 167 [.ref 5 5 0, .ref 0 0 0, .ref 3 3 0], .loc 6 xv 0 nh, .int .i64 nh, .int .i64 ((i + 1 : Nat) : Int)], seO g nw xv (gc0 (zRows g nw (i + 1)) (nh - (i + 1))) (seRows g nw (i + 1)).1 (seRows g nw (i + 1)).2 t (t + 1), ?_, ?_, i + 1, xv, t + 0, t + 1, rfl, by omega, rfl, rfl⟩
      · simp [-List.mapM_map, Env.put, Env.of, argEnv, Srn_eq, rnObs_cons, rnObs_nil, rnOb_arr, rnOb_map, rn_loc, rn_ref, rn_mp, rn_int, rn_bool, rn_str, rn_ip, rn_sl, rn_nils, rn_nilp, rn_undef, rn_agg, rn_tup, rn_fn, rfq_loc, rfq_int, rfq_bool, rfq_str, rfq_sl, frOf, List.range_succ, List.mapM_append, List.mapM_cons]
      · rw [seO_ne hne, hzs, ← gcs_gc0]; simp [-List.mapM_map, Env.put, Env.of, argEnv, Srn_eq, rnObs_cons, rnObs_nil, rnOb_arr, rnOb_map, rn_loc, rn_ref, rn_mp, rn_int, rn_bool, rn_str, rn_ip, rn_sl, rn_nils, rn_nilp, rn_undef, rn_agg, rn_tup, rn_fn, rfq_loc, rfq_int, rfq_bool, rfq_str, rfq_sl, frOf, List.range_succ, List.mapM_append, List.mapM_cons, prS, rn_mE, rn_rcs, rn_ints, rn_gcs2, hYl, hYt, hYE, rfq_ints, show nh - i - 1 = nh - (i + 1) by omega, show List.idxOf 8 [8] = 0 from rfl]
  · try simp only [RL] at h
    obtain rfl : nh = i := by omega
    refine W.exit ?_
    refine XThen.exit ?_
    refine XThen.exit ?_
    refine XBlock.hit ?_
    refine XThen.norm ?_
    refine W.seq_region fun K hK => ?_
    simp (disch := omega) only [↓RU, RV, RH, ↓reduceIte, Nat.reduceEqDiff, reduceCtorEq, if_pos, ↓RS, RG, Nat.reduceAdd, Nat.reduceMul, Nat.reduceLeDiff, prS]
    refine hK _ _ ?_
    clear hK K
    refine W.ret ?_
    refine BodyQ.ret rfl ?_
    rw [Nat.sub_self, gc0_all]
    exact ⟨_, xv, vq, t, rfl, take_all⟩

end Fw
end Go.Proofs.YtcglmbijpjhbmaaGreat

/-! A plan of a grid, as the program finds it. -/
namespace Go.Proofs.YtcglmbijpjhbmaaGreat
namespace Fw
open Go

def w0 (g : List (List Int)) : Nat := (g[0]?.getD []).length
def okG (g : List (List Int)) : Bool := decide (1 ≤ g.length) && decide (g.length ≤ 6) && decide (1 ≤ w0 g) && decide (w0 g ≤ 6) && !(g.any fun r => decide ((r.length : Int) ≠ (w0 g : Nat)))
def stG (g : List (List Int)) : List Int × List Rect := seRows g (w0 g) g.length
def zG (g : List (List Int)) : List (List Int) := zRows g (w0 g) g.length
def sumA (rs : List Rect) : Int := rs.foldl (fun s b => s + b.high * b.wide) 0
def okS (g : List (List Int)) : Bool := okG g && decide ((stG g).2.length ≤ 9)
def fullG (g : List (List Int)) : Bool := decide (sumA (stG g).2 = ((g.length * w0 g : Nat) : Int))
def settledV (g : List (List Int)) : PV := if okS g then .tup [eFloor (zG g) (stG g).2, .bool (fullG g)] else .tup [.nilp, .bool false]

theorem w0_is {g : List (List Int)} {row : List Int} (h : g[0]? = some row) : w0 g = row.length := by simp [w0, h]
theorem okG_iff {g : List (List Int)} : okG g = true ↔ GW g g.length (w0 g) := by
  unfold okG GW
  simp only [Bool.and_eq_true, decide_eq_true_eq, Bool.not_eq_true', List.any_eq_false, decide_eq_true_eq, ne_eq, Decidable.not_not]
  constructor
  · rintro ⟨⟨⟨⟨h1, h2⟩, h3⟩, h4⟩, h5⟩
    exact ⟨trivial, fun r hr => by have := h5 r hr; omega, h1, h2, h3, h4⟩
  · rintro ⟨_, h5, h1, h2, h3, h4⟩
    exact ⟨⟨⟨⟨h1, h2⟩, h3⟩, h4⟩, fun r hr => by have := h5 r hr; omega⟩
theorem sumA_succ {rs : List Rect} {k : Nat} {b : Rect} (h : rs[k]? = some b) : sumA (rs.take (k + 1)) = sumA (rs.take k) + b.high * b.wide := by
  unfold sumA; rw [foldl_tk h]
theorem Rect.Fit.area {b : Rect} (h : b.Fit) : 1 ≤ b.high * b.wide ∧ b.high * b.wide ≤ 36 := by
  unfold Rect.Fit at h
  obtain ⟨h1, h2, h3, h4, h5, h6⟩ := h
  obtain ⟨m, hm⟩ : ∃ m : Nat, b.high = m := ⟨b.high.toNat, by omega⟩
  obtain ⟨n, hn⟩ : ∃ n : Nat, b.wide = n := ⟨b.wide.toNat, by omega⟩
  rw [hm, hn]
  have h7 := Nat.mul_le_mul (show m ≤ 6 by omega) (show n ≤ 6 by omega)
  have h8 := Nat.mul_le_mul (show 1 ≤ m by omega) (show 1 ≤ n by omega)
  have : ((m * n : Nat) : Int) = (m : Int) * n := by simp
  omega
theorem sumA_bound {rs : List Rect} (h : ∀ b ∈ rs, b.Fit) : ∀ k, 0 ≤ sumA (rs.take k) ∧ sumA (rs.take k) ≤ 36 * k
  | 0 => by simp [sumA]
  | k + 1 => by
    have ih := sumA_bound h k
    by_cases hk : k < rs.length
    · obtain ⟨b, hb, hm⟩ := get_of hk
      rw [sumA_succ hb]
      have := (h b hm).area
      omega
    · rw [List.take_of_length_le (by omega)] at ih ⊢
      omega
theorem zRows_at {g : List (List Int)} {nw : Nat} : ∀ {i k : Nat}, k < i → (zRows g nw i)[k]? = some (zRow g k (seRows g nw k) nw)
  | 0, k, h => by omega
  | i + 1, k, h => by
    unfold zRows
    by_cases e : k = i
    · subst e; rw [List.getElem?_append_right (by rw [zRows_len]; exact Nat.le_refl _), zRows_len]; simp
    · rw [List.getElem?_append_left (by rw [zRows_len]; omega)]; exact zRows_at (by omega)
theorem zG_ok {g : List (List Int)} {nh nw : Nat} (hg : GW g nh nw) : GW (zRows g nw nh) nh nw := by
  refine ⟨zRows_len _, fun r hr => ?_, hg.2.2⟩
  obtain ⟨k, hk⟩ := List.getElem?_of_mem hr
  have hkl := len_of hk
  rw [zRows_len] at hkl
  rw [zRows_at hkl] at hk
  cases hk
  exact zRow_len _
theorem reify_floor {S : Store} {xv vq nh f : Nat} {Z : List (List Int)} {rs : List Rect} (h2 : S.obs[2]? = some (.arr 2 87 2 [.loc 6 xv 0 nh, .loc 7 vq 0 rs.length])) (h6 : S.obs[6]? = some (.arr xv 24 1 (Z.map eInts))) (hZ : Z.length = nh)
    (h7 : S.obs[7]? = some (.arr vq 161 4 (rcs rs))) : reify S true (f + 4) (.ref 2 2 0) = some (eFloor Z rs) := by
  have e1 : reify S true (f + 3) (.loc 6 xv 0 nh) = some (eGrid Z) := by
    rw [← hZ]
    exact reify_loc (k := f + 2) h6 (by simp) (mapM_ints2 _)
  have e2 : reify S true (f + 3) (.loc 7 vq 0 rs.length) = some (eRects rs) := reify_loc (k := f + 2) h7 (rcs_len _) (reify_scal (scal_rcs _))
  have hc : S.cellsOf 2 2 = some [.loc 6 xv 0 nh, .loc 7 vq 0 rs.length] := by simp [Store.cellsOf, h2]
  have e0 : reify S true (f + 4) (.ref 2 2 0) = (S.cellsOf 2 2).bind fun cells => (cells.mapM (reify S true (f + 3))).map (.ip · 0) := rfl
  rw [e0, hc, Option.bind_some, List.mapM_cons, e1, List.mapM_cons, e2]
  rfl
end Fw
end Go.Proofs.YtcglmbijpjhbmaaGreat

/-! Plans of the program, gone through. -/
namespace Go.Proofs.YtcglmbijpjhbmaaGreat
namespace Fw
open Go

theorem settled_pc {g : List (List Int)} (hsm : g.length < 2147483648) (hsr : ∀ r ∈ g, r.length < 2147483648) : PC Tryz.prog 140 [eGrid g] (settledV g) false := by
  refine PC.of ⟨Tryz.func140, by kernel_rfl, rfl, by kernel_rfl⟩ tabOk mixed (by show 1 ≤ Tryz.f140.ntmps; decide) ?_
  refine W.seq_region fun K hK => ?_
  simp (disch := omega) only [↓RU, RV, RH, ↓reduceIte, Nat.reduceEqDiff, reduceCtorEq, if_pos, ↓RS, RG, Nat.reduceAdd, Nat.reduceMul, Nat.reduceLeDiff, tyLLint, tyLint, tyimpl_grid, tyint]
  refine hK _ _ ?_
  clear hK K
  refine W.seq ?_
  refine W.seq_region fun K hK => ?_
  have hcase : g.length < 1 ∨ 6 < g.length ∨ ∃ row : List Int, g[0]? = some row ∧ row ∈ g ∧ (1 ≤ g.length ∧ g.length ≤ 6) ∧ (row.length < 1 ∨ 6 < row.length ∨ (1 ≤ row.length ∧ row.length ≤ 6)) := by
    by_cases h1 : g.length < 1
    · exact .inl h1
    · obtain ⟨row, h2, h3⟩ := get_of (show 0 < g.length by omega)
      by_cases h4 : 6 < g.length
      · exact .inr (.inl h4)
      · exact .inr (.inr ⟨row, h2, h3, by omega, by omega⟩)
  rcases hcase with hb | hb | ⟨row, hrow, hrm, hgl, hb | hb | hb⟩
  · skip
    have hd : decide ((g.length : Int) < 1) = true := decide_eq_true (by omega)
    simp (disch := omega) only [↓RU, RV, RH, ↓reduceIte, Nat.reduceEqDiff, reduceCtorEq, if_pos, w64, ↓RS, RG, Nat.reduceAdd, Nat.reduceMul, Nat.reduceLeDiff, tyLLint, tyLint, tyimpl_grid, tyint, hd]
    refine hK _ _ ?_
    clear hK K
    refine W.cond rfl (fun h => ?_) (fun h => ?_)
    · try simp only [RL] at h
      refine W.seq_region fun K hK => ?_
      simp (disch := omega) only [↓RU, RV, RH, ↓reduceIte, Nat.reduceEqDiff, reduceCtorEq, if_pos, ↓RS, RG, Nat.reduceAdd, Nat.reduceMul, Nat.reduceLeDiff]
      refine hK _ _ ?_
      clear hK K
      refine W.ret ?_
      refine XThen.ret ?_
      refine BodyQ.ret rfl ?_
      have hok : okS g = false := by simp [okS, okG]; omega
      rw [settledV, hok]
      rfl
    · try simp only [RL] at h
      exact absurd h (by simp)
  · skip
    have hd : decide ((g.length : Int) < 1) = false := decide_eq_false (by omega)
    have hd2 : decide ((g.length : Int) > 6) = true := decide_eq_true (by omega)
    simp (disch := omega) only [↓RU, RV, RH, ↓reduceIte, Nat.reduceEqDiff, reduceCtorEq, if_pos, w64, ↓RS, RG, Nat.reduceAdd, Nat.reduceMul, Nat.reduceLeDiff, tyLLint, tyLint, tyimpl_grid, tyint, hd, hd2]
    refine hK _ _ ?_
    clear hK K
    refine W.cond rfl (fun h => ?_) (fun h => ?_)
    · try simp only [RL] at h
      refine W.seq_region fun K hK => ?_
      simp (disch := omega) only [↓RU, RV, RH, ↓reduceIte, Nat.reduceEqDiff, reduceCtorEq, if_pos, ↓RS, RG, Nat.reduceAdd, Nat.reduceMul, Nat.reduceLeDiff]
      refine hK _ _ ?_
      clear hK K
      refine W.ret ?_
      refine XThen.ret ?_
      refine BodyQ.ret rfl ?_
      have hok : okS g = false := by simp [okS, okG]; omega
      rw [settledV, hok]
      rfl
    · try simp only [RL] at h
      exact absurd h (by simp)
  · skip
    have hrl := hsr row hrm
    have hw0 := w0_is hrow
    have hd : decide ((g.length : Int) < 1) = false := decide_eq_false (by omega)
    have hd2 : decide ((g.length : Int) > 6) = false := decide_eq_false (by omega)
    have hd3 : decide ((row.length : Int) < 1) = true := decide_eq_true (by omega)
    simp (disch := omega) only [↓RU, RV, RH, ↓reduceIte, Nat.reduceEqDiff, reduceCtorEq, if_pos, w64, ↓RS, RG, Nat.reduceAdd, Nat.reduceMul, Nat.reduceLeDiff, tyLLint, tyLint, tyimpl_grid, tyint, hd, hd2, hd3, hrow, Int.toNat_zero, Nat.zero_mul, Int.reduceToNat]
    refine hK _ _ ?_
    clear hK K
    refine W.cond rfl (fun h => ?_) (fun h => ?_)
    · try simp only [RL] at h
      refine W.seq_region fun K hK => ?_
      simp (disch := omega) only [↓RU, RV, RH, ↓reduceIte, Nat.reduceEqDiff, reduceCtorEq, if_pos, ↓RS, RG, Nat.reduceAdd, Nat.reduceMul, Nat.reduceLeDiff]
      refine hK _ _ ?_
      clear hK K
      refine W.ret ?_
      refine XThen.ret ?_
      refine BodyQ.ret rfl ?_
      have hok : okS g = false := by simp [okS, okG]; omega
      rw [settledV, hok]
      rfl
    · try simp only [RL] at h
      exact absurd h (by simp)
  · skip
    have hrl := hsr row hrm
    have hw0 := w0_is hrow
    have hd : decide ((g.length : Int) < 1) = false := decide_eq_false (by omega)
    have hd2 : decide ((g.length : Int) > 6) = false := decide_eq_false (by omega)
    have hd3 : decide ((row.length : Int) < 1) = false := decide_eq_false (by omega)
    have hd4 : decide ((row.length : Int) > 6) = true := decide_eq_true (by omega)
    simp (disch := omega) only [↓RU, RV, RH, ↓reduceIte, Nat.reduceEqDiff, reduceCtorEq, if_pos, w64, ↓RS, RG, Nat.reduceAdd, Nat.reduceMul, Nat.reduceLeDiff, tyLLint, tyLint, tyimpl_grid, tyint, hd, hd2, hd3, hd4, hrow, Int.toNat_zero, Nat.zero_mul, Int.reduceToNat]
    refine hK _ _ ?_
    clear hK K
    refine W.cond rfl (fun h => ?_) (fun h => ?_)
    · try simp only [RL] at h
      refine W.seq_region fun K hK => ?_
      simp (disch := omega) only [↓RU, RV, RH, ↓reduceIte, Nat.reduceEqDiff, reduceCtorEq, if_pos, ↓RS, RG, Nat.reduceAdd, Nat.reduceMul, Nat.reduceLeDiff]
      refine hK _ _ ?_
      clear hK K
      refine W.ret ?_
      refine XThen.ret ?_
      refine BodyQ.ret rfl ?_
      have hok : okS g = false := by simp [okS, okG]; omega
      rw [settledV, hok]
      rfl
    · try simp only [RL] at h
      exact absurd h (by simp)
  · skip
    have hrl := hsr row hrm
    have hw0 := w0_is hrow
    have hd : decide ((g.length : Int) < 1) = false := decide_eq_false (by omega)
    have hd2 : decide ((g.length : Int) > 6) = false := decide_eq_false (by omega)
    have hd3 : decide ((row.length : Int) < 1) = false := decide_eq_false (by omega)
    have hd4 : decide ((row.length : Int) > 6) = false := decide_eq_false (by omega)
    simp (disch := omega) only [↓RU, RV, RH, ↓reduceIte, Nat.reduceEqDiff, reduceCtorEq, if_pos, w64, ↓RS, RG, Nat.reduceAdd, Nat.reduceMul, Nat.reduceLeDiff, tyLLint, tyLint, tyimpl_grid, tyint, hd, hd2, hd3, hd4, hrow, Int.toNat_zero, Nat.zero_mul, Int.reduceToNat]
    refine hK _ _ ?_
    clear hK K
    refine W.cond rfl (fun h => ?_) (fun h => ?_)
    · try simp only [RL] at h
      exact absurd h (by simp)
    · try simp only [RL] at h
      refine W.skip ?_
      refine XThen.norm ?_
      refine W.seq_region fun K hK => ?_
      simp (disch := omega) only [↓RU, RV, RH, ↓reduceIte, Nat.reduceEqDiff, reduceCtorEq, if_pos, ↓RS, RG, Nat.reduceAdd, Nat.reduceMul, Nat.reduceLeDiff, tyLLint, tyLint, tyimpl_grid, tyint, hrow, Int.toNat_zero, Nat.zero_mul, Int.reduceToNat]
      refine hK _ _ ?_
      clear hK K
      refine W.seq ?_
      refine W.seq_region fun K hK => ?_
      simp (disch := omega) only [↓RU, RV, RH, ↓reduceIte, Nat.reduceEqDiff, reduceCtorEq, if_pos, List.append_nil, ↓RS, RG, Nat.reduceAdd, Nat.reduceMul, Nat.reduceLeDiff, tyLLint, tyLint, tyimpl_grid, tyint, hrow]
      refine CallR.pc (containsRow_pc (l := g) hsm (g := 165) (cap := [.ip [.int .i64 row.length] 0]) rfl rfl (test := fun r => decide ((r.length : Int) ≠ (row.length : Nat))) (fun r hr => settled1_pc r _ (hsr r hr))) rfl (.inl rfl) ?_
      simp (disch := omega) only [↓RU, RV, RH, ↓reduceIte, Nat.reduceEqDiff, reduceCtorEq, if_pos, List.append_nil, ↓RS, RG, Nat.reduceAdd, Nat.reduceMul, Nat.reduceLeDiff, tyLLint, tyLint, tyimpl_grid, tyint, hrow]
      refine hK _ _ ?_
      clear hK K
      refine W.cond rfl (fun h1 => ?_) (fun h1 => ?_)
      · try simp only [RL] at h1
        refine W.seq_region fun K hK => ?_
        simp (disch := omega) only [↓RU, RV, RH, ↓reduceIte, Nat.reduceEqDiff, reduceCtorEq, if_pos, ↓RS, RG, Nat.reduceAdd, Nat.reduceMul, Nat.reduceLeDiff]
        refine hK _ _ ?_
        clear hK K
        refine W.ret ?_
        refine XThen.ret ?_
        refine BodyQ.ret rfl ?_
        have hok : okS g = false := by unfold okS okG; rw [hw0, h1]; simp
        rw [settledV, hok]
        rfl
      · try simp only [RL] at h1
        have hg : GW g g.length row.length := by have := okG_iff (g := g); rw [hw0] at this; refine this.1 ?_; unfold okG; rw [hw0, h1]; simp; omega
        obtain ⟨hso, hsl, hs1⟩ := seRows_ok (g := g) (nw := row.length) (by omega) (by omega) g.length (by omega)
        have hne := hso.ne (hs1 (by omega))
        refine W.skip ?_
        refine XThen.norm ?_
        refine W.seq_region fun K hK => ?_
        simp (disch := omega) only [↓RU, RV, RH, ↓reduceIte, Nat.reduceEqDiff, reduceCtorEq, if_pos, ↓RS, RG, Nat.reduceAdd, Nat.reduceMul, Nat.reduceLeDiff, tyLLint, tyLimpl_rect, tyLint, tyPimpl_floor, tyimpl_floor, tyimpl_grid, tyimpl_rect, tyint, tystruct_cells_impl_grid_rooms_Limpl_rect_, tystruct_row_int_col_int_high_int_wide_int_]
        refine hK _ _ ?_
        clear hK K
        refine W.seq_region fun K hK => ?_
        simp (disch := omega) only [↓RU, RV, RH, ↓reduceIte, Nat.reduceEqDiff, reduceCtorEq, if_pos, ↓RS, RG, Nat.reduceAdd, Nat.reduceMul, Nat.reduceLeDiff, tyint, tymapBint_int]
        refine hK _ _ ?_
        clear hK K
        refine W.seq_pk 6 [some 42] [3] (by decide) (by kernel_rfl) fun K hK => ?_
        simp only [List.take_succ_cons, List.take_zero, List.drop_succ_cons, List.drop_zero]
        refine eRunK_pend (.ref 2 2 0) rfl rfl rfl (fun S' hS => ?_) ?_
        · skip
          have k3 := (hS 3 (by decide)).trans (show _ = some _ from rfl)
          simp (disch := omega) only [↓RU, RV, RH, ↓reduceIte, Nat.reduceEqDiff, reduceCtorEq, if_pos, List.append_nil, ↓RS, RG, Nat.reduceAdd, Nat.reduceMul, Nat.reduceLeDiff, tyLLint, tyLimpl_rect, tyLint, tyPimpl_floor, tyimpl_floor, tyimpl_grid, tyimpl_rect, tyint, tystruct_cells_impl_grid_rooms_Limpl_rect_, tystruct_row_int_col_int_high_int_wide_int_, pp_load, pp_nil, pp_fa, pp_ia, k3]
        refine eRunK_go rfl ?_
        simp (disch := omega) only [↓RU, RV, RH, ↓reduceIte, Nat.reduceEqDiff, reduceCtorEq, if_pos, List.append_nil, ↓RS, RG, Nat.reduceAdd, Nat.reduceMul, Nat.reduceLeDiff, tyLLint, tyLimpl_rect, tyLint, tyPimpl_floor, tyimpl_floor, tyimpl_grid, tyimpl_rect, tyint, tystruct_cells_impl_grid_rooms_Limpl_rect_, tystruct_row_int_col_int_high_int_wide_int_, keeps_cons, keeps_nil]
        refine eRunK_go rfl ?_
        simp (disch := omega) only [↓RU, RV, RH, ↓reduceIte, Nat.reduceEqDiff, reduceCtorEq, if_pos, List.append_nil, ↓RS, RG, Nat.reduceAdd, Nat.reduceMul, Nat.reduceLeDiff, tyLLint, tyLimpl_rect, tyLint, tyPimpl_floor, tyimpl_floor, tyimpl_grid, tyimpl_rect, tyint, tystruct_cells_impl_grid_rooms_Limpl_rect_, tystruct_row_int_col_int_high_int_wide_int_, keeps_cons, keeps_nil]
        refine eRunK_go rfl ?_
        simp (disch := omega) only [↓RU, RV, RH, ↓reduceIte, Nat.reduceEqDiff, reduceCtorEq, if_pos, List.append_nil, ↓RS, RG, Nat.reduceAdd, Nat.reduceMul, Nat.reduceLeDiff, tyLLint, tyLimpl_rect, tyLint, tyPimpl_floor, tyimpl_floor, tyimpl_grid, tyimpl_rect, tyint, tystruct_cells_impl_grid_rooms_Limpl_rect_, tystruct_row_int_col_int_high_int_wide_int_, keeps_cons, keeps_nil]
        refine eRunK_go rfl ?_
        simp (disch := omega) only [↓RU, RV, RH, ↓reduceIte, Nat.reduceEqDiff, reduceCtorEq, if_pos, List.append_nil, ↓RS, RG, Nat.reduceAdd, Nat.reduceMul, Nat.reduceLeDiff, tyLLint, tyLimpl_rect, tyLint, tyPimpl_floor, tyimpl_floor, tyimpl_grid, tyimpl_rect, tyint, tystruct_cells_impl_grid_rooms_Limpl_rect_, tystruct_row_int_col_int_high_int_wide_int_, keeps_cons, keeps_nil]
        refine eRunK_go rfl ?_
        simp (disch := omega) only [↓RU, RV, RH, ↓reduceIte, Nat.reduceEqDiff, reduceCtorEq, if_pos, List.append_nil, ↓RS, RG, Nat.reduceAdd, Nat.reduceMul, Nat.reduceLeDiff, tyLLint, tyLimpl_rect, tyLint, tyPimpl_floor, tyimpl_floor, tyimpl_grid, tyimpl_rect, tyint, tystruct_cells_impl_grid_rooms_Limpl_rect_, tystruct_row_int_col_int_high_int_wide_int_, keeps_cons, keeps_nil]
        refine CallR.ev (blank_ev hg) ?_
        rintro _ _ ⟨xv, vq, t, rfl, rfl⟩
        rw [seO_ne hne]
        simp only [prS]
        simp (disch := omega) only [↓RU, RV, RH, ↓reduceIte, Nat.reduceEqDiff, reduceCtorEq, if_pos, List.append_nil, ↓RS, RG, Nat.reduceAdd, Nat.reduceMul, Nat.reduceLeDiff, tyLLint, tyLimpl_rect, tyLint, tyPimpl_floor, tyimpl_floor, tyimpl_grid, tyimpl_rect, tyint, tystruct_cells_impl_grid_rooms_Limpl_rect_, tystruct_row_int_col_int_high_int_wide_int_, keeps_cons, keeps_nil]
        refine eRunK_end ?_
        simp (disch := omega) only [↓RU, RV, RH, ↓reduceIte, Nat.reduceEqDiff, reduceCtorEq, if_pos, List.append_nil, ↓RS, RG, Nat.reduceAdd, Nat.reduceMul, Nat.reduceLeDiff, tyLLint, tyLimpl_rect, tyLint, tyPimpl_floor, tyimpl_floor, tyimpl_grid, tyimpl_rect, tyint, tystruct_cells_impl_grid_rooms_Limpl_rect_, tystruct_row_int_col_int_high_int_wide_int_]
        refine hK _ _ ?_
        clear hK K
        refine W.seq ?_
        refine W.seq_region fun K hK => ?_
        simp (disch := omega) only [↓RU, RV, RH, ↓reduceIte, Nat.reduceEqDiff, reduceCtorEq, if_pos, w64, ↓RS, RG, Nat.reduceAdd, Nat.reduceMul, Nat.reduceLeDiff, tyLLint, tyLimpl_rect, tyLint, tyPimpl_floor, tyimpl_floor, tyimpl_grid, tyimpl_rect, tyint, tystruct_cells_impl_grid_rooms_Limpl_rect_, tystruct_row_int_col_int_high_int_wide_int_]
        refine hK _ _ ?_
        clear hK K
        refine W.cond rfl (fun h2 => ?_) (fun h2 => ?_)
        · try simp only [RL] at h2
          refine W.seq_region fun K hK => ?_
          simp (disch := omega) only [↓RU, RV, RH, ↓reduceIte, Nat.reduceEqDiff, reduceCtorEq, if_pos, ↓RS, RG, Nat.reduceAdd, Nat.reduceMul, Nat.reduceLeDiff]
          refine hK _ _ ?_
          clear hK K
          refine W.ret ?_
          refine XThen.ret ?_
          refine BodyQ.ret rfl ?_
          have hok : okS g = false := by unfold okS stG; rw [hw0]; simp only [Bool.and_eq_false_iff]; right; exact decide_eq_false (by omega)
          rw [settledV, hok]
          rfl
        · try simp only [RL] at h2
          refine W.skip ?_
          refine XThen.norm ?_
          refine W.seq_region fun K hK => ?_
          simp (disch := omega) only [↓RU, RV, RH, ↓reduceIte, Nat.reduceEqDiff, reduceCtorEq, if_pos, ↓RS, RG, Nat.reduceAdd, Nat.reduceMul, Nat.reduceLeDiff]
          refine hK _ _ ?_
          clear hK K
          refine W.seq ?_
          refine W.seq_region fun K hK => ?_
          simp (disch := omega) only [↓RU, RV, RH, ↓reduceIte, Nat.reduceEqDiff, reduceCtorEq, if_pos, ↓RS, RG, Nat.reduceAdd, Nat.reduceMul, Nat.reduceLeDiff, tyLLint, tyLimpl_rect, tyLint, tyPimpl_floor, tyimpl_floor, tyimpl_grid, tyimpl_rect, tyint, tystruct_cells_impl_grid_rooms_Limpl_rect_, tystruct_row_int_col_int_high_int_wide_int_]
          refine hK _ _ ?_
          clear hK K
          refine W.block ?_
          refine W.loop [5, 7, 59, 60, 61] (fun n vs S => ∃ k t : Nat, n = (seRows g row.length g.length).2.length - k ∧ k ≤ (seRows g row.length g.length).2.length ∧ vs = [.ref 3 3 0, .int .i64 (sumA ((seRows g row.length g.length).2.take k)), .loc 7 vq 0 (seRows g row.length g.length).2.length, .int .i64 (seRows g row.length g.length).2.length, .int .i64 (k : Nat)] ∧ S = ⟨[.arr 0 84 1 [eGrid g], .arr 1 3 1 [.int .i64 row.length], .arr 2 87 2 [.loc 6 xv 0 g.length, .loc 7 vq 0 (seRows g row.length g.length).2.length], .arr 3 55 1 [.ref 2 2 0], .map 4 (mE (seRows g row.length g.length).1), .arr 5 158 1 [.mp 4 4], .arr xv 24 1 ((zRows g row.length g.length).map eInts), .arr vq 161 4 (rcs (seRows g row.length g.length).2)], t⟩) (seRows g row.length g.length).2.length ?_ ?_
          · refine ⟨8, 0, t, rfl, Nat.zero_le _, ?_, ?_⟩
            · simp [Env.put, Env.of, argEnv, sumA]
            · simp [take_eq]
          rintro n vs S - ⟨k, t, rfl, h_k, rfl, rfl⟩
          refine W.seq_region fun K hK => ?_
          simp (disch := omega) only [↓RU, RV, RH, ↓reduceIte, Nat.reduceEqDiff, reduceCtorEq, if_pos, w64, ↓RS, RG, Nat.reduceAdd, Nat.reduceMul, Nat.reduceLeDiff, tyint]
          refine hK _ _ ?_
          clear hK K
          refine W.seq ?_
          refine W.cond rfl (fun h3 => ?_) (fun h3 => ?_)
          · try simp only [RL] at h3
            obtain ⟨b, hb2, hbm⟩ := get_of (show k < (seRows g row.length g.length).2.length by omega)
            have hbf := hso.2 b hbm
            have hba := hbf.area
            have hsb := sumA_bound hso.2 k
            refine W.skip ?_
            refine XThen.norm ?_
            refine W.seq ?_
            refine W.block ?_
            refine W.seq_region fun K hK => ?_
            simp (disch := omega) only [↓RU, RV, RH, ↓reduceIte, Nat.reduceEqDiff, reduceCtorEq, if_pos, ↓RS, RG, Nat.reduceAdd, Nat.reduceMul, Nat.reduceLeDiff, tyLimpl_rect, tyimpl_rect, tyint, tystruct_row_int_col_int_high_int_wide_int_, rcs_at hb2, rcs_len, rcell_len, rcell_all]
            refine hK _ _ ?_
            clear hK K
            refine W.region_k fun K hK => ?_
            simp (disch := omega) only [↓RU, RV, RH, ↓reduceIte, Nat.reduceEqDiff, reduceCtorEq, if_pos, List.append_nil, w64, ↓RS, RG, Nat.reduceAdd, Nat.reduceMul, Nat.reduceLeDiff, tyimpl_rect, tyint, tystruct_row_int_col_int_high_int_wide_int_, rcs_at hb2, rcell_len, rcs_len]
            refine CallR.pc (area_pc (r := b) (by omega) (by omega)) rfl (.inl rfl) ?_
            simp (disch := omega) only [↓RU, RV, RH, ↓reduceIte, Nat.reduceEqDiff, reduceCtorEq, if_pos, List.append_nil, w64, ↓RS, RG, Nat.reduceAdd, Nat.reduceMul, Nat.reduceLeDiff, tyimpl_rect, tyint, tystruct_row_int_col_int_high_int_wide_int_, rcs_at hb2, rcell_len, rcs_len]
            refine hK _ _ ?_
            clear hK K
            refine XBlock.norm ?_
            refine XThen.norm ?_
            refine W.region_k fun K hK => ?_
            simp (disch := omega) only [↓RU, RV, RH, ↓reduceIte, Nat.reduceEqDiff, reduceCtorEq, if_pos, w64, ↓RS, RG, Nat.reduceAdd, Nat.reduceMul, Nat.reduceLeDiff, tyint]
            refine hK _ _ ?_
            clear hK K
            refine XThen.norm ?_
            refine ⟨(seRows g row.length g.length).2.length - (k + 1), by omega, 8, k + 1, _, rfl, by omega, ?_, rfl⟩
            simp [Env.put, Env.of, sumA_succ hb2]
          · try simp only [RL] at h3
            obtain rfl : k = (seRows g row.length g.length).2.length := by omega
            rw [List.take_length]
            refine W.exit ?_
            refine XThen.exit ?_
            refine XThen.exit ?_
            refine XBlock.hit ?_
            refine XThen.norm ?_
            refine W.seq_draw (by kernel_rfl) fun K hK => ?_
            obtain ⟨zr, hzr, hzl, -⟩ := (zG_ok hg).at_ (i := 0) (j := 0) (by omega) (by omega)
            have hZl := zRows_len (g := g) (nw := row.length) g.length
            have hpr := Nat.mul_le_mul hgl.2 hb.2
            simp (disch := omega) only [↓RU, RV, RH, ↓reduceIte, Nat.reduceEqDiff, reduceCtorEq, if_pos, List.append_nil, w64, ↓RS, RG, Nat.reduceAdd, Nat.reduceMul, Nat.reduceLeDiff, tyPimpl_floor, tyint, hZl, hzl]
            refine CallR.pc (high_pc (zRows g row.length g.length) (seRows g row.length g.length).2) (mapM_one (reify_floor (f := 6) rfl rfl (zRows_len _) rfl) rfl) (.inl rfl) ?_
            simp (disch := omega) only [↓RU, RV, RH, ↓reduceIte, Nat.reduceEqDiff, reduceCtorEq, if_pos, List.append_nil, w64, ↓RS, RG, Nat.reduceAdd, Nat.reduceMul, Nat.reduceLeDiff, tyPimpl_floor, tyint, hZl, hzl]
            refine CallR.pc (wide_pc (g := (zRows g row.length g.length)) hzr (seRows g row.length g.length).2) (mapM_one (reify_floor (f := 6) rfl rfl (zRows_len _) rfl) rfl) (.inl rfl) ?_
            simp (disch := omega) only [↓RU, RV, RH, ↓reduceIte, Nat.reduceEqDiff, reduceCtorEq, if_pos, List.append_nil, w64, ↓RS, RG, Nat.reduceAdd, Nat.reduceMul, Nat.reduceLeDiff, tyPimpl_floor, tyint, hZl, hzl]
            refine hK _ _ ?_
            clear hK K
            refine W.ret ?_
            refine BodyQ.ret rfl ?_
            have hok : okS g = true := by unfold okS stG; rw [hw0, okG_iff.2 (by rw [hw0]; exact hg)]; simp; omega
            rw [settledV, hok, if_pos rfl]
            unfold stG zG fullG stG
            rw [hw0]
            refine reify_tup2 (k := 9) (reify_floor (f := 5) rfl rfl (zRows_len _) rfl) ?_
            have he : (sumA (seRows g row.length g.length).2 == (g.length : Int) * row.length) = decide (sumA (seRows g row.length g.length).2 = ((g.length * row.length : Nat) : Int)) := by rw [Int.natCast_mul]; rfl
            rw [← he]
            rfl

end Fw
end Go.Proofs.YtcglmbijpjhbmaaGreat

/-! Plans that are read, in plain words. -/
namespace Go.Proofs.YtcglmbijpjhbmaaGreat
namespace Fw
open Go

def rowZ (t : Txt) : List Int := t.map fun c => (c.toNat : Int)
def readG (p : List Txt) : List (List Int) := p.map rowZ
def lettersB (p : List Txt) : Bool := p.all fun r => r.all letterB
def readV (p : List Txt) : PV := if lettersB p then settledV (readG p) else .tup [.nilp, .bool false]
def okB (p : List Txt) : Bool := lettersB p && okS (readG p)
def gP (p : List Txt) : List (List Int) := zG (readG p)
def rP (p : List Txt) : List Rect := (stG (readG p)).2
theorem rowZ_len (t : Txt) : (rowZ t).length = t.length := by simp [rowZ]
theorem rowZ_succ {t : Txt} {k : Nat} {c : UInt8} (h : t[k]? = some c) : rowZ (t.take (k + 1)) = rowZ (t.take k) ++ [(c.toNat : Int)] := by simp [rowZ, tk h]
theorem readG_succ {p : List Txt} {i : Nat} {t : Txt} (h : p[i]? = some t) : readG (p.take (i + 1)) = readG (p.take i) ++ [rowZ t] := by simp [readG, tk h]
theorem readG_len (p : List Txt) : (readG p).length = p.length := by simp [readG]
theorem letters_bad {p : List Txt} {r : Txt} {c : UInt8} (hr : r ∈ p) (hc : c ∈ r) (h : letterB c = false) : lettersB p = false := by
  unfold lettersB
  rw [List.all_eq_false]
  refine ⟨r, hr, ?_⟩
  rw [Bool.not_eq_true, List.all_eq_false]
  exact ⟨c, hc, by rw [h]; exact Bool.false_ne_true⟩
theorem zRow_bound {g : List (List Int)} {i : Nat} (hi : i < 6) {s : List Int × List Rect} (hs : SeOk s.1 s.2) {n : Nat} (hn : n ≤ 6) : ∀ j, j ≤ n → ∀ z ∈ zRow g i s j, 0 ≤ z ∧ z ≤ s.1.length + n
  | 0, _, z, h => by simp [zRow] at h
  | j + 1, hj, z, h => by
    simp only [zRow, List.mem_append, List.mem_singleton] at h
    rcases h with h | rfl
    · exact zRow_bound hi hs hn j (by omega) z h
    · have h1 := idxOf_le (ks := (seRow g i s j).1) (z := gz g i j)
      obtain ⟨-, h2, -, -⟩ := seRow_ok (g := g) hi hs j (by omega)
      omega
theorem zRows_bound {g : List (List Int)} {nw : Nat} (hw : nw ≤ 6) (hw1 : 1 ≤ nw) : ∀ i, i ≤ 6 → ∀ r ∈ zRows g nw i, ∀ z ∈ r, 0 ≤ z ∧ z ≤ 100
  | 0, _, r, h => by simp [zRows] at h
  | i + 1, hi, r, h => by
    simp only [zRows, List.mem_append, List.mem_singleton] at h
    rcases h with h | rfl
    · exact zRows_bound hw hw1 i (by omega) r h
    · intro z hz
      obtain ⟨h1, h2, -⟩ := seRows_ok (g := g) hw hw1 i (by omega)
      have := zRow_bound (g := g) (i := i) (by omega) h1 hw nw (Nat.le_refl _) z hz
      omega
theorem okS_gw {g : List (List Int)} (h : okS g = true) : GW g g.length (w0 g) := by
  unfold okS at h
  rw [Bool.and_eq_true] at h
  exact okG_iff.1 h.1
theorem zG_gw {g : List (List Int)} (h : okS g = true) : GW (zG g) g.length (w0 g) := zG_ok (okS_gw h)
theorem zG_bound {g : List (List Int)} (h : okS g = true) : ∀ r ∈ zG g, ∀ z ∈ r, 0 ≤ z ∧ z ≤ 100 := by
  obtain ⟨-, -, h1, h2, h3, h4⟩ := okS_gw h
  exact zRows_bound h4 h3 _ h2
theorem settledV_no {g : List (List Int)} (h : okS g = false) : settledV g = .tup [.nilp, .bool false] := by rw [settledV, h]; rfl
theorem settledV_yes {g : List (List Int)} (h : okS g = true) : settledV g = .tup [eFloor (zG g) (stG g).2, .bool (fullG g)] := by rw [settledV, h]; rfl
theorem rfz_eIntss {S : Store} {lo k : Nat} (l : List (List Int)) : (l.map eInts).mapM (rfz S lo (k + 1)) = some (l.map eInts) := rfz_map (fun _ => rfl) l
theorem readV_no {p : List Txt} (h : okB p = false) : readV p = .tup [.nilp, .bool false] := by
  unfold okB at h
  unfold readV
  cases hl : lettersB p with
  | false => rfl
  | true => rw [hl, Bool.true_and] at h; rw [if_pos rfl, settledV_no h]
theorem readV_yes {p : List Txt} (h : okB p = true) : readV p = .tup [eFloor (gP p) (rP p), .bool (fullG (readG p))] := by
  unfold okB at h
  rw [Bool.and_eq_true] at h
  rw [readV, if_pos h.1, settledV_yes h.2]
  rfl
theorem okB_gw {p : List Txt} (h : okB p = true) : GW (gP p) p.length (w0 (readG p)) := by
  unfold okB at h
  rw [Bool.and_eq_true] at h
  have := zG_gw h.2
  rwa [readG_len] at this
theorem okB_bound {p : List Txt} (h : okB p = true) : ∀ r ∈ gP p, ∀ z ∈ r, 0 ≤ z ∧ z ≤ 100 := by
  unfold okB at h
  rw [Bool.and_eq_true] at h
  exact zG_bound h.2
theorem textG_len (g : List (List Int)) : (textG g).length = g.length := by simp [textG]
def floorV (p : List Txt) : Bool := fullG (readG p) && decide (textG (gP p) = p)
def floorI (p : List Txt) : Bool := okB p && floorV p
def plainI (p : List Txt) : Bool := floorI p && decide (ptsG (gP p) 4 (w0 (readG p)) p.length = 0)
def needW (p : List Txt) (ws : List Int) : Bool := decide (ws.length = (rP p).length) && ws.all needB
def needV (p : List Txt) (wss : List (List Int)) : Bool := plainI p && wss.all (needW p)
theorem needV_no {p : List Txt} {wss : List (List Int)} {ws : List Int} (hm : ws ∈ wss) (h : needW p ws = false) : needV p wss = false := by
  unfold needV
  rw [Bool.and_eq_false_iff]
  right
  rw [List.all_eq_false]
  exact ⟨ws, hm, by rw [h]; exact Bool.false_ne_true⟩
theorem okB_rooms {p : List Txt} (h : okB p = true) : (rP p).length ≤ 9 := by
  unfold okB okS at h
  simp only [Bool.and_eq_true, decide_eq_true_eq] at h
  exact h.2.2
theorem okB_rooms1 {p : List Txt} (h : okB p = true) : 1 ≤ (rP p).length := by
  unfold okB at h
  rw [Bool.and_eq_true] at h
  obtain ⟨-, -, h1, h2, h3, h4⟩ := okS_gw h.2
  obtain ⟨k1, -, k3⟩ := seRows_ok (g := readG p) h4 h3 _ h2
  have := k1.1
  have := k3 h1
  unfold rP stG
  omega
theorem needV_one {p : List Txt} {ws : List Int} (h : needV p [ws] = true) : plainI p = true ∧ ws.length = (rP p).length ∧ NeedOk ws := by
  unfold needV needW at h
  simp only [List.all_cons, List.all_nil, Bool.and_true, Bool.and_eq_true, decide_eq_true_eq, List.all_eq_true, needB] at h
  exact ⟨h.1, h.2.1, fun x hx => h.2.2 x hx⟩
def sizeV (b : Bool) (M : List (List Bool)) (ws : List Int) (n : Nat) : PV := if b then .tup [.int .i64 (maxL (heaviest M ws n)), .bool true] else .tup [.int .i64 0, .bool false]
theorem heaviest_len {M : List (List Bool)} {ws : List Int} {n : Nat} : (heaviest M ws n).length = n := by simp [heaviest]
theorem reify_hv {S : Store} {o v et k : Nat} {M : List (List Bool)} {ws : List Int} {n : Nat} (h : S.obs[o]? = some (.arr v et 1 ((heaviest M ws n).map (.int .i64)))) : reify S true (k + 2) (.loc o v 0 n) = some (eInts (heaviest M ws n)) := by
  have := reify_loc (S := S) (im := true) (k := k + 1) (n := n) h (by rw [List.length_map, heaviest_len, Nat.mul_one]) (mapM_int _)
  rw [this]
  show some (PV.sl _ n) = some (PV.sl _ (heaviest M ws n).length)
  rw [heaviest_len]
theorem sizeV_t {M : List (List Bool)} {ws : List Int} {n : Nat} : sizeV true M ws n = .tup [.int .i64 (maxL (heaviest M ws n)), .bool true] := rfl
theorem sizeV_f {M : List (List Bool)} {ws : List Int} {n : Nat} : sizeV false M ws n = .tup [.int .i64 0, .bool false] := rfl
theorem foldl_max_bound {B : Int} : ∀ (l : List Int) (a : Int), 0 ≤ a → a ≤ B → (∀ x ∈ l, 0 ≤ x ∧ x ≤ B) → 0 ≤ l.foldl max a ∧ l.foldl max a ≤ B
  | [], a, h1, h2, _ => ⟨h1, h2⟩
  | x :: l, a, h1, h2, h => by
    have hx := h x (by simp)
    exact foldl_max_bound l (max a x) (by omega) (by omega) fun y hy => h y (by simp [hy])
theorem maxH_bound {M : List (List Bool)} {ws : List Int} {n : Nat} (hw : NeedOk ws) : 0 ≤ maxL (heaviest M ws n) ∧ maxL (heaviest M ws n) ≤ 909 := by
  have hb : ∀ x ∈ heaviest M ws n, 0 ≤ x ∧ x ≤ 909 := by
    intro x hx
    unfold heaviest at hx
    obtain ⟨b, _, rfl⟩ := List.mem_map.1 hx
    exact HB_bound hw b
  generalize heaviest M ws n = l at hb
  cases l with
  | nil => simp [maxL]
  | cons a l =>
    have ha := hb a (by simp)
    exact foldl_max_bound l a ha.1 ha.2 fun y hy => hb y (by simp [hy])
def areaI (p : List Txt) (ws ht : List Int) : Int :=
  if needV p [ws] && needV p [ht] then maxL (heaviest (leftG (gP p) p.length (w0 (readG p)) (rP p).length) ws (rP p).length) * maxL (heaviest (aboveG (gP p) p.length (w0 (readG p)) (rP p).length) ht (rP p).length) else 0
end Fw
end Go.Proofs.YtcglmbijpjhbmaaGreat

/-! Reading plans, gone through. -/
namespace Go.Proofs.YtcglmbijpjhbmaaGreat
namespace Fw
open Go

theorem settled_no {g : List (List Int)} (hsm : g.length < 2147483648) (hsr : ∀ r ∈ g, r.length < 2147483648) (h : okS g = false) : PC Tryz.prog 140 [eGrid g] (.tup [.nilp, .bool false]) false := by
  rw [← settledV_no h]; exact settled_pc hsm hsr
theorem settled_yes {g : List (List Int)} (hsm : g.length < 2147483648) (hsr : ∀ r ∈ g, r.length < 2147483648) (h : okS g = true) : PC Tryz.prog 140 [eGrid g] (.tup [eFloor (zG g) (stG g).2, .bool (fullG g)]) false := by
  rw [← settledV_yes h]; exact settled_pc hsm hsr

theorem read_pc {p : List Txt} (hs : Sm p) : PC Tryz.prog 119 [eStrs p] (readV p) false := by
  have hp := hs.rows
  refine PC.of ⟨Tryz.func119, by kernel_rfl, rfl, by kernel_rfl⟩ tabOk mixed (by show 1 ≤ Tryz.f119.ntmps; decide) ?_
  refine W.seq_region fun K hK => ?_
  simp (disch := omega) only [↓RU, RV, RH, ↓reduceIte, Nat.reduceEqDiff, reduceCtorEq, if_pos, ↓RS, RG, Nat.reduceAdd, Nat.reduceMul, Nat.reduceLeDiff]
  refine hK _ _ ?_
  clear hK K
  refine W.seq_region fun K hK => ?_
  simp (disch := omega) only [↓RU, RV, RH, ↓reduceIte, Nat.reduceEqDiff, reduceCtorEq, if_pos, ↓RS, RG, Nat.reduceAdd, Nat.reduceMul, Nat.reduceLeDiff, tyLLint, tyLint, tyimpl_grid, tyint]
  refine hK _ _ ?_
  clear hK K
  refine W.joinZ [4] (fun vs S => ∃ tk : Nat, lettersB p = true ∧ vs = [eGrid (readG p)] ∧ S = ⟨[], tk⟩) ?_ ?_
  ·
    refine W.seq_region fun K hK => ?_
    simp (disch := omega) only [↓RU, RV, RH, ↓reduceIte, Nat.reduceEqDiff, reduceCtorEq, if_pos, ↓RS, RG, Nat.reduceAdd, Nat.reduceMul, Nat.reduceLeDiff, tyLstring, tystring]
    refine hK _ _ ?_
    clear hK K
    refine W.block ?_
    refine W.loopZ [4, 11, 12, 13] (fun n vs S => ∃ i v0 tk : Nat, n = p.length - i ∧ i ≤ p.length ∧ ((p.take i).all (fun r => r.all letterB) = true) ∧ vs = [.loc 0 v0 0 i, eStrs p, .int .i64 p.length, .int .i64 i] ∧ S = ⟨[.arr v0 24 1 ((readG (p.take i)).map eInts)], tk⟩) (p.length) ?_ ?_
    · refine ⟨1, [.loc 0 0 0 0, eStrs p, .int .i64 p.length, .int .i64 0], ⟨[.arr 0 24 1 ((readG (p.take 0)).map eInts)], 1⟩, ?_, ?_, 0, 0, 1, rfl, by omega, rfl, rfl, rfl⟩
      · rfl
      · rfl
    rintro n vs S - ⟨i, v0, tk, rfl, h_i, hall, rfl, rfl⟩
    refine W.seq_region fun K hK => ?_
    simp (disch := omega) only [↓RU, RV, RH, ↓reduceIte, Nat.reduceEqDiff, reduceCtorEq, if_pos, w64, ↓RS, RG, Nat.reduceAdd, Nat.reduceMul, Nat.reduceLeDiff, tyint]
    refine hK _ _ ?_
    clear hK K
    refine W.seq ?_
    refine W.cond rfl (fun h => ?_) (fun h => ?_)
    · try simp only [RL] at h
      obtain ⟨row, hrow, hrm⟩ := get_of (show i < p.length by omega)
      have hrl := hs.cols row hrm
      have hgk : (readG (p.take i)).length = i := by rw [readG_len, List.length_take]; omega
      have hgt : ((readG (p.take i)).map eInts).take i = (readG (p.take i)).map eInts := List.take_of_length_le (by rw [List.length_map]; omega)
      refine W.skip ?_
      refine XThen.norm ?_
      refine W.seq ?_
      refine W.block ?_
      refine W.seq_region fun K hK => ?_
      simp (disch := omega) only [↓RU, RV, RH, ↓reduceIte, Nat.reduceEqDiff, reduceCtorEq, if_pos, ↓RS, RG, Nat.reduceAdd, Nat.reduceMul, Nat.reduceLeDiff, tyLstring, tystring, hrow]
      refine hK _ _ ?_
      clear hK K
      refine W.seq_region fun K hK => ?_
      simp (disch := omega) only [↓RU, RV, RH, ↓reduceIte, Nat.reduceEqDiff, reduceCtorEq, if_pos, ↓RS, RG, Nat.reduceAdd, Nat.reduceMul, Nat.reduceLeDiff, tyLint, tyint]
      refine hK _ _ ?_
      clear hK K
      refine W.seq ?_
      refine W.seq_region fun K hK => ?_
      simp (disch := omega) only [↓RU, RV, RH, ↓reduceIte, Nat.reduceEqDiff, reduceCtorEq, if_pos, w64, ↓RS, RG, Nat.reduceAdd, Nat.reduceMul, Nat.reduceLeDiff, tyLuint8, tystring, tyuint8]
      refine hK _ _ ?_
      clear hK K
      refine W.block ?_
      refine W.loop [4, 11, 12, 13, 7, 19, 20, 21] (fun n vs S => ∃ k v1 t : Nat, n = row.length - k ∧ k ≤ row.length ∧ ((row.take k).all letterB = true) ∧ vs = [.loc 0 v0 0 i, eStrs p, .int .i64 p.length, .int .i64 i, .loc 1 v1 0 k, .sl (row.map eB) row.length, .int .i64 row.length, .int .i64 k] ∧ S = ⟨[.arr v0 24 1 ((readG (p.take i)).map eInts), .arr v1 3 1 ((rowZ (row.take k)).map (.int .i64))], t⟩) (row.length) ?_ ?_
      · refine ⟨2, 0, _, _, rfl, Nat.zero_le _, rfl, ?_, rfl⟩
        simp [Env.put, Env.of]
      rintro n vs S - ⟨k, v1, t, rfl, h_k, hrk, rfl, rfl⟩
      refine W.seq_region fun K hK => ?_
      simp (disch := omega) only [↓RU, RV, RH, ↓reduceIte, Nat.reduceEqDiff, reduceCtorEq, if_pos, w64, ↓RS, RG, Nat.reduceAdd, Nat.reduceMul, Nat.reduceLeDiff, tyint]
      refine hK _ _ ?_
      clear hK K
      refine W.seq ?_
      refine W.cond rfl (fun h1 => ?_) (fun h1 => ?_)
      · try simp only [RL] at h1
        obtain ⟨c, hc, hcm⟩ := get_of (show k < row.length by omega)
        have hcb := c.toNat_lt
        have hrowk : (rowZ (row.take k)).length = k := by rw [rowZ_len, List.length_take]; omega
        have hrowt : ((rowZ (row.take k)).map (PV.int .i64)).take k = (rowZ (row.take k)).map (PV.int .i64) := List.take_of_length_le (by rw [List.length_map]; omega)
        refine W.skip ?_
        refine XThen.norm ?_
        refine W.seq ?_
        refine W.block ?_
        refine W.seq_region fun K hK => ?_
        simp (disch := omega) only [↓RU, RV, RH, ↓reduceIte, Nat.reduceEqDiff, reduceCtorEq, if_pos, ↓RS, RG, Nat.reduceAdd, Nat.reduceMul, Nat.reduceLeDiff, tyLuint8, tyuint8, hc]
        refine hK _ _ ?_
        clear hK K
        refine W.seq ?_
        refine W.seq_region fun K hK => ?_
        rcases (show (c.toNat : Int) < 97 ∨ (c.toNat : Int) > 122 ∨ (97 ≤ c.toNat ∧ c.toNat ≤ 122) by omega) with hb | hb | hb
        · skip
          have hd : decide ((c.toNat : Int) < 97) = true := decide_eq_true hb
          have hlc : letterB c = false := by unfold letterB; rw [decide_eq_false (by omega)]; rfl
          simp (disch := omega) only [↓RU, RV, RH, ↓reduceIte, Nat.reduceEqDiff, reduceCtorEq, if_pos, w64, ↓RS, RG, Nat.reduceAdd, Nat.reduceMul, Nat.reduceLeDiff, tyuint8, hd]
          refine hK _ _ ?_
          clear hK K
          refine W.cond rfl (fun h2 => ?_) (fun h2 => ?_)
          · try simp only [RL] at h2
            refine W.seq_region fun K hK => ?_
            simp (disch := omega) only [↓RU, RV, RH, ↓reduceIte, Nat.reduceEqDiff, reduceCtorEq, if_pos, ↓RS, RG, Nat.reduceAdd, Nat.reduceMul, Nat.reduceLeDiff]
            refine hK _ _ ?_
            clear hK K
            refine W.ret ?_
            refine XThen.ret ?_
            refine XBlock.ret ?_
            refine XThen.ret ?_
            refine XThen.ret ?_
            refine XBlock.ret ?_
            refine XThen.ret ?_
            refine XBlock.ret ?_
            refine XThen.ret ?_
            refine XThen.ret ?_
            refine XBlock.ret ?_
            refine XThen.ret ?_
            refine BodyQ.ret rfl ?_
            rw [readV, letters_bad hrm hcm hlc]
            rfl
          · try simp only [RL] at h2
            exact absurd h2 (by simp)
        · skip
          have hd : decide ((c.toNat : Int) < 97) = false := decide_eq_false (by omega)
          have hd2 : decide ((c.toNat : Int) > 122) = true := decide_eq_true hb
          have hlc : letterB c = false := by unfold letterB; rw [decide_eq_false (p := c.toNat ≤ 122) (by omega), Bool.and_false]
          simp (disch := omega) only [↓RU, RV, RH, ↓reduceIte, Nat.reduceEqDiff, reduceCtorEq, if_pos, w64, ↓RS, RG, Nat.reduceAdd, Nat.reduceMul, Nat.reduceLeDiff, tyuint8, hd, hd2]
          refine hK _ _ ?_
          clear hK K
          refine W.cond rfl (fun h2 => ?_) (fun h2 => ?_)
          · try simp only [RL] at h2
            refine W.seq_region fun K hK => ?_
            simp (disch := omega) only [↓RU, RV, RH, ↓reduceIte, Nat.reduceEqDiff, reduceCtorEq, if_pos, ↓RS, RG, Nat.reduceAdd, Nat.reduceMul, Nat.reduceLeDiff]
            refine hK _ _ ?_
            clear hK K
            refine W.ret ?_
            refine XThen.ret ?_
            refine XBlock.ret ?_
            refine XThen.ret ?_
            refine XThen.ret ?_
            refine XBlock.ret ?_
            refine XThen.ret ?_
            refine XBlock.ret ?_
            refine XThen.ret ?_
            refine XThen.ret ?_
            refine XBlock.ret ?_
            refine XThen.ret ?_
            refine BodyQ.ret rfl ?_
            rw [readV, letters_bad hrm hcm hlc]
            rfl
          · try simp only [RL] at h2
            exact absurd h2 (by simp)
        · skip
          have hd : decide ((c.toNat : Int) < 97) = false := decide_eq_false (by omega)
          have hd2 : decide ((c.toNat : Int) > 122) = false := decide_eq_false (by omega)
          have hlc : letterB c = true := by unfold letterB; rw [decide_eq_true hb.1, decide_eq_true hb.2]; rfl
          simp (disch := omega) only [↓RU, RV, RH, ↓reduceIte, Nat.reduceEqDiff, reduceCtorEq, if_pos, w64, ↓RS, RG, Nat.reduceAdd, Nat.reduceMul, Nat.reduceLeDiff, tyuint8, hd, hd2]
          refine hK _ _ ?_
          clear hK K
          refine W.cond rfl (fun h2 => ?_) (fun h2 => ?_)
          · try simp only [RL] at h2
            exact absurd h2 (by simp)
          · try simp only [RL] at h2
            refine W.skip ?_
            refine XThen.norm ?_
            refine W.region_k fun K hK => ?_
            simp (disch := omega) only [↓RU, RV, RH, ↓reduceIte, Nat.reduceEqDiff, reduceCtorEq, if_pos, w64, ↓RS, RG, Nat.reduceAdd, Nat.reduceMul, Nat.reduceLeDiff, tyLint, tyint, tyuint8, hrowk, hrowt, Nat.le_refl]
            refine hK _ _ ?_
            clear hK K
            refine XBlock.norm ?_
            refine XThen.norm ?_
            refine W.region_k fun K hK => ?_
            simp (disch := omega) only [↓RU, RV, RH, ↓reduceIte, Nat.reduceEqDiff, reduceCtorEq, if_pos, w64, ↓RS, RG, Nat.reduceAdd, Nat.reduceMul, Nat.reduceLeDiff, tyint]
            refine hK _ _ ?_
            clear hK K
            refine XThen.norm ?_
            refine ⟨row.length - (k + 1), by omega, 2, k + 1, t + 1, t + 2, rfl, by omega, all_tk hc hrk hlc, ?_, ?_⟩
            · simp [Env.put, Env.of]
            · simp [take_eq, rowZ_succ hc]
      · try simp only [RL] at h1
        obtain rfl : k = row.length := by omega
        have hra : row.all letterB = true := by rw [List.take_length] at hrk; exact hrk
        have hrz := rowZ_len row
        rw [List.take_length]
        generalize hYe : rowZ row = Y at hrz
        have hYt : (Y.map (PV.int .i64)).take row.length = Y.map (PV.int .i64) := List.take_of_length_le (by rw [List.length_map]; omega)
        have hYE : eInts Y = PV.sl (Y.map (PV.int .i64)) row.length := by rw [← hrz]
        refine W.exit ?_
        refine XThen.exit ?_
        refine XThen.exit ?_
        refine XBlock.hit ?_
        refine XThen.norm ?_
        refine W.region_k fun K hK => ?_
        simp (disch := omega) only [↓RU, RV, RH, ↓reduceIte, Nat.reduceEqDiff, reduceCtorEq, if_pos, ↓RS, RG, Nat.reduceAdd, Nat.reduceMul, Nat.reduceLeDiff, tyLLint, tyLint, tyimpl_grid, tyint, hgk, hgt, Nat.le_refl]
        refine hK _ _ ?_
        clear hK K
        refine XBlock.norm ?_
        refine XThen.norm ?_
        refine W.region_k fun K hK => ?_
        simp (disch := omega) only [↓RU, RV, RH, ↓reduceIte, Nat.reduceEqDiff, reduceCtorEq, if_pos, w64, ↓RS, RG, Nat.reduceAdd, Nat.reduceMul, Nat.reduceLeDiff, tyint]
        refine hK _ _ ?_
        clear hK K
        refine XThen.norm ?_
        refine ⟨p.length - (i + 1), by omega, 1, [.loc 0 (t + 1) 0 (i + 1), eStrs p, .int .i64 p.length, .int .i64 (i + 1)], ⟨[.arr (t + 1) 24 1 ((readG (p.take (i + 1))).map eInts)], (t + 2)⟩, ?_, ?_, (i + 1), (t + 1), (t + 2), rfl, by omega, all_tk hrow hall hra, rfl, rfl⟩
        · simp [-List.mapM_map, Store.frz, frzObs, frzOb, frz_eInts, frz_loc, rfz_loc, frz_int, frz_sl, frz_ints, rfz_ints, frz_strs, frz_bytes, rfz_bytes, rfz_str, rfz_bool, frz_str, frz_bool, Env.put, Env.of, argEnv, rfz_int, List.mapM_append, List.mapM_cons]
        · simp [-List.mapM_map, Store.frz, frzObs, frzOb, frz_eInts, frz_loc, rfz_loc, frz_int, frz_sl, frz_ints, rfz_ints, frz_strs, frz_bytes, rfz_bytes, rfz_str, rfz_bool, frz_str, frz_bool, Env.put, Env.of, argEnv, rfz_int, List.mapM_append, List.mapM_cons, readG_succ hrow, hYe, hYt, hYE, hrz]
    · try simp only [RL] at h
      refine W.exit ?_
      refine XThen.exit ?_
      refine XThen.exit ?_
      refine XBlock.hit ?_
      refine XThen.norm ?_
      obtain rfl : i = p.length := by omega
      rw [List.take_length] at hall ⊢
      have hgt2 : ((readG p).map eInts).take p.length = (readG p).map eInts := List.take_of_length_le (by simp [readG])
      have hgE : eGrid (readG p) = PV.sl ((readG p).map eInts) p.length := by rw [← readG_len p]
      refine ⟨0, [eGrid (readG p)], ⟨[], tk⟩, ?_, ?_, tk, hall, rfl, rfl⟩
      · simp [-List.mapM_map, Store.frz, frzObs, frzOb, frz_eInts, frz_loc, rfz_loc, frz_int, frz_sl, frz_ints, rfz_ints, frz_strs, frz_bytes, rfz_bytes, rfz_str, rfz_bool, frz_str, frz_bool, Env.put, Env.of, argEnv, rfz_int, List.mapM_append, List.mapM_cons, hgt2, hgE, readG_len, rfz_eIntss]
      · simp [-List.mapM_map, Store.frz, frzObs, frzOb, frz_eInts, frz_loc, rfz_loc, frz_int, frz_sl, frz_ints, rfz_ints, frz_strs, frz_bytes, rfz_bytes, rfz_str, rfz_bool, frz_str, frz_bool, Env.put, Env.of, argEnv, rfz_int, List.mapM_append, List.mapM_cons]
  rintro vs S - ⟨tk, hlet, rfl, rfl⟩
  refine W.seq_region fun K hK => ?_
  cases hok : okS (readG p)
  · skip
    simp (disch := omega) only [↓RU, RV, RH, ↓reduceIte, Nat.reduceEqDiff, reduceCtorEq, if_pos, List.append_nil, ↓RS, RG, Nat.reduceAdd, Nat.reduceMul, Nat.reduceLeDiff]
    refine CallR.pc (settled_no (g := readG p) (by rw [readG_len]; omega) (fun r hr => by obtain ⟨t, ht, rfl⟩ := List.mem_map.1 hr; rw [rowZ_len]; exact hs.cols t ht) hok) rfl (.inr rfl) ?_
    simp (disch := omega) only [↓RU, RV, RH, ↓reduceIte, Nat.reduceEqDiff, reduceCtorEq, if_pos, List.append_nil, ↓RS, RG, Nat.reduceAdd, Nat.reduceMul, Nat.reduceLeDiff]
    refine hK _ _ ?_
    clear hK K
    refine W.ret ?_
    refine BodyQ.ret rfl ?_
    rw [readV, hlet, if_pos rfl, settledV_no hok]
    rfl
  · skip
    simp (disch := omega) only [↓RU, RV, RH, ↓reduceIte, Nat.reduceEqDiff, reduceCtorEq, if_pos, List.append_nil, ↓RS, RG, Nat.reduceAdd, Nat.reduceMul, Nat.reduceLeDiff]
    refine CallR.pc (settled_yes (g := readG p) (by rw [readG_len]; omega) (fun r hr => by obtain ⟨t, ht, rfl⟩ := List.mem_map.1 hr; rw [rowZ_len]; exact hs.cols t ht) hok) rfl (.inr rfl) ?_
    simp (disch := omega) only [↓RU, RV, RH, ↓reduceIte, Nat.reduceEqDiff, reduceCtorEq, if_pos, List.append_nil, ↓RS, RG, Nat.reduceAdd, Nat.reduceMul, Nat.reduceLeDiff]
    refine hK _ _ ?_
    clear hK K
    refine W.ret ?_
    refine BodyQ.ret rfl ?_
    rw [readV, hlet, if_pos rfl, settledV_yes hok]
    rfl

theorem read_no {p : List Txt} (hs : Sm p) (h : okB p = false) : PC Tryz.prog 119 [eStrs p] (.tup [.nilp, .bool false]) false := by
  rw [← readV_no h]; exact read_pc hs
theorem read_yes {p : List Txt} (hs : Sm p) (h : okB p = true) : PC Tryz.prog 119 [eStrs p] (.tup [eFloor (gP p) (rP p), .bool (fullG (readG p))]) false := by
  rw [← readV_yes h]; exact read_pc hs

theorem floorOf_no {p : List Txt} (hs : Sm p) (h : okB p = false) : PC Tryz.prog 94 [eStrs p] (.tup [.nilp, .bool false]) false := by
  refine PC.of ⟨Tryz.func94, by kernel_rfl, rfl, by kernel_rfl⟩ tabOk mixed (by show 1 ≤ Tryz.f94.ntmps; decide) ?_
  refine W.seq_region fun K hK => ?_
  simp (disch := omega) only [↓RU, RV, RH, ↓reduceIte, Nat.reduceEqDiff, reduceCtorEq, if_pos]
  refine hK _ _ ?_
  clear hK K
  refine W.seq_region fun K hK => ?_
  simp (disch := omega) only [↓RU, RV, RH, ↓reduceIte, Nat.reduceEqDiff, reduceCtorEq, if_pos, List.append_nil]
  refine CallR.pc (read_no hs h) rfl (.inr rfl) ?_
  simp (disch := omega) only [↓RU, RV, RH, ↓reduceIte, Nat.reduceEqDiff, reduceCtorEq, if_pos, List.append_nil]
  refine hK _ _ ?_
  clear hK K
  refine W.seq_region fun K hK => ?_
  simp (disch := omega) only [↓RU, RV, RH, ↓reduceIte, Nat.reduceEqDiff, reduceCtorEq, if_pos, List.append_nil]
  refine hK _ _ ?_
  clear hK K
  refine W.ret ?_
  refine BodyQ.ret rfl ?_
  rfl

theorem floorOf_yes {p : List Txt} (hs : Sm p) (h : okB p = true) : PC Tryz.prog 94 [eStrs p] (.tup [eFloor (gP p) (rP p), .bool (floorV p)]) false := by
  have hg := okB_gw h
  have hz := okB_bound h
  have hrows := hs.rows
  refine PC.of ⟨Tryz.func94, by kernel_rfl, rfl, by kernel_rfl⟩ tabOk mixed (by show 1 ≤ Tryz.f94.ntmps; decide) ?_
  refine W.seq_region fun K hK => ?_
  simp (disch := omega) only [↓RU, RV, RH, ↓reduceIte, Nat.reduceEqDiff, reduceCtorEq, if_pos]
  refine hK _ _ ?_
  clear hK K
  refine W.seq_region fun K hK => ?_
  simp (disch := omega) only [↓RU, RV, RH, ↓reduceIte, Nat.reduceEqDiff, reduceCtorEq, if_pos, List.append_nil]
  refine CallR.pc (read_yes hs h) rfl (.inr rfl) ?_
  simp (disch := omega) only [↓RU, RV, RH, ↓reduceIte, Nat.reduceEqDiff, reduceCtorEq, if_pos, List.append_nil]
  refine hK _ _ ?_
  clear hK K
  refine W.seq_region fun K hK => ?_
  cases hf : fullG (readG p)
  · skip
    simp (disch := omega) only [↓RU, RV, RH, ↓reduceIte, Nat.reduceEqDiff, reduceCtorEq, if_pos, List.append_nil]
    refine hK _ _ ?_
    clear hK K
    refine W.ret ?_
    refine BodyQ.ret rfl ?_
    rw [floorV, hf]
    rfl
  · skip
    simp (disch := omega) only [↓RU, RV, RH, ↓reduceIte, Nat.reduceEqDiff, reduceCtorEq, if_pos, List.append_nil, hf]
    refine CallR.pc (text_pc hg (rP p) hz) rfl (.inl rfl) ?_
    simp (disch := omega) only [↓RU, RV, RH, ↓reduceIte, Nat.reduceEqDiff, reduceCtorEq, if_pos, List.append_nil, hf]
    refine CallR.pc (equalStrs_pc (p := textG (gP p)) (q := p) (by rw [textG_len, hg.1]; omega) hs.rows) rfl (.inl rfl) ?_
    simp (disch := omega) only [↓RU, RV, RH, ↓reduceIte, Nat.reduceEqDiff, reduceCtorEq, if_pos, List.append_nil, hf]
    refine hK _ _ ?_
    clear hK K
    refine W.ret ?_
    refine BodyQ.ret rfl ?_
    rw [floorV, hf]
    rfl

theorem floorOf_ex {p : List Txt} (hs : Sm p) : ∃ x, PC Tryz.prog 94 [eStrs p] (.tup [x, .bool (floorI p)]) false ∧ (floorI p = true → x = eFloor (gP p) (rP p)) ∧ ∀ (S : Store) (k : Nat), reify S true (k + 1) x = some x := by
  unfold floorI
  cases h : okB p with
  | false => exact ⟨_, floorOf_no hs h, (fun h => by cases h), fun _ _ => rfl⟩
  | true => exact ⟨_, floorOf_yes hs h, fun _ => rfl, fun _ _ => rfl⟩

theorem plainOf_ex0 {p : List Txt} (hs : Sm p) {x : PV} (hx : PC Tryz.prog 94 [eStrs p] (.tup [x, .bool (floorI p)]) false) (hy : floorI p = true → x = eFloor (gP p) (rP p)) (hr : ∀ (S : Store) (k : Nat), reify S true (k + 1) x = some x) : PC Tryz.prog 101 [eStrs p] (.tup [x, .bool (plainI p)]) false := by
  refine PC.of ⟨Tryz.func101, by kernel_rfl, rfl, by kernel_rfl⟩ tabOk mixed (by show 1 ≤ Tryz.f101.ntmps; decide) ?_
  refine W.seq_region fun K hK => ?_
  simp (disch := omega) only [↓RU, RV, RH, ↓reduceIte, Nat.reduceEqDiff, reduceCtorEq, if_pos]
  refine hK _ _ ?_
  clear hK K
  refine W.seq_region fun K hK => ?_
  simp (disch := omega) only [↓RU, RV, RH, ↓reduceIte, Nat.reduceEqDiff, reduceCtorEq, if_pos, List.append_nil]
  refine CallR.pc (hx) rfl (.inr rfl) ?_
  simp (disch := omega) only [↓RU, RV, RH, ↓reduceIte, Nat.reduceEqDiff, reduceCtorEq, if_pos, List.append_nil]
  refine hK _ _ ?_
  clear hK K
  refine W.seq_region fun K hK => ?_
  cases hf : floorI p
  · skip
    simp (disch := omega) only [↓RU, RV, RH, ↓reduceIte, Nat.reduceEqDiff, reduceCtorEq, if_pos, List.append_nil]
    refine hK _ _ ?_
    clear hK K
    refine W.ret ?_
    refine BodyQ.ret rfl ?_
    rw [plainI, hf]
    exact reify_tup2 (k := 9) (hr _ 8) rfl
  · skip
    have hxe := hy hf
    subst hxe
    have hok : okB p = true := by unfold floorI at hf; rw [Bool.and_eq_true] at hf; exact hf.1
    have hg := okB_gw hok
    simp (disch := omega) only [↓RU, RV, RH, ↓reduceIte, Nat.reduceEqDiff, reduceCtorEq, if_pos, List.append_nil, hf]
    refine CallR.pc (fplain_pc hg (rP p)) rfl (.inl rfl) ?_
    simp (disch := omega) only [↓RU, RV, RH, ↓reduceIte, Nat.reduceEqDiff, reduceCtorEq, if_pos, List.append_nil, hf]
    refine hK _ _ ?_
    clear hK K
    refine W.ret ?_
    refine BodyQ.ret rfl ?_
    rw [plainI, hf]
    rfl

theorem plain_okB {p : List Txt} (h : plainI p = true) : okB p = true ∧ plainI p = true := by
  refine ⟨?_, h⟩
  unfold plainI floorI at h
  simp only [Bool.and_eq_true] at h
  exact h.1.1
theorem plainOf_ex {p : List Txt} (hs : Sm p) : ∃ x, PC Tryz.prog 101 [eStrs p] (.tup [x, .bool (plainI p)]) false ∧ (plainI p = true → x = eFloor (gP p) (rP p)) ∧ ∀ (S : Store) (k : Nat), reify S true (k + 1) x = some x := by
  obtain ⟨x, h1, h2, h3⟩ := floorOf_ex hs
  refine ⟨x, plainOf_ex0 hs h1 h2 h3, fun h => h2 ?_, h3⟩
  unfold plainI at h
  rw [Bool.and_eq_true] at h
  exact h.1

end Fw
end Go.Proofs.YtcglmbijpjhbmaaGreat

/-! The two closures of relations are the same. -/
namespace Go.Proofs.YtcglmbijpjhbmaaGreat
namespace Fw
open Go

/-- A list of lists and a list of sets that say the same. -/
def Same (n : Nat) (M : List (List Bool)) (ms : List Nat) : Prop := Sq n M ∧ ms.length = n ∧ ∀ a b, a < n → b < n → getB M a b = bitOf ms a b

theorem getB_setB {n : Nat} {M : List (List Bool)} (h : Sq n M) {a b x y : Nat} {v : Bool} (ha : a < n) (hb : b < n) : getB (setB M a b v) x y = if x = a ∧ y = b then v else getB M x y := by
  obtain ⟨row, hr, hl, -⟩ := h.at_ ha hb
  rw [setB_is hr]
  unfold getB
  rw [List.getElem?_set]
  by_cases hx : a = x
  · subst hx
    rw [if_pos rfl, if_pos (by rw [h.1]; exact ha), Option.getD_some, List.getElem?_set, hr]
    by_cases hy : b = y
    · subst hy
      rw [if_pos rfl, if_pos (by omega), if_pos ⟨rfl, rfl⟩]; rfl
    · rw [if_neg hy, if_neg (fun h => hy h.2.symm)]; rfl
  · rw [if_neg hx, if_neg (fun h => hx h.1.symm)]

/-- One row of the closure, place by place. -/
theorem clA_to {n : Nat} {M : List (List Bool)} (h : Sq n M) {k a : Nat} (hk : k < n) (ha : a < n) : ∀ i, i ≤ n → Sq n ((List.range i).foldl (clB k a) M) ∧
    ∀ x y, x < n → y < n → getB ((List.range i).foldl (clB k a) M) x y = if x = a ∧ y < i then getB M a y || (getB M a k && getB M k y) else getB M x y
  | 0, _ => ⟨h, fun x y _ _ => by simp⟩
  | i + 1, hi => by
    obtain ⟨h1, h2⟩ := clA_to h hk ha i (by omega)
    rw [foldl_rg]
    generalize (List.range i).foldl (clB k a) M = X at h1 h2 ⊢
    refine ⟨h1.clB ha, fun x y hx hy => ?_⟩
    unfold clB
    rw [getB_setB h1 ha (by omega), h2 a i ha (by omega), h2 a k ha hk, h2 k i hk (by omega), h2 x y hx hy]
    have e1 : (if a = a ∧ k < i then getB M a k || (getB M a k && getB M k k) else getB M a k) = getB M a k := by
      split
      · cases getB M a k <;> simp
      · rfl
    have e2 : (if k = a ∧ i < i then getB M a i || (getB M a k && getB M k i) else getB M k i) = getB M k i := by rw [if_neg (by omega)]
    have e3 : (if a = a ∧ i < i then getB M a i || (getB M a k && getB M k i) else getB M a i) = getB M a i := by rw [if_neg (by omega)]
    rw [e1, e2, e3]
    by_cases hxa : x = a
    · subst hxa
      by_cases hyi : y = i
      · subst hyi; rw [if_pos ⟨rfl, rfl⟩, if_pos ⟨rfl, by omega⟩]
      · rw [if_neg (fun h => hyi h.2)]
        by_cases hlt : y < i
        · rw [if_pos ⟨rfl, hlt⟩, if_pos ⟨rfl, by omega⟩]
        · rw [if_neg (fun h => hlt h.2), if_neg (fun h => hlt (by have := h.2; omega))]
    · rw [if_neg (fun h => hxa h.1), if_neg (fun h => hxa h.1), if_neg (fun h => hxa h.1)]
theorem bitOf_set {ms : List Nat} {a m x y : Nat} (ha : a < ms.length) : bitOf (ms.set a m) x y = if x = a then m.testBit y else bitOf ms x y := by
  unfold bitOf
  rw [List.getElem?_set]
  by_cases h : a = x
  · subst h; rw [if_pos rfl, if_pos ha, if_pos rfl]; rfl
  · rw [if_neg h, if_neg (Ne.symm h)]
theorem allA_len {c a : Nat} {ms : List Nat} : (allA c ms a).length = ms.length := by unfold allA; split <;> simp
theorem Same.clA {n : Nat} {M : List (List Bool)} {ms : List Nat} (h : Same n M ms) {k a : Nat} (hk : k < n) (ha : a < n) : Same n (clA n k M a) (allA k ms a) := by
  obtain ⟨h1, h2, h3⟩ := h
  obtain ⟨k1, k2⟩ := clA_to h1 hk ha n (Nat.le_refl _)
  refine ⟨k1, by rw [allA_len, h2], fun x y hx hy => ?_⟩
  unfold Fw.clA
  rw [k2 x y hx hy]
  obtain ⟨m, hm, -⟩ := get_of (show a < ms.length by omega)
  obtain ⟨c, hc, -⟩ := get_of (show k < ms.length by omega)
  have hak : getB M a k = m.testBit k := by rw [h3 a k ha hk, bitOf_is hm]
  cases hb : m.testBit k with
  | true =>
    rw [allA_yes hm hc hb, bitOf_set (by omega), hak, hb]
    by_cases hxa : x = a
    · subst hxa
      rw [if_pos ⟨rfl, hy⟩, if_pos rfl, Nat.testBit_or, h3 x y hx hy, h3 k y hk hy, bitOf_is hm, bitOf_is hc, Bool.true_and]
    · rw [if_neg (fun h => hxa h.1), if_neg hxa, h3 x y hx hy]
  | false =>
    rw [allA_no hm hb, hak, hb]
    by_cases hxa : x = a
    · subst hxa; rw [if_pos ⟨rfl, hy⟩, Bool.false_and, Bool.or_false, h3 x y hx hy]
    · rw [if_neg (fun h => hxa h.1), h3 x y hx hy]
theorem Same.fold {n : Nat} {f : List (List Bool) → Nat → List (List Bool)} {g : List Nat → Nat → List Nat} : ∀ (i : Nat) {M : List (List Bool)} {ms : List Nat}, i ≤ n → (∀ M ms j, j < n → Same n M ms → Same n (f M j) (g ms j)) → Same n M ms → Same n ((List.range i).foldl f M) ((List.range i).foldl g ms)
  | 0, _, _, _, _, h => h
  | i + 1, M, ms, hi, hs, h => by
    rw [foldl_rg, foldl_rg]
    exact hs _ _ i (by omega) (Same.fold i (by omega) hs h)
theorem Same.close {p : List Txt} {kind : Int} {n : Nat} {M : List (List Bool)} (h : Same n M (just p kind)) : Same n (closeM M) (allS p kind) := by
  unfold closeM allS
  rw [h.1.1, h.2.1]
  exact Same.fold n (Nat.le_refl _) (fun _ _ k hk h => Same.fold n (Nat.le_refl _) (fun _ _ a ha h => h.clA hk ha) h) h
end Fw
end Go.Proofs.YtcglmbijpjhbmaaGreat

/-! The heaviest sums and the least sizes are the same. -/
namespace Go.Proofs.YtcglmbijpjhbmaaGreat
namespace Fw
open Go

theorem count_lt {α : Type} {f g : α → Bool} : ∀ {l : List α}, (∀ x ∈ l, f x = true → g x = true) → (∃ x ∈ l, g x = true ∧ f x = false) → l.countP f < l.countP g
  | [], _, h => by obtain ⟨x, hx, _⟩ := h; simp at hx
  | a :: l, h1, h2 => by
    have hle : l.countP f ≤ l.countP g := List.countP_mono_left fun x hx => h1 x (by simp [hx])
    have ha := h1 a (by simp)
    rw [List.countP_cons, List.countP_cons]
    obtain ⟨x, hx, k1, k2⟩ := h2
    rcases List.mem_cons.1 hx with rfl | hx
    · rw [k1, k2]; simp; omega
    · have := count_lt (l := l) (fun x hx => h1 x (by simp [hx])) ⟨x, hx, k1, k2⟩
      cases hf : f a with
      | false => simp; omega
      | true => rw [ha hf]; simp; omega
/-- How many rooms stand ahead of a room. -/
def ahead (n : Nat) (rk : Nat → Nat) (b : Nat) : Nat := (List.range n).countP fun a => decide (rk a < rk b)
theorem ahead_lt {n : Nat} {rk : Nat → Nat} {a b : Nat} (ha : a < n) (h : rk a < rk b) : ahead n rk a < ahead n rk b :=
  count_lt (fun x _ hx => by simp at hx ⊢; omega) ⟨a, by simpa using ha, by simpa using h, by simp⟩
theorem ahead_n {n : Nat} {rk : Nat → Nat} {b : Nat} (hb : b < n) : ahead n rk b < n := by
  have := count_lt (l := List.range n) (f := fun a => decide (rk a < rk b)) (g := fun _ => true) (fun _ _ _ => rfl) ⟨b, by simpa using hb, rfl, by simp⟩
  simpa [ahead] using this

section
variable {M : List (List Bool)} {ms : List Nat} {ws : List Int} {n : Nat} {rk : Nat → Nat}

/-- Where a room must begin at least. -/
def beg (M : List (List Bool)) (ws : List Int) (n b : Nat) : Int := hvF M (HB M ws n) b n
def Low (M : List (List Bool)) (ws : List Int) (n : Nat) (out : List Int) : Prop := out.length = n ∧ ∀ b, b < n → 0 ≤ getI out b ∧ getI out b ≤ beg M ws n b
def Ge (n : Nat) (o out : List Int) : Prop := ∀ b, b < n → getI o b ≤ getI out b
theorem Ge.refl (o : List Int) : Ge n o o := fun _ _ => Int.le_refl _
theorem Ge.trans {a b c : List Int} (h : Ge n a b) (k : Ge n b c) : Ge n a c := fun x hx => Int.le_trans (h x hx) (k x hx)
theorem getI_set {l : List Int} {b y : Nat} {v : Int} (hb : b < l.length) : getI (l.set b v) y = if y = b then v else getI l y := by
  unfold getI
  rw [List.getElem?_set]
  by_cases h : b = y
  · subst h; rw [if_pos rfl, if_pos hb, if_pos rfl]; rfl
  · rw [if_neg h, if_neg (Ne.symm h)]
theorem HB_beg (hu : Up M n rk) {b : Nat} (hb : b < n) : HB M ws n b = beg M ws n b + getI ws b := HB_eq hu hb
theorem plB_step (hs : Same n M ms) (hu : Up M n rk) {out : List Int} (h : Low M ws n out) {a b : Nat} (ha : a < n) (hb : b < n) :
    Low M ws n (plB ms ws a out b) ∧ Ge n out (plB ms ws a out b) ∧ (bitOf ms a b = true → getI out a + getI ws a ≤ getI (plB ms ws a out b) b) := by
  unfold plB
  cases hbit : bitOf ms a b with
  | false => exact ⟨h, Ge.refl _, fun h => by cases h⟩
  | true =>
    have hM : getB M a b = true := by rw [hs.2.2 a b ha hb]; exact hbit
    have hge := hvF_ge (M := M) (g := HB M ws n) (b := b) ha hM
    have h1 := h.2 a ha
    have h2 := h.2 b hb
    have h3 := HB_beg (ws := ws) hu ha
    rw [if_pos rfl]
    refine ⟨⟨by simp [h.1], fun y hy => ?_⟩, fun y hy => ?_, fun _ => ?_⟩
    · rw [getI_set (by rw [h.1]; exact hb)]
      split
      · rename_i e; subst e
        unfold beg at *
        omega
      · exact h.2 y hy
    · rw [getI_set (by rw [h.1]; exact hb)]
      split
      · rename_i e; subst e; omega
      · exact Int.le_refl _
    · rw [getI_set (by rw [h.1]; exact hb), if_pos rfl]; omega
theorem plA_step (hs : Same n M ms) (hu : Up M n rk) {out : List Int} (h : Low M ws n out) {a : Nat} (ha : a < n) : ∀ i, i ≤ n →
    Low M ws n ((List.range i).foldl (plB ms ws a) out) ∧ Ge n out ((List.range i).foldl (plB ms ws a) out) ∧ ∀ b, b < i → bitOf ms a b = true → getI out a + getI ws a ≤ getI ((List.range i).foldl (plB ms ws a) out) b
  | 0, _ => ⟨h, Ge.refl _, fun b hb => by omega⟩
  | i + 1, hi => by
    obtain ⟨h1, h2, h3⟩ := plA_step hs hu h ha i (by omega)
    rw [foldl_rg]
    generalize (List.range i).foldl (plB ms ws a) out = X at h1 h2 h3 ⊢
    obtain ⟨k1, k2, k3⟩ := plB_step hs hu h1 ha (show i < n by omega)
    refine ⟨k1, h2.trans k2, fun b hb hbit => ?_⟩
    by_cases e : b = i
    · subst e
      have := k3 hbit
      have := h2 a ha
      omega
    · have := h3 b (by omega) hbit
      have := k2 b (by omega)
      omega
theorem plN_step (hs : Same n M ms) (hu : Up M n rk) (hl : ws.length = n) {out : List Int} (h : Low M ws n out) : ∀ i, i ≤ n →
    Low M ws n ((List.range i).foldl (plA ms ws) out) ∧ Ge n out ((List.range i).foldl (plA ms ws) out) ∧ ∀ a b, a < i → b < n → bitOf ms a b = true → getI out a + getI ws a ≤ getI ((List.range i).foldl (plA ms ws) out) b
  | 0, _ => ⟨h, Ge.refl _, fun a b ha => by omega⟩
  | i + 1, hi => by
    obtain ⟨h1, h2, h3⟩ := plN_step hs hu hl h i (by omega)
    rw [foldl_rg]
    generalize (List.range i).foldl (plA ms ws) out = X at h1 h2 h3 ⊢
    obtain ⟨k1, k2, k3⟩ := plA_step hs hu h1 (show i < n by omega) n (Nat.le_refl _)
    have e : plA ms ws X i = (List.range n).foldl (plB ms ws i) X := by unfold plA; rw [hl]
    rw [e]
    refine ⟨k1, h2.trans k2, fun a b ha hb hbit => ?_⟩
    by_cases e2 : a = i
    · subst e2
      have := k3 b hb hbit
      have := h2 a (by omega)
      omega
    · have := h3 a b (by omega) hb hbit
      have := k2 b hb
      omega
theorem hvF_le {g : Nat → Int} {b : Nat} {B : Int} (hB : 0 ≤ B) : ∀ {i : Nat}, (∀ a, a < i → getB M a b = true → g a ≤ B) → hvF M g b i ≤ B := fun h => (hvF_bound hB h).2
theorem hvF_pos {g : Nat → Int} {b : Nat} : ∀ i, 0 ≤ hvF M g b i
  | 0 => by simp [hvF]
  | i + 1 => by
    have := hvF_pos (g := g) (b := b) i
    rw [hvF_succ]
    split <;> omega
theorem places_done (hs : Same n M ms) (hu : Up M n rk) (hl : ws.length = n) : ∀ k, k ≤ n → Low M ws n ((List.range k).foldl (plN ms ws) (List.replicate n 0)) ∧
    ∀ b, b < n → ahead n rk b < k → getI ((List.range k).foldl (plN ms ws) (List.replicate n 0)) b = beg M ws n b
  | 0, _ => by
    refine ⟨⟨by simp, fun b hb => ?_⟩, fun b hb h => by omega⟩
    have : getI (List.replicate n 0) b = 0 := by simp [getI, hb]
    have h0 := hvF_pos (M := M) (g := HB M ws n) (b := b) n
    unfold beg
    simp only [List.range_zero, List.foldl_nil]
    omega
  | k + 1, hk => by
    obtain ⟨h1, h2⟩ := places_done hs hu hl k (by omega)
    rw [foldl_rg]
    generalize (List.range k).foldl (plN ms ws) (List.replicate n 0) = X at h1 h2 ⊢
    have e : plN ms ws X k = (List.range n).foldl (plA ms ws) X := by unfold plN; rw [hl]
    rw [e]
    obtain ⟨k1, k2, k3⟩ := plN_step hs hu hl h1 n (Nat.le_refl _)
    refine ⟨k1, fun b hb hc => ?_⟩
    have hlo := k1.2 b hb
    have : beg M ws n b ≤ getI ((List.range n).foldl (plA ms ws) X) b := by
      unfold beg
      refine hvF_le hlo.1 fun a ha hab => ?_
      have hrk := hu.up a b ha hb hab
      have hca := ahead_lt ha hrk
      have h4 := h2 a ha (by omega)
      have h5 := k3 a b ha hb (by rw [← hs.2.2 a b ha hb]; exact hab)
      rw [h4, ← HB_beg hu ha] at h5
      exact h5
    omega
theorem foldl_max_map {f : Nat → Int} {l : List Nat} {m : Int} : (l.map f).foldl max m = l.foldl (fun m a => max m (f a)) m := by
  rw [List.foldl_map]
theorem foldl_congr {α β : Type} {f g : β → α → β} : ∀ {l : List α} {z : β}, (∀ x ∈ l, ∀ z, f z x = g z x) → l.foldl f z = l.foldl g z
  | [], _, _ => rfl
  | a :: l, z, h => by
    rw [List.foldl_cons, List.foldl_cons, h a (by simp)]
    exact foldl_congr fun x hx => h x (by simp [hx])
theorem least_heaviest (hs : Same n M ms) (hu : Up M n rk) (hl : ws.length = n) (hn : 1 ≤ n) (hw : NeedOk ws) : least ms ws = maxL (heaviest M ws n) := by
  obtain ⟨h1, h2⟩ := places_done (ws := ws) hs hu hl n (Nat.le_refl _)
  have hp : places ms ws = (List.range n).foldl (plN ms ws) (List.replicate n 0) := by unfold places; rw [hl]
  have e : least ms ws = (List.range n).foldl (fun m a => max m (HB M ws n a)) 0 := by
    unfold least
    rw [hl, hp]
    refine foldl_congr fun b hb z => ?_
    have hbn : b < n := by simpa using hb
    rw [h2 b hbn (ahead_n hbn), ← HB_beg hu hbn]
  rw [e, ← foldl_max_map]
  show (heaviest M ws n).foldl max 0 = _
  have hlen := heaviest_len (M := M) (ws := ws) (n := n)
  have hpos : ∀ x ∈ heaviest M ws n, 0 ≤ x := by
    intro x hx
    unfold heaviest at hx
    obtain ⟨b, _, rfl⟩ := List.mem_map.1 hx
    exact (HB_bound hw b).1
  generalize heaviest M ws n = l at hlen hpos
  cases l with
  | nil => simp at hlen; omega
  | cons a l =>
    have := hpos a (by simp)
    show l.foldl max (max 0 a) = l.foldl max a
    rw [show max 0 a = a by omega]
end
end Fw
end Go.Proofs.YtcglmbijpjhbmaaGreat

/-! The program's walls and orders are the specification's. -/
namespace Go.Proofs.YtcglmbijpjhbmaaGreat
namespace Fw
open Go

def kk (lv : Bool) : Int := if lv then 1 else 0
def encW (w : Wall) : List Int := [kk w.level, w.line, w.fr, w.long]
def pendW (L : Nat) (f : Int) (i : Nat) : List (List Int) := if 0 ≤ f then [[(L : Int), f, (i : Int) - f]] else []

/-- One line: places gone through by both. -/
theorem wlLine_enc {g : List (List Int)} {q : List Txt} {lv : Bool} {L P : Nat} (hd : ∀ j, j < P → difG g lv L j = wallB q L j) {ws0 : List Wall} {pre s0 : List (List Int)} (h0 : ws0.map encW = pre ++ s0.map (kk lv :: ·)) : ∀ i, i ≤ P →
    -1 ≤ (upTo q L s0 i).1 ∧ (wlLine g lv L ws0 i).2 = decide (0 ≤ (upTo q L s0 i).1) ∧
    (wlLine g lv L ws0 i).1.map encW = pre ++ ((upTo q L s0 i).2 ++ pendW L (upTo q L s0 i).1 i).map (kk lv :: ·)
  | 0, _ => by
    refine ⟨by simp [upTo], by simp [wlLine_zero, upTo], ?_⟩
    rw [wlLine_zero]
    simpa [upTo, pendW] using h0
  | i + 1, hi => by
    obtain ⟨h1, h2, h3⟩ := wlLine_enc hd h0 i (by omega)
    have hdi := hd i (by omega)
    rw [wlLine_succ]
    unfold upTo upStep
    rw [hdi]
    generalize wlLine g lv L ws0 i = s at h2 h3 ⊢
    obtain ⟨ws, op⟩ := s
    generalize upTo q L s0 i = u at h1 h2 h3 ⊢
    obtain ⟨f, l⟩ := u
    simp only at h1 h2 h3 ⊢
    cases hw : wallB q L i with
    | false =>
      simp only [wlStep, Bool.false_and, Bool.false_eq_true, if_false, Bool.not_false, Bool.true_and, decide_eq_true_eq]
      by_cases hf : 0 ≤ f
      · rw [if_pos hf]
        refine ⟨by simp, by simp, ?_⟩
        rw [h3]
        simp [pendW, hf]
      · rw [if_neg hf]
        refine ⟨h1, by simp [hf], ?_⟩
        rw [h3]
        simp [pendW, hf]
    | true =>
      simp only [wlStep, Bool.true_and, Bool.not_true, Bool.false_and, Bool.false_eq_true, if_false, if_true, decide_eq_true_eq]
      by_cases hf : 0 ≤ f
      · have hop : op = true := by rw [h2]; simpa using hf
        rw [if_pos hop, if_neg (show ¬ f < 0 by omega)]
        refine ⟨h1, by simp [hf], ?_⟩
        have hne : ws ≠ [] := by
          rintro rfl
          simp [pendW, hf] at h3
        obtain ⟨ws, w, rfl⟩ := last_of hne
        simp only [pendW, hf, if_true, List.map_append, List.map_cons, List.map_nil, ← List.append_assoc] at h3 ⊢
        obtain ⟨e1, e2⟩ := List.append_inj' h3 rfl
        simp only [List.dropLast_concat, List.getLast?_append, List.getLast?_singleton, Option.some_or, Option.map_some, Option.toList_some, List.map_append, List.map_cons, List.map_nil, e1]
        simp only [List.cons.injEq, and_true] at e2
        have e3 : w.level = lv ∧ w.line = L ∧ w.fr = f ∧ w.long = i - f := by
          simp only [encW, List.cons.injEq, and_true] at e2
          refine ⟨?_, e2.2.1, e2.2.2.1, e2.2.2.2⟩
          have := e2.1
          unfold kk at this
          cases hwl : w.level <;> cases hlv : lv <;> simp [hwl, hlv] at this ⊢
        obtain ⟨e4, e5, e6, e7⟩ := e3
        simp only [encW, e4, e5, e6, e7, List.append_cancel_left_eq, List.cons.injEq, true_and, and_true]
        omega
      · have hop : op = false := by rw [h2]; simpa using hf
        rw [if_neg (show ¬ op = true by rw [hop]; exact Bool.false_ne_true), if_pos (show f < 0 by omega)]
        refine ⟨by omega, by simp, ?_⟩
        simp only [pendW, hf, if_false, List.append_nil] at h3
        simp only [pendW, List.map_append, h3, List.map_cons, List.map_nil]
        rw [if_pos (by omega)]
        simp [encW]
        omega
theorem wlLine_all {g : List (List Int)} {q : List Txt} {lv : Bool} {L : Nat} (hd : ∀ j, j < q.length → difG g lv L j = wallB q L j) {ws0 : List Wall} {pre s0 : List (List Int)} (h0 : ws0.map encW = pre ++ s0.map (kk lv :: ·)) :
    (wlLine g lv L ws0 q.length).1.map encW = pre ++ (upTo q L s0 (q.length + 1)).2.map (kk lv :: ·) := by
  obtain ⟨h1, -, h3⟩ := wlLine_enc hd h0 q.length (Nat.le_refl _)
  rw [h3]
  congr 2
  have e : upTo q L s0 (q.length + 1) = upStep (wallB q L q.length) L q.length (upTo q L s0 q.length) := rfl
  rw [e, wallB_end]
  clear e h3 h1
  generalize upTo q L s0 q.length = u
  obtain ⟨f, l⟩ := u
  unfold upStep
  simp only [Bool.false_and, Bool.false_eq_true, if_false, Bool.not_false, Bool.true_and, decide_eq_true_eq, pendW]
  split <;> simp
theorem wlLevel_enc {g : List (List Int)} {q : List Txt} {lv : Bool} {n : Nat} (hd : ∀ L j, 1 ≤ L → L < n → j < q.length → difG g lv L j = wallB q L j) {ws0 : List Wall} : ∀ i, i ≤ n →
    (wlLevel g lv q.length ws0 i).map encW = ws0.map encW ++ (upsTo q i).map (kk lv :: ·)
  | 0, _ => by simp [wlLevel, upsTo]
  | i + 1, hi => by
    have ih := wlLevel_enc hd (ws0 := ws0) i (by omega)
    by_cases h1 : 1 ≤ i
    · rw [wlLevel_succ h1, upsTo_succ h1]
      exact wlLine_all (fun j hj => hd i j h1 (by omega) hj) ih
    · obtain rfl : i = 0 := by omega
      simpa [wlLevel, upsTo] using ih
theorem wallsG_enc {g : List (List Int)} {p : List Txt} (hg : gridB p = true) (hz : ∀ i j, i < p.length → j < (hdRow p).length → gz g i j = cellZ p i j) : (wallsG g p.length (hdRow p).length).map encW = walls p := by
  have hsm := grid_small hg
  obtain ⟨row0, hrow0, hrm0⟩ := get_of hsm.1
  have hhd := hdRow_of hrow0
  have hw1 := row_pos hg hrow0
  have htl := trans_len (p := p)
  have hth := trans_hd (p := p) (by rw [hhd]; omega)
  have d0 : ∀ L j, 1 ≤ L → L < (hdRow p).length → j < p.length → difG g false L j = wallB p L j := by
    intro L j h1 h2 h3
    unfold difG sidesG wallB
    simp only [Bool.false_eq_true, if_false]
    rw [hz j (L - 1) h3 (by omega), hz j L h3 h2]
    simp [h3]
  have d1 : ∀ L j, 1 ≤ L → L < p.length → j < (transP p).length → difG g true L j = wallB (transP p) L j := by
    intro L j h1 h2 h3
    have h3' := h3
    rw [htl] at h3'
    unfold difG sidesG wallB
    simp only [if_true]
    rw [hz (L - 1) j (by omega) h3', hz L j h2 h3', cellZ_trans (by omega) h3', cellZ_trans h2 h3']
    simp [h3]
  unfold wallsG
  have e1 := wlLevel_enc (lv := true) d1 (ws0 := wlLevel g false p.length [] (hdRow p).length) p.length (Nat.le_refl _)
  have e0 := wlLevel_enc (lv := false) d0 (ws0 := []) (hdRow p).length (Nat.le_refl _)
  rw [htl] at e1
  rw [e1, e0]
  unfold walls uprights
  rw [hth]
  simp [kk]
end Fw
end Go.Proofs.YtcglmbijpjhbmaaGreat

/-! The program's direct orders are the specification's. -/
namespace Go.Proofs.YtcglmbijpjhbmaaGreat
namespace Fw
open Go

theorem Same.orBit {n : Nat} {M : List (List Bool)} {ms : List Nat} (h : Same n M ms) {a b : Nat} (ha : a < n) (hb : b < n) : Same n (setB M a b true) (orBit ms a b) := by
  obtain ⟨h1, h2, h3⟩ := h
  obtain ⟨m, hm, -⟩ := get_of (show a < ms.length by omega)
  rw [orBit_is hm]
  refine ⟨h1.set ha, by simp [h2], fun x y hx hy => ?_⟩
  rw [getB_setB h1 ha hb, bitOf_set (by omega)]
  by_cases hxa : x = a
  · subst hxa
    rw [if_pos rfl, Nat.testBit_or, Nat.testBit_two_pow, h3 x y hx hy, bitOf_is hm]
    by_cases hyb : y = b
    · subst hyb; simp
    · rw [if_neg (fun h => hyb h.2), decide_eq_false (fun h => hyb h.symm), Bool.or_false]
  · rw [if_neg (fun h => hxa h.1), if_neg hxa, h3 x y hx hy]
def Rm (n : Nat) (l : List Int) : Prop := ∀ x ∈ l, 0 ≤ x ∧ x < n
theorem Same.relB {n : Nat} {a : Int} (ha : 0 ≤ a ∧ a < n) : ∀ {bs : List Int} {M : List (List Bool)} {ms : List Nat}, Rm n bs → Same n M ms → Same n (relB a bs M) (justB a.toNat ms bs)
  | [], _, _, _, h => h
  | b :: bs, M, ms, hb, h => by
    have hb0 := hb b (by simp)
    exact Same.relB ha (bs := bs) (fun x hx => hb x (by simp [hx])) (h.orBit (by omega) (by omega))
theorem Same.relW {n : Nat} {bs : List Int} (hb : Rm n bs) : ∀ {la : List Int} {M : List (List Bool)} {ms : List Nat}, Rm n la → Same n M ms → Same n (relW M la bs) (justA bs ms la)
  | [], _, _, _, h => h
  | a :: la, M, ms, ha, h => Same.relW hb (la := la) (fun x hx => ha x (by simp [hx])) (h.relB (ha a (by simp)) hb)

theorem ddp_snoc {l : List Int} {x : Int} : ddp (l ++ [x]) = putL (ddp l) x := by simp [ddp, List.foldl_append]
theorem sides_eq {g : List (List Int)} {p : List Txt} {lv : Bool} {L fr : Nat} : ∀ n, (∀ j, fr ≤ j → j < fr + n → sidesG g lv L j = if lv then (cellZ p (L - 1) j, cellZ p L j) else (cellZ p j (L - 1), cellZ p j L)) →
    (ddp (alongG g lv L fr n).1, ddp (alongG g lv L fr n).2) = sidesTo p (kk lv).toNat L fr n
  | 0, _ => by simp [alongG, ddp, sidesTo]
  | n + 1, h => by
    have ih := sides_eq n fun j a b => h j a (by omega)
    have hx := h (fr + n) (by omega) (by omega)
    rw [alongG_succ1, alongG_succ2, ddp_snoc, ddp_snoc, hx]
    unfold sidesTo
    rw [← ih]
    cases lv <;> simp [kk]
theorem sidesOf_eq {g : List (List Int)} {p : List Txt} (hz : ∀ i j, i < p.length → j < (hdRow p).length → gz g i j = cellZ p i j) {w : Wall} (hw : WlOk g p.length (hdRow p).length w) : sidesOf g w = sidesW p (encW w) := by
  obtain ⟨line, fr, long, he, hl, hin⟩ := hw
  obtain ⟨lv, wl, wf, wg⟩ := w
  simp only [Wall.mk.injEq, true_and] at he hin
  obtain ⟨rfl, rfl, rfl⟩ := he
  unfold sidesOf sidesW encW
  simp only [Int.toNat_natCast]
  refine sides_eq long fun j a b => ?_
  obtain ⟨⟨h1, h2⟩, -⟩ := hin j a b
  unfold sidesG
  cases lv with
  | false =>
    simp only [Bool.false_eq_true, if_false] at h2 ⊢
    rw [hz j (line - 1) h2.2 (by omega), hz j line h2.2 h2.1]
  | true =>
    simp only [if_true] at h2 ⊢
    rw [hz (line - 1) j (by omega) h2.2, hz line j h2.1 h2.2]
theorem Same.empty {n : Nat} : Same n (emptyM n) (List.replicate n 0) := by
  refine ⟨emptyM_sq n, by simp, fun a b ha hb => ?_⟩
  simp [getB, emptyM, bitOf, ha, hb]
theorem same_ord {g : List (List Int)} {p : List Txt} {n : Nat} (hz : ∀ i j, i < p.length → j < (hdRow p).length → gz g i j = cellZ p i j) (hrm : RmOk g p.length (hdRow p).length n) : ∀ (ws : List Wall), (∀ w ∈ ws, WlOk g p.length (hdRow p).length w) →
    ∀ {M : List (List Bool) × List (List Bool)} {m0 m1 : List Nat}, Same n M.1 m0 → Same n M.2 m1 → Same n (ws.foldl (ordW g) M).1 ((ws.map encW).foldl (justW p 0) m0) ∧ Same n (ws.foldl (ordW g) M).2 ((ws.map encW).foldl (justW p 1) m1)
  | [], _, _, _, _, h0, h1 => ⟨h0, h1⟩
  | w :: ws, hws, M, m0, m1, h0, h1 => by
    have hw := hws w (by simp)
    obtain ⟨hr1, hr2⟩ := sidesOf_rooms hrm hw
    rw [sidesOf_eq hz hw] at hr1 hr2
    rw [List.foldl_cons, List.map_cons, List.foldl_cons, List.foldl_cons]
    refine same_ord hz hrm ws (fun w hw => hws w (by simp [hw])) ?_ ?_
    · unfold ordW justW
      rw [sidesOf_eq hz hw]
      cases hlv : w.level with
      | false => simpa [encW, kk, hlv] using h0.relW hr2 hr1
      | true => simpa [encW, kk, hlv] using h0
    · unfold ordW justW
      rw [sidesOf_eq hz hw]
      cases hlv : w.level with
      | false => simpa [encW, kk, hlv] using h1
      | true => simpa [encW, kk, hlv] using h1.relW hr2 hr1
theorem same_all {g : List (List Int)} {p : List Txt} {n : Nat} (hg : gridB p = true) (hn : (l1Rooms p).toNat = n) (hz : ∀ i j, i < p.length → j < (hdRow p).length → gz g i j = cellZ p i j) (hrm : RmOk g p.length (hdRow p).length n) :
    Same n (leftG g p.length (hdRow p).length n) (allS p 0) ∧ Same n (aboveG g p.length (hdRow p).length n) (allS p 1) := by
  obtain ⟨h0, h1⟩ := same_ord hz hrm (wallsG g p.length (hdRow p).length) wallsG_ok (M := (emptyM n, emptyM n)) Same.empty Same.empty
  rw [wallsG_enc hg hz] at h0 h1
  have e : List.replicate n 0 = List.replicate (l1Rooms p).toNat 0 := by rw [hn]
  rw [e] at h0 h1
  exact ⟨h0.close, h1.close⟩
end Fw
end Go.Proofs.YtcglmbijpjhbmaaGreat

/-! Sums and counts of cells. -/
namespace Go.Proofs.YtcglmbijpjhbmaaGreat
namespace Fw
open Go

def sN : Nat → (Nat → Nat) → Nat
  | 0, _ => 0
  | n + 1, f => sN n f + f n
theorem sN_congr {f g : Nat → Nat} : ∀ {n : Nat}, (∀ i, i < n → f i = g i) → sN n f = sN n g
  | 0, _ => rfl
  | n + 1, h => by rw [sN, sN, sN_congr (n := n) fun i hi => h i (by omega), h n (by omega)]
theorem sN_le {f g : Nat → Nat} : ∀ {n : Nat}, (∀ i, i < n → f i ≤ g i) → sN n f ≤ sN n g
  | 0, _ => Nat.le_refl _
  | n + 1, h => by
    have := sN_le (n := n) fun i hi => h i (by omega)
    have := h n (by omega)
    simp only [sN]; omega
theorem sN_eq {f g : Nat → Nat} : ∀ {n : Nat}, (∀ i, i < n → f i ≤ g i) → sN n f = sN n g → ∀ i, i < n → f i = g i
  | 0, _, _, i, hi => by omega
  | n + 1, h, e, i, hi => by
    have h1 := sN_le (n := n) fun i hi => h i (by omega)
    have h2 := h n (by omega)
    simp only [sN] at e
    by_cases hin : i = n
    · subst hin; omega
    · exact sN_eq (n := n) (fun i hi => h i (by omega)) (by omega) i (by omega)
theorem sN_zero : ∀ n, sN n (fun _ => 0) = 0
  | 0 => rfl
  | n + 1 => by rw [sN, sN_zero n]
theorem sN_one : ∀ n, sN n (fun _ => 1) = n
  | 0 => rfl
  | n + 1 => by rw [sN, sN_one n]
theorem sN_const (c : Nat) : ∀ n, sN n (fun _ => c) = n * c
  | 0 => by simp [sN]
  | n + 1 => by rw [sN, sN_const c n, Nat.succ_mul]
theorem sN_add {f g : Nat → Nat} : ∀ n, sN n (fun i => f i + g i) = sN n f + sN n g
  | 0 => rfl
  | n + 1 => by rw [sN, sN, sN, sN_add n]; omega
theorem sN_swap {f : Nat → Nat → Nat} {m : Nat} : ∀ n, sN n (fun i => sN m (fun j => f i j)) = sN m (fun j => sN n (fun i => f i j))
  | 0 => by simp only [sN]; rw [sN_zero]
  | n + 1 => by
    simp only [sN]
    rw [sN_swap n, sN_add]
theorem sN_mul {f : Nat → Nat} {c : Nat} : ∀ n, sN n (fun i => f i * c) = sN n f * c
  | 0 => by simp [sN]
  | n + 1 => by rw [sN, sN, sN_mul n, Nat.add_mul]
def b1 (b : Bool) : Nat := if b then 1 else 0
/-- How many cells hold. -/
def cnt (H W : Nat) (f : Nat → Nat → Bool) : Nat := sN H fun i => sN W fun j => b1 (f i j)
theorem b1_le {a b : Bool} (h : a = true → b = true) : b1 a ≤ b1 b := by
  cases a with
  | false => simp [b1]
  | true => rw [h rfl]; exact Nat.le_refl _
theorem b1_inj {a b : Bool} (h : b1 a = b1 b) : a = b := by cases a <;> cases b <;> simp [b1] at h ⊢
theorem cnt_le {H W : Nat} {f g : Nat → Nat → Bool} (h : ∀ i j, i < H → j < W → f i j = true → g i j = true) : cnt H W f ≤ cnt H W g :=
  sN_le fun i hi => sN_le fun j hj => b1_le (h i j hi hj)
theorem cnt_eq {H W : Nat} {f g : Nat → Nat → Bool} (h : ∀ i j, i < H → j < W → f i j = true → g i j = true) (e : cnt H W f = cnt H W g) : ∀ i j, i < H → j < W → f i j = g i j := by
  intro i j hi hj
  have h1 := sN_eq (n := H) (fun i hi => sN_le fun j hj => b1_le (h i j hi hj)) e i hi
  exact b1_inj (sN_eq (n := W) (fun j hj => b1_le (h i j hi hj)) h1 j hj)
theorem cnt_congr {H W : Nat} {f g : Nat → Nat → Bool} (h : ∀ i j, i < H → j < W → f i j = g i j) : cnt H W f = cnt H W g :=
  sN_congr fun i hi => sN_congr fun j hj => by rw [h i j hi hj]
/-- Numbers from a on, k of them. -/
theorem sN_seg {a k : Nat} : ∀ {n : Nat}, a + k ≤ n → sN n (fun i => b1 (decide (a ≤ i) && decide (i < a + k))) = k
  | 0, h => by simp [sN]; omega
  | n + 1, h => by
    rw [sN]
    by_cases hn : a + k ≤ n
    · rw [sN_seg hn, decide_eq_false (p := n < a + k) (by omega), Bool.and_false]; rfl
    · have hnk : n + 1 = a + k := by omega
      cases k with
      | zero =>
        have : sN n (fun i => b1 (decide (a ≤ i) && decide (i < a + 0))) = sN n (fun _ => 0) := sN_congr fun i hi => by
          rw [decide_eq_false (p := a ≤ i) (by omega)]; rfl
        rw [this, sN_zero, decide_eq_false (p := a ≤ n) (by omega)]; rfl
      | succ k =>
        have e : sN n (fun i => b1 (decide (a ≤ i) && decide (i < a + (k + 1)))) = sN n (fun i => b1 (decide (a ≤ i) && decide (i < a + k))) := sN_congr fun i hi => by
          congr 2
          apply decide_eq_decide.2; omega
        rw [e, sN_seg (k := k) (by omega), decide_eq_true (p := a ≤ n) (by omega), decide_eq_true (p := n < a + (k + 1)) (by omega)]
        rfl
/-- A rectangle: h rows from t on, w columns from l on. -/
def inR (t l h w i j : Nat) : Bool := (decide (t ≤ i) && decide (i < t + h)) && (decide (l ≤ j) && decide (j < l + w))
theorem b1_and {a b : Bool} : b1 (a && b) = b1 a * b1 b := by cases a <;> cases b <;> rfl
theorem cnt_rect {H W t l h w : Nat} (h1 : t + h ≤ H) (h2 : l + w ≤ W) : cnt H W (inR t l h w) = h * w := by
  unfold cnt inR
  have e : (fun i => sN W fun j => b1 ((decide (t ≤ i) && decide (i < t + h)) && (decide (l ≤ j) && decide (j < l + w)))) = fun i => b1 (decide (t ≤ i) && decide (i < t + h)) * w := by
    funext i
    have : (fun j => b1 ((decide (t ≤ i) && decide (i < t + h)) && (decide (l ≤ j) && decide (j < l + w)))) = fun j => b1 (decide (l ≤ j) && decide (j < l + w)) * b1 (decide (t ≤ i) && decide (i < t + h)) := by
      funext j; rw [b1_and, Nat.mul_comm]
    rw [this, sN_mul, sN_seg h2, Nat.mul_comm]
  rw [e, sN_mul, sN_seg h1]
/-- Each cell is in one of n classes. -/
theorem cnt_classes {H W n : Nat} {z : Nat → Nat → Nat} (hz : ∀ i j, i < H → j < W → z i j < n) : sN n (fun r => cnt H W fun i j => decide (z i j = r)) = H * W := by
  unfold cnt
  rw [sN_swap]
  have : sN H (fun i => sN n fun r => sN W fun j => b1 (decide (z i j = r))) = sN H (fun _ => W) := sN_congr fun i hi => by
    rw [sN_swap]
    have : sN W (fun j => sN n fun r => b1 (decide (z i j = r))) = sN W (fun _ => 1) := sN_congr fun j hj => by
      have h1 := hz i j hi hj
      have e : sN n (fun r => b1 (decide (z i j = r))) = sN n (fun r => b1 (decide (z i j ≤ r) && decide (r < z i j + 1))) := sN_congr fun r hr => by
        congr 1
        rw [Bool.eq_iff_iff]
        simp only [Bool.and_eq_true, decide_eq_true_eq]
        omega
      rw [e, sN_seg (by omega)]
    rw [this, sN_one]
  rw [this, sN_const]
end Fw
end Go.Proofs.YtcglmbijpjhbmaaGreat

/-! The least rectangle around cells, by the program. -/
namespace Go.Proofs.YtcglmbijpjhbmaaGreat
namespace Fw
open Go

/-- The least rectangle around the cells of pr. -/
structure Hull (pr : Nat → Nat → Prop) (t l lo ri : Int) : Prop where
  inn : ∀ a b, pr a b → t ≤ a ∧ (a : Int) ≤ lo ∧ l ≤ b ∧ (b : Int) ≤ ri
  at_ : ∃ a b : Nat, pr a b ∧ (a : Int) = t
  al : ∃ a b : Nat, pr a b ∧ (b : Int) = l
  ao : ∃ a b : Nat, pr a b ∧ (a : Int) = lo
  ar : ∃ a b : Nat, pr a b ∧ (b : Int) = ri
theorem Hull.uniq {pr : Nat → Nat → Prop} {t l lo ri t' l' lo' ri' : Int} (h : Hull pr t l lo ri) (k : Hull pr t' l' lo' ri') : t = t' ∧ l = l' ∧ lo = lo' ∧ ri = ri' := by
  obtain ⟨a1, b1, p1, e1⟩ := h.at_
  obtain ⟨a2, b2, p2, e2⟩ := h.al
  obtain ⟨a3, b3, p3, e3⟩ := h.ao
  obtain ⟨a4, b4, p4, e4⟩ := h.ar
  obtain ⟨a5, b5, p5, e5⟩ := k.at_
  obtain ⟨a6, b6, p6, e6⟩ := k.al
  obtain ⟨a7, b7, p7, e7⟩ := k.ao
  obtain ⟨a8, b8, p8, e8⟩ := k.ar
  have q1 := k.inn _ _ p1
  have q2 := k.inn _ _ p2
  have q3 := k.inn _ _ p3
  have q4 := k.inn _ _ p4
  have q5 := h.inn _ _ p5
  have q6 := h.inn _ _ p6
  have q7 := h.inn _ _ p7
  have q8 := h.inn _ _ p8
  omega
theorem Hull.congr {pr pr' : Nat → Nat → Prop} {t l lo ri : Int} (h : Hull pr t l lo ri) (e : ∀ a b, pr a b ↔ pr' a b) : Hull pr' t l lo ri := by
  have : pr = pr' := by funext a b; exact propext (e a b)
  exact this ▸ h
theorem Hull.add {pr : Nat → Nat → Prop} {t l lo ri : Int} (h : Hull pr t l lo ri) (i j : Nat) : Hull (fun a b => pr a b ∨ (a = i ∧ b = j)) (min t i) (min l j) (max lo i) (max ri j) := by
  refine ⟨?_, ?_, ?_, ?_, ?_⟩
  · rintro a b (p | ⟨rfl, rfl⟩)
    · have := h.inn a b p; omega
    · omega
  · by_cases e : t ≤ i
    · obtain ⟨a, b, p, q⟩ := h.at_; exact ⟨a, b, .inl p, by omega⟩
    · exact ⟨i, j, .inr ⟨rfl, rfl⟩, by omega⟩
  · by_cases e : l ≤ j
    · obtain ⟨a, b, p, q⟩ := h.al; exact ⟨a, b, .inl p, by omega⟩
    · exact ⟨i, j, .inr ⟨rfl, rfl⟩, by omega⟩
  · by_cases e : (i : Int) ≤ lo
    · obtain ⟨a, b, p, q⟩ := h.ao; exact ⟨a, b, .inl p, by omega⟩
    · exact ⟨i, j, .inr ⟨rfl, rfl⟩, by omega⟩
  · by_cases e : (j : Int) ≤ ri
    · obtain ⟨a, b, p, q⟩ := h.ar; exact ⟨a, b, .inl p, by omega⟩
    · exact ⟨i, j, .inr ⟨rfl, rfl⟩, by omega⟩
theorem Hull.one {pr : Nat → Nat → Prop} (h : ∀ a b, ¬ pr a b) (i j : Nat) : Hull (fun a b => pr a b ∨ (a = i ∧ b = j)) i j i j := by
  refine ⟨?_, ⟨i, j, .inr ⟨rfl, rfl⟩, rfl⟩, ⟨i, j, .inr ⟨rfl, rfl⟩, rfl⟩, ⟨i, j, .inr ⟨rfl, rfl⟩, rfl⟩, ⟨i, j, .inr ⟨rfl, rfl⟩, rfl⟩⟩
  rintro a b (p | ⟨rfl, rfl⟩)
  · exact absurd p (h a b)
  · omega
/-- Cells that are gone through: rows ahead of i, and of row i the first j. -/
def Gone (W i j a b : Nat) : Prop := b < W ∧ (a < i ∨ (a = i ∧ b < j))
theorem gone_succ {W i j a b : Nat} (hj : j < W) : Gone W i (j + 1) a b ↔ Gone W i j a b ∨ (a = i ∧ b = j) := by unfold Gone; omega
theorem gone_row {W i a b : Nat} : Gone W i W a b ↔ Gone W (i + 1) 0 a b := by unfold Gone; omega
/-- Cells of a value that are gone through. -/
def Val (z : Nat → Nat → Int) (W i j : Nat) (v : Int) (a b : Nat) : Prop := z a b = v ∧ Gone W i j a b
theorem val_hit {z : Nat → Nat → Int} {W i j : Nat} {v : Int} (hj : j < W) (h : z i j = v) (a b : Nat) : (Val z W i j v a b ∨ (a = i ∧ b = j)) ↔ Val z W i (j + 1) v a b := by
  unfold Val
  rw [gone_succ hj]
  constructor
  · rintro (⟨h1, h2⟩ | ⟨rfl, rfl⟩)
    · exact ⟨h1, .inl h2⟩
    · exact ⟨h, .inr ⟨rfl, rfl⟩⟩
  · rintro ⟨h1, h2 | h2⟩
    · exact .inl ⟨h1, h2⟩
    · exact .inr h2
theorem val_miss {z : Nat → Nat → Int} {W i j : Nat} {v : Int} (hj : j < W) (h : z i j ≠ v) (a b : Nat) : Val z W i j v a b ↔ Val z W i (j + 1) v a b := by
  unfold Val
  rw [gone_succ hj]
  constructor
  · rintro ⟨h1, h2⟩; exact ⟨h1, .inl h2⟩
  · rintro ⟨h1, h2 | ⟨rfl, rfl⟩⟩
    · exact ⟨h1, h2⟩
    · exact absurd h1 h
theorem val_row {z : Nat → Nat → Int} {W i : Nat} {v : Int} (a b : Nat) : Val z W i W v a b ↔ Val z W (i + 1) 0 v a b := by unfold Val; rw [gone_row]

def HullR (pr : Nat → Nat → Prop) (b : Rect) : Prop := Hull pr b.row b.col (b.row + b.high - 1) (b.col + b.wide - 1)
theorem HullR.both {pr : Nat → Nat → Prop} {b : Rect} (h : HullR pr b) (i j : Nat) : HullR (fun a c => pr a c ∨ (a = i ∧ c = j)) (b.both (oneR i j)) := by
  have := Hull.add h i j
  unfold HullR Rect.both oneR
  simp only
  rw [show min b.row (i : Int) + (max (b.row + b.high) ((i : Int) + 1) - min b.row (i : Int)) - 1 = max (b.row + b.high - 1) i by omega, show min b.col (j : Int) + (max (b.col + b.wide) ((j : Int) + 1) - min b.col (j : Int)) - 1 = max (b.col + b.wide - 1) j by omega]
  exact this
theorem one_both {i j : Nat} : (oneR i j).both (oneR i j) = oneR i j := by
  unfold Rect.both oneR
  simp only [Rect.mk.injEq]
  omega
theorem HullR.one {pr : Nat → Nat → Prop} (h : ∀ a b, ¬ pr a b) (i j : Nat) : HullR (fun a b => pr a b ∨ (a = i ∧ b = j)) (oneR i j) := by
  have := Hull.one h i j
  unfold HullR oneR
  simp only
  rw [show (i : Int) + 1 - 1 = i by omega, show (j : Int) + 1 - 1 = j by omega]
  exact this
theorem HullR.congr {pr pr' : Nat → Nat → Prop} {b : Rect} (h : HullR pr b) (e : ∀ a c, pr a c ↔ pr' a c) : HullR pr' b := Hull.congr h e

/-- Keys and rectangles while cells are gone through. -/
structure SeInv (z : Nat → Nat → Int) (W i j : Nat) (ks : List Int) (rs : List Rect) : Prop where
  nd : ks.Nodup
  len : rs.length = ks.length
  mem : ∀ a b, Gone W i j a b → z a b ∈ ks
  hull : ∀ (m : Nat) v b, ks[m]? = some v → rs[m]? = some b → HullR (Val z W i j v) b
theorem nodup_one {l : List Int} (h : l.Nodup) {a b : Nat} {v : Int} (ha : l[a]? = some v) (hb : l[b]? = some v) : a = b := by
  obtain ⟨p1, q1⟩ := List.getElem?_eq_some_iff.1 ha
  obtain ⟨p2, q2⟩ := List.getElem?_eq_some_iff.1 hb
  have := List.pairwise_iff_getElem.1 h
  rcases Nat.lt_trichotomy a b with hlt | heq | hgt
  · exact absurd (q1.trans q2.symm) (this a b p1 p2 hlt)
  · exact heq
  · exact absurd (q2.trans q1.symm) (this b a p2 p1 hgt)
theorem idxOf_mem {ks : List Int} {z : Int} (h : ¬ ks.idxOf z = ks.length) : ks[ks.idxOf z]? = some z := by
  have hl := idxOf_le (ks := ks) (z := z)
  have : z ∈ ks := by rw [← List.idxOf_lt_length_iff]; omega
  rw [List.getElem?_eq_getElem (List.idxOf_lt_length_iff.2 this), List.getElem_idxOf]
theorem idxOf_not {ks : List Int} {z : Int} (h : ks.idxOf z = ks.length) : z ∉ ks := by
  intro hm
  have := List.idxOf_lt_length_iff.2 hm
  omega
theorem SeInv.step {z : Nat → Nat → Int} {W i j : Nat} {ks : List Int} {rs : List Rect} (h : SeInv z W i j ks rs) (hj : j < W) : SeInv z W i (j + 1) (seKs ks (z i j)) (seRs ks rs (z i j) (oneR i j)) := by
  have hlen := h.len
  by_cases hin : ks.idxOf (z i j) = ks.length
  · have hnm := idxOf_not hin
    have e1 : seKs ks (z i j) = ks ++ [z i j] := by simp [seKs, hin]
    have e2 : seRs ks rs (z i j) (oneR i j) = rs ++ [oneR i j] := by
      unfold seRs seIn
      rw [if_pos hin, hin, ← hlen, List.getD_eq_getElem?_getD]
      simp [one_both]
    rw [e1, e2]
    refine ⟨?_, by simp [hlen], ?_, ?_⟩
    · rw [List.nodup_append]
      refine ⟨h.nd, by simp, ?_⟩
      intro a ha b hb
      rw [List.mem_singleton] at hb
      rintro rfl
      exact hnm (hb ▸ ha)
    · intro a b hab
      rw [gone_succ hj] at hab
      rcases hab with hab | ⟨rfl, rfl⟩
      · exact List.mem_append_left _ (h.mem a b hab)
      · simp
    · intro m v b hm hb
      by_cases hml : m < ks.length
      · rw [List.getElem?_append_left hml] at hm
        rw [List.getElem?_append_left (by omega)] at hb
        have hv : z i j ≠ v := fun e => hnm (e ▸ List.mem_of_getElem? hm)
        exact (h.hull m v b hm hb).congr (val_miss hj hv)
      · have hml2 := len_of hm
        simp only [List.length_append, List.length_singleton] at hml2
        obtain rfl : m = ks.length := by omega
        rw [List.getElem?_append_right (Nat.le_refl _), Nat.sub_self] at hm
        rw [← hlen, List.getElem?_append_right (Nat.le_refl _), Nat.sub_self] at hb
        simp only [List.getElem?_cons_zero, Option.some.injEq] at hm hb
        subst hm hb
        exact (HullR.one (pr := Val z W i j (z i j)) (fun a b hab => hnm (hab.1 ▸ h.mem a b hab.2)) i j).congr (val_hit hj rfl)
  · have hk := idxOf_mem hin
    have hkl := len_of hk
    have e1 : seKs ks (z i j) = ks := by simp [seKs, hin]
    obtain ⟨b0, hb0, -⟩ := get_of (show ks.idxOf (z i j) < rs.length by omega)
    have e2 : seRs ks rs (z i j) (oneR i j) = rs.set (ks.idxOf (z i j)) (b0.both (oneR i j)) := by
      unfold seRs seIn
      rw [if_neg hin, List.getD_eq_getElem?_getD, hb0]; rfl
    rw [e1, e2]
    refine ⟨h.nd, by simp [hlen], ?_, ?_⟩
    · intro a b hab
      rw [gone_succ hj] at hab
      rcases hab with hab | ⟨rfl, rfl⟩
      · exact h.mem a b hab
      · exact List.mem_of_getElem? hk
    · intro m v b hm hb
      rw [List.getElem?_set] at hb
      by_cases e : ks.idxOf (z i j) = m
      · subst e
        rw [if_pos rfl, if_pos (by omega)] at hb
        cases hb
        rw [hk] at hm
        cases hm
        exact ((h.hull _ _ _ hk hb0).both i j).congr (val_hit hj rfl)
      · rw [if_neg e] at hb
        have hv : z i j ≠ v := by
          rintro rfl
          exact e (nodup_one h.nd hk hm)
        exact (h.hull m v b hm hb).congr (val_miss hj hv)
theorem SeInv.nil {z : Nat → Nat → Int} {W : Nat} : SeInv z W 0 0 [] [] := by
  refine ⟨by simp, rfl, ?_, by simp⟩
  intro a b h
  unfold Gone at h; omega
theorem SeInv.row {g : List (List Int)} {W i : Nat} {s : List Int × List Rect} (h : SeInv (gz g) W i 0 s.1 s.2) : ∀ j, j ≤ W → SeInv (gz g) W i j (seRow g i s j).1 (seRow g i s j).2
  | 0, _ => h
  | j + 1, hj => (SeInv.row h j (by omega)).step (by omega)
theorem SeInv.rows {g : List (List Int)} {W : Nat} : ∀ i, SeInv (gz g) W i 0 (seRows g W i).1 (seRows g W i).2
  | 0 => SeInv.nil
  | i + 1 => by
    have h := (SeInv.rows (g := g) (W := W) i).row W (Nat.le_refl _)
    refine ⟨h.nd, h.len, fun a b hab => h.mem a b (gone_row.2 hab), fun m v b hm hb => (h.hull m v b hm hb).congr (fun a c => val_row a c)⟩
/-- The numbers of cells are places among the keys. -/
theorem seRow_pre {g : List (List Int)} {i : Nat} {s : List Int × List Rect} : ∀ {j k : Nat}, j ≤ k → ∃ r, (seRow g i s k).1 = (seRow g i s j).1 ++ r
  | j, 0, h => by
    have hj : j = 0 := by omega
    subst hj; exact ⟨[], by simp⟩
  | j, k + 1, h => by
    by_cases e : j = k + 1
    · subst e; exact ⟨[], by simp⟩
    · obtain ⟨r, hr⟩ := seRow_pre (g := g) (i := i) (s := s) (show j ≤ k by omega)
      simp only [seRow, seKs]
      split
      · exact ⟨r ++ [gz g i k], by rw [hr, List.append_assoc]⟩
      · exact ⟨r, hr⟩
theorem seRows_pre {g : List (List Int)} {W : Nat} : ∀ {i k : Nat}, i ≤ k → ∃ r, (seRows g W k).1 = (seRows g W i).1 ++ r
  | i, 0, h => by
    have hi : i = 0 := by omega
    subst hi; exact ⟨[], by simp⟩
  | i, k + 1, h => by
    by_cases e : i = k + 1
    · subst e; exact ⟨[], by simp⟩
    · obtain ⟨r, hr⟩ := seRows_pre (g := g) (W := W) (show i ≤ k by omega)
      obtain ⟨r2, hr2⟩ := seRow_pre (g := g) (i := k) (s := seRows g W k) (Nat.zero_le W)
      simp only [seRows]
      refine ⟨r ++ r2, ?_⟩
      rw [hr2, ← List.append_assoc, ← hr]; rfl
theorem idxOf_app {l r : List Int} {x : Int} (h : ¬ l.idxOf x = l.length) : (l ++ r).idxOf x = l.idxOf x := by
  have hl := idxOf_le (ks := l) (z := x)
  have hm : x ∈ l := by rw [← List.idxOf_lt_length_iff]; omega
  rw [List.idxOf_append, if_pos hm]
theorem idxOf_new {l r : List Int} {x : Int} (h : l.idxOf x = l.length) : (l ++ [x] ++ r).idxOf x = l.length := by
  have hm : x ∉ l := idxOf_not h
  rw [List.append_assoc, List.idxOf_append, if_neg hm]
  simp
theorem zNum {g : List (List Int)} {W nh i j : Nat} (hi : i < nh) (hj : j < W) : ((seRow g i (seRows g W i) j).1.idxOf (gz g i j)) = (seRows g W nh).1.idxOf (gz g i j) := by
  obtain ⟨r, hr⟩ := seRows_pre (g := g) (W := W) (show i + 1 ≤ nh by omega)
  obtain ⟨r2, hr2⟩ := seRow_pre (g := g) (i := i) (s := seRows g W i) (show j + 1 ≤ W by omega)
  have e : (seRows g W nh).1 = seKs (seRow g i (seRows g W i) j).1 (gz g i j) ++ (r2 ++ r) := by
    rw [hr, ← List.append_assoc]
    congr 1
  rw [e]
  generalize (seRow g i (seRows g W i) j).1 = ks
  unfold seKs
  by_cases hin : ks.idxOf (gz g i j) = ks.length
  · rw [if_pos hin, idxOf_new hin, hin]
  · rw [if_neg hin, idxOf_app hin]
end Fw
end Go.Proofs.YtcglmbijpjhbmaaGreat

/-! The least rectangle around a room and its cells, by the specification. -/
namespace Go.Proofs.YtcglmbijpjhbmaaGreat
namespace Fw
open Go

/-- The cells of a room. -/
def inZ (p : List Txt) (r : Int) (i j : Nat) : Bool := decide (cellZ p i j = r)
theorem inRoom_is {p : List Txt} {i k : Nat} {row : Txt} {c : UInt8} {r : Int} (h : p[i]? = some row) (hc : row[k]? = some c) : inRoom r c = inZ p r i k := by
  unfold inRoom inZ; rw [cellZ_is h hc]
theorem cellsRow_cnt {p : List Txt} {i : Nat} {row : Txt} {r : Int} (h : p[i]? = some row) (n : Int) : ∀ k, k ≤ row.length → cellsRow r n (row.take k) = n + sN k fun j => b1 (inZ p r i j)
  | 0, _ => by simp [cellsRow, sN]
  | k + 1, hk => by
    obtain ⟨c, hc, -⟩ := get_of (show k < row.length by omega)
    have ih := cellsRow_cnt (r := r) h n k (by omega)
    unfold cellsRow at ih ⊢
    rw [foldl_tk hc, ih, sN, inRoom_is h hc]
    cases inZ p r i k <;> simp [b1]
    omega
theorem l1Cells_cnt {p : List Txt} {W : Nat} (hW : ∀ row ∈ p, row.length = W) {r : Int} : ∀ i, i ≤ p.length → (p.take i).foldl (cellsRow r) 0 = ((sN i fun i => sN W fun j => b1 (inZ p r i j) : Nat) : Int)
  | 0, _ => by simp [sN]
  | i + 1, hi => by
    obtain ⟨row, hr, hm⟩ := get_of (show i < p.length by omega)
    have ih := l1Cells_cnt hW (r := r) i (by omega)
    have hl := hW row hm
    have := cellsRow_cnt (r := r) hr (((sN i fun i => sN W fun j => b1 (inZ p r i j) : Nat) : Int)) W (by omega)
    rw [List.take_of_length_le (by omega)] at this
    rw [foldl_tk hr, ih, this, sN]
    simp
theorem l1Cells_is {p : List Txt} {W : Nat} (hW : ∀ row ∈ p, row.length = W) {r : Int} : l1Cells p r = ((cnt p.length W (inZ p r) : Nat) : Int) := by
  have := l1Cells_cnt hW (r := r) p.length (Nat.le_refl _)
  rwa [List.take_length] at this
/-- What the specification knows of a room when some cells are gone through. -/
def BoxInv (H W : Nat) (pr : Nat → Nat → Prop) (b : Box) : Prop := ((∀ a c, ¬ pr a c) ∧ b = ⟨H, W, -1, -1⟩) ∨ Hull pr b.top b.left b.low b.right
theorem BoxInv.congr {H W : Nat} {pr pr' : Nat → Nat → Prop} {b : Box} (h : BoxInv H W pr b) (e : ∀ a c, pr a c ↔ pr' a c) : BoxInv H W pr' b := by
  have : pr = pr' := by funext a b; exact propext (e a b)
  exact this ▸ h
theorem BoxInv.add {H W : Nat} {pr : Nat → Nat → Prop} {b : Box} (h : BoxInv H W pr b) {i k : Nat} (hi : i < H) (hk : k < W) : BoxInv H W (fun a c => pr a c ∨ (a = i ∧ c = k)) ⟨min b.top i, min b.left k, max b.low i, max b.right k⟩ := by
  rcases h with ⟨h1, rfl⟩ | h
  · right
    have := Hull.one h1 i k
    simp only
    rw [show min (H : Int) i = i by omega, show min (W : Int) k = k by omega, show max (-1 : Int) i = i by omega, show max (-1 : Int) k = k by omega]
    exact this
  · exact .inr (Hull.add h i k)
theorem rowTo_inv {p : List Txt} {H W i : Nat} {row : Txt} {r : Int} (hr : p[i]? = some row) (hW : row.length = W) (hi : i < H) {b : Box} (h : BoxInv H W (Val (cellZ p) W i 0 r) b) : ∀ k, k ≤ W → BoxInv H W (Val (cellZ p) W i k r) (rowTo r i b row k)
  | 0, _ => by simpa [rowTo] using h
  | k + 1, hk => by
    obtain ⟨c, hc, -⟩ := get_of (show k < row.length by omega)
    have ih := rowTo_inv hr hW hi h k (by omega)
    rw [rowTo_succ hc]
    unfold boxCell
    simp only
    rw [inRoom_is hr hc]
    by_cases e : cellZ p i k = r
    · rw [if_pos (by unfold inZ; exact decide_eq_true e)]
      exact (ih.add hi (by omega)).congr (val_hit (by omega) e)
    · rw [if_neg (by unfold inZ; rw [decide_eq_false e]; exact Bool.false_ne_true)]
      exact ih.congr (val_miss (by omega) e)
theorem boxTo_inv {p : List Txt} {W : Nat} (hW : ∀ row ∈ p, row.length = W) (hh : (hdRow p).length = W) {r : Int} : ∀ i, i ≤ p.length → BoxInv p.length W (Val (cellZ p) W i 0 r) (boxTo p r i)
  | 0, _ => by
    left
    refine ⟨fun a c h => ?_, by simp [boxTo, hh]⟩
    have := h.2
    unfold Gone at this; omega
  | i + 1, hi => by
    obtain ⟨row, hr, hm⟩ := get_of (show i < p.length by omega)
    rw [boxTo_succ hr]
    have := rowTo_inv (r := r) hr (hW row hm) (by omega) (boxTo_inv hW hh i (by omega)) W (Nat.le_refl _)
    rw [hW row hm]
    exact this.congr fun a c => val_row a c
theorem boxOf_inv {p : List Txt} {W : Nat} (hW : ∀ row ∈ p, row.length = W) (hh : (hdRow p).length = W) {r : Int} : BoxInv p.length W (Val (cellZ p) W p.length 0 r) (boxOf p r) := by
  rw [← boxTo_all]; exact boxTo_inv hW hh p.length (Nat.le_refl _)
/-- A rectangle in whole numbers around cells of a grid. -/
theorem Hull.nat {z : Nat → Nat → Int} {H W : Nat} {v : Int} {t l lo ri : Int} (h : Hull (Val z W H 0 v) t l lo ri) : ∃ t' l' h' w' : Nat, t = t' ∧ l = l' ∧ lo = t' + h' - 1 ∧ ri = l' + w' - 1 ∧ 1 ≤ h' ∧ 1 ≤ w' ∧ t' + h' ≤ H ∧ l' + w' ≤ W ∧
    ∀ i j, i < H → j < W → z i j = v → inR t' l' h' w' i j = true := by
  obtain ⟨a1, b1, p1, e1⟩ := h.at_
  obtain ⟨a2, b2, p2, e2⟩ := h.al
  obtain ⟨a3, b3, p3, e3⟩ := h.ao
  obtain ⟨a4, b4, p4, e4⟩ := h.ar
  have q1 := h.inn _ _ p1
  have q2 := h.inn _ _ p2
  obtain ⟨-, g3, g3'⟩ := p3
  obtain ⟨-, g4, g4'⟩ := p4
  refine ⟨a1, b2, a3 + 1 - a1, b4 + 1 - b2, e1.symm, e2.symm, by omega, by omega, by omega, by omega, by omega, by omega, fun i j hi hj hv => ?_⟩
  have := h.inn i j ⟨hv, by unfold Gone; omega⟩
  unfold inR
  simp only [Bool.and_eq_true, decide_eq_true_eq]
  omega
end Fw
end Go.Proofs.YtcglmbijpjhbmaaGreat

/-! Plans that are read are the specification's: grids and names. -/
namespace Go.Proofs.YtcglmbijpjhbmaaGreat
namespace Fw
open Go

def u8I (c : UInt8) : Int := (c.toNat : Int)
theorem u8I_inj {a b : UInt8} (h : u8I a = u8I b) : a = b := by
  unfold u8I at h
  exact UInt8.toNat_inj.1 (by omega)
theorem idxOf_map {α β : Type} [DecidableEq α] [DecidableEq β] {f : α → β} (hf : ∀ a b, f a = f b → a = b) {c : α} : ∀ (l : List α), (l.map f).idxOf (f c) = l.idxOf c
  | [] => rfl
  | a :: l => by
    rw [List.map_cons, List.idxOf_cons, List.idxOf_cons, idxOf_map hf l]
    by_cases e : a = c
    · subst e; simp
    · have e2 : f a ≠ f c := fun h => e (hf _ _ h)
      rw [show (f a == f c) = false by simpa using e2, show (a == c) = false by simpa using e]
theorem gz_read {p : List Txt} {i k : Nat} {row : Txt} {c : UInt8} (h : p[i]? = some row) (hc : row[k]? = some c) : gz (readG p) i k = u8I c := by
  simp [gz, readG, rowZ, h, hc, u8I]
theorem nameRow_is {p : List Txt} {i : Nat} {row : Txt} (h : p[i]? = some row) {o : List UInt8} {s : List Int × List Rect} (ho : o.map u8I = s.1) : ∀ j, j ≤ row.length →
    ((row.take j).foldl nameStep (o, [])).1.map u8I = (seRow (readG p) i s j).1 ∧ ((row.take j).foldl nameStep (o, [])).2 = rowT (zRow (readG p) i s j)
  | 0, _ => ⟨by simpa [seRow] using ho, by simp [zRow, rowT]⟩
  | j + 1, hj => by
    obtain ⟨c, hc, -⟩ := get_of (show j < row.length by omega)
    obtain ⟨h1, h2⟩ := nameRow_is h ho j (by omega)
    rw [foldl_tk hc]
    generalize (row.take j).foldl nameStep (o, []) = q at h1 h2 ⊢
    have hz := gz_read h hc
    have hi : (seRow (readG p) i s j).1.idxOf (gz (readG p) i j) = q.1.idxOf c := by rw [← h1, hz, idxOf_map fun a b => u8I_inj]
    have hl : (seRow (readG p) i s j).1.length = q.1.length := by rw [← h1, List.length_map]
    constructor
    · simp only [nameStep, seRow, seKs]
      rw [hi, hl]
      split
      · rw [List.map_append, h1, hz]; rfl
      · exact h1
    · simp only [nameStep, zRow]
      rw [hi, h2]
      simp [rowT, letZ]
theorem names_to {p : List Txt} {W : Nat} (hW : ∀ row ∈ p, row.length = W) : ∀ i, i ≤ p.length →
    ((p.take i).foldl nameGo ([], [])).1.map u8I = (seRows (readG p) W i).1 ∧ ((p.take i).foldl nameGo ([], [])).2 = textG (zRows (readG p) W i)
  | 0, _ => by simp [seRows, zRows, textG]
  | i + 1, hi => by
    obtain ⟨row, hr, hm⟩ := get_of (show i < p.length by omega)
    obtain ⟨h1, h2⟩ := names_to hW i (by omega)
    rw [foldl_tk hr]
    generalize (p.take i).foldl nameGo ([], []) = q at h1 h2 ⊢
    have hl := hW row hm
    obtain ⟨k1, k2⟩ := nameRow_is hr h1 row.length (Nat.le_refl _)
    rw [List.take_length, hl] at k1 k2
    constructor
    · simp only [nameGo, nameRow, seRows]; exact k1
    · simp only [nameGo, nameRow, zRows, textG, List.map_append, List.map_cons, List.map_nil]
      rw [k2, h2]
      rfl
theorem w0_read {p : List Txt} : w0 (readG p) = (hdRow p).length := by
  cases p with
  | nil => rfl
  | cons a p => simp [w0, readG, rowZ, hdRow]
theorem grid_rows {p : List Txt} (hg : gridB p = true) : ∀ row ∈ p, row.length = (hdRow p).length := by
  intro row hm
  obtain ⟨i, hi⟩ := List.getElem?_of_mem hm
  exact grid_row hg hi
theorem names_text {p : List Txt} (hg : gridB p = true) : names p = textG (gP p) := by
  have := (names_to (grid_rows hg) p.length (Nat.le_refl _)).2
  rw [List.take_length] at this
  unfold names namesAll gP zG
  rw [this, w0_read, readG_len]
theorem grid_iff {p : List Txt} : gridB p = (lettersB p && okG (readG p)) := by
  rw [Bool.eq_iff_iff, Bool.and_eq_true, okG_iff, readG_len, w0_read]
  unfold gridB lettersB GW rowB
  simp only [Bool.and_eq_true, decide_eq_true_eq, List.all_eq_true, readG_len, true_and]
  constructor
  · rintro ⟨⟨h1, h2⟩, h3⟩
    obtain ⟨row0, hr0, hm0⟩ := get_of (show 0 < p.length by omega)
    have hh := hdRow_of hr0
    have h4 := h1 row0 hm0
    refine ⟨fun r hr => (h1 r hr).2, fun r hr => ?_, h2, h3, by rw [hh]; omega, by rw [hh]; omega⟩
    obtain ⟨t, ht, rfl⟩ := List.mem_map.1 hr
    rw [rowZ_len]; exact (h1 t ht).1.1.1
  · rintro ⟨h1, h2, h3, h4, h5, h6⟩
    refine ⟨⟨fun r hr => ?_, h3⟩, h4⟩
    have := h2 (rowZ r) (List.mem_map.2 ⟨r, hr, rfl⟩)
    rw [rowZ_len] at this
    exact ⟨⟨⟨this, by omega⟩, by omega⟩, h1 r hr⟩
end Fw
end Go.Proofs.YtcglmbijpjhbmaaGreat

/-! Plans that are read are the specification's: numbers of rooms and rectangles. -/
namespace Go.Proofs.YtcglmbijpjhbmaaGreat
namespace Fw
open Go

theorem zRow_at {g : List (List Int)} {i : Nat} {s : List Int × List Rect} : ∀ {j k : Nat}, k < j → (zRow g i s j)[k]? = some (((seRow g i s k).1.idxOf (gz g i k) : Nat) : Int)
  | 0, k, h => by omega
  | j + 1, k, h => by
    unfold zRow
    by_cases e : k = j
    · subst e; rw [List.getElem?_append_right (by rw [zRow_len]; exact Nat.le_refl _), zRow_len]; simp
    · rw [List.getElem?_append_left (by rw [zRow_len]; omega)]; exact zRow_at (by omega)
def keys (p : List Txt) : List Int := (seRows (readG p) (hdRow p).length p.length).1
theorem gP_eq {p : List Txt} : gP p = zRows (readG p) (hdRow p).length p.length := by unfold gP zG; rw [w0_read, readG_len]
theorem rP_eq {p : List Txt} : rP p = (seRows (readG p) (hdRow p).length p.length).2 := by unfold rP stG; rw [w0_read, readG_len]
theorem gP_at {p : List Txt} {i j : Nat} (hi : i < p.length) (hj : j < (hdRow p).length) : gz (gP p) i j = (((keys p).idxOf (gz (readG p) i j) : Nat) : Int) := by
  rw [gP_eq]
  unfold gz
  rw [zRows_at hi, Option.getD_some, zRow_at hj, Option.getD_some]
  congr 1
  exact zNum hi hj
theorem keys_inv (p : List Txt) : SeInv (gz (readG p)) (hdRow p).length p.length 0 (keys p) (rP p) := by
  rw [rP_eq]; exact SeInv.rows p.length
theorem gone_all {H W i j : Nat} (hi : i < H) (hj : j < W) : Gone W H 0 i j := ⟨hj, .inl hi⟩
theorem gP_room {p : List Txt} : RmOk (gP p) p.length (hdRow p).length (rP p).length := by
  intro i j hi hj
  rw [gP_at hi hj]
  have hm := (keys_inv p).mem i j (gone_all hi hj)
  have hl := (keys_inv p).len
  have := List.idxOf_lt_length_iff.2 hm
  omega
/-- A plan whose names are as they should be. -/
structure Named (p : List Txt) : Prop where
  hg : gridB p = true
  ht : textG (gP p) = p
theorem Named.cell {p : List Txt} (h : Named p) {i j : Nat} (hi : i < p.length) (hj : j < (hdRow p).length) : gz (gP p) i j = cellZ p i j := by
  have hgz := gP_at hi hj
  have hm := (keys_inv p).mem i j (gone_all hi hj)
  have hsm := grid_small h.hg
  obtain ⟨row0, hr0, hm0⟩ := get_of hsm.1
  have hh := hdRow_of hr0
  have hw6 := hsm.2.2 row0 hm0
  have hw1 := row_pos h.hg hr0
  rw [← hh] at hw6 hw1
  have hb := zRows_bound (g := readG p) hw6 hw1 p.length hsm.2.1
  rw [← gP_eq] at hb
  have hrl : (gP p).length = p.length := by rw [gP_eq]; exact zRows_len _
  obtain ⟨zr, hzr, hzm⟩ := get_of (show i < (gP p).length by omega)
  have hzl : zr.length = (hdRow p).length := by
    have e := hzr
    rw [gP_eq, zRows_at hi] at e
    cases e
    exact zRow_len _
  obtain ⟨z, hz, hzm2⟩ := get_of (show j < zr.length by omega)
  have hz1 := hb zr hzm z hzm2
  have e1 : gz (gP p) i j = z := by simp [gz, hzr, hz]
  have e2 : p[i]? = some (rowT zr) := by
    have := textG_at hzr
    rwa [h.ht] at this
  have e3 : (rowT zr)[j]? = some (letZ z) := by simp [rowT, hz]
  rw [e1, cellZ_is e2 e3]
  unfold letZ
  rw [UInt8.toNat_ofNat_of_lt' (by show 97 + z.toNat < 256; omega)]
  omega
theorem Named.room {p : List Txt} (h : Named p) {i j : Nat} (hi : i < p.length) (hj : j < (hdRow p).length) : 0 ≤ cellZ p i j ∧ cellZ p i j < (rP p).length := by
  rw [← h.cell hi hj]; exact gP_room i j hi hj
/-- A key is in a cell just if the cell's room is the key's number. -/
theorem Named.key {p : List Txt} (h : Named p) {m : Nat} {v : Int} (hm : (keys p)[m]? = some v) (a b : Nat) : Val (gz (readG p)) (hdRow p).length p.length 0 v a b ↔ Val (cellZ p) (hdRow p).length p.length 0 m a b := by
  unfold Val
  constructor
  · rintro ⟨h1, h2⟩
    refine ⟨?_, h2⟩
    obtain ⟨hb, ha⟩ := h2
    have ha' : a < p.length := by omega
    rw [← h.cell ha' hb, gP_at ha' hb, h1]
    congr 1
    have hv := List.mem_of_getElem? hm
    have hlt := List.idxOf_lt_length_iff.2 hv
    have := idxOf_mem (ks := keys p) (z := v) (by omega)
    exact nodup_one (keys_inv p).nd this hm
  · rintro ⟨h1, h2⟩
    refine ⟨?_, h2⟩
    obtain ⟨hb, ha⟩ := h2
    have ha' : a < p.length := by omega
    have hmem := (keys_inv p).mem a b (gone_all ha' hb)
    have hlt := List.idxOf_lt_length_iff.2 hmem
    rw [← h.cell ha' hb, gP_at ha' hb] at h1
    have := idxOf_mem (ks := keys p) (z := gz (readG p) a b) (by omega)
    rw [show (keys p).idxOf (gz (readG p) a b) = m by omega, hm] at this
    cases this; rfl
/-- The rectangle of a room. -/
theorem Named.rect {p : List Txt} (h : Named p) {m : Nat} {b : Rect} (hb : (rP p)[m]? = some b) : HullR (Val (cellZ p) (hdRow p).length p.length 0 m) b := by
  have hi := keys_inv p
  have hml := len_of hb
  rw [hi.len] at hml
  obtain ⟨v, hv, -⟩ := get_of hml
  exact (hi.hull m v b hv hb).congr (h.key hv)
theorem Named.box {p : List Txt} (h : Named p) {m : Nat} {b : Rect} (hb : (rP p)[m]? = some b) : b.row = (boxOf p m).top ∧ b.col = (boxOf p m).left ∧ b.high = highOf p m ∧ b.wide = wideOf p m := by
  have h1 := h.rect hb
  have h2 := boxOf_inv (grid_rows h.hg) rfl (r := (m : Int))
  rcases h2 with ⟨h2, -⟩ | h2
  · obtain ⟨a, c, q, -⟩ := h1.at_
    exact absurd q (h2 a c)
  · have := Hull.uniq h1 h2
    unfold highOf wideOf
    omega
theorem foldl_max_le {f : UInt8 → Int} {B : Int} : ∀ (row : Txt) (n : Int), n ≤ B → (∀ c ∈ row, f c ≤ B) → row.foldl (fun n c => max n (f c)) n ≤ B
  | [], n, h, _ => h
  | c :: row, n, h, hc => foldl_max_le row _ (by have := hc c (by simp); show max n (f c) ≤ B; omega) fun d hd => hc d (by simp [hd])
theorem rooms_le {B : Int} : ∀ (p : List Txt) (n : Int), n ≤ B → (∀ row ∈ p, ∀ c ∈ row, (c.toNat : Int) - 97 + 1 ≤ B) → p.foldl rowMax n ≤ B
  | [], n, h, _ => h
  | row :: p, n, h, hc => rooms_le p _ (foldl_max_le row n h (hc row (by simp))) fun r hr => hc r (by simp [hr])
theorem Named.rooms {p : List Txt} (h : Named p) : l1Rooms p = (rP p).length := by
  have hi := keys_inv p
  have hl := hi.len
  apply Int.le_antisymm
  · refine rooms_le p 0 (by omega) fun row hr c hc => ?_
    obtain ⟨i, hrow⟩ := List.getElem?_of_mem hr
    obtain ⟨j, hcol⟩ := List.getElem?_of_mem hc
    have hil := len_of hrow
    have hjl := len_of hcol
    have := h.room hil (by rw [← grid_row h.hg hrow]; exact hjl)
    rw [cellZ_is hrow hcol] at this
    omega
  · by_cases h0 : (rP p).length = 0
    · have := (l1Rooms_bound p).1; omega
    · obtain ⟨b, hb, -⟩ := get_of (show (rP p).length - 1 < (rP p).length by omega)
      obtain ⟨a, c, ⟨q1, q2⟩, -⟩ := (h.rect hb).at_
      obtain ⟨hc, ha⟩ := q2
      have ha' : a < p.length := by omega
      obtain ⟨row, hrow, hrm⟩ := get_of ha'
      have hrl := grid_row h.hg hrow
      obtain ⟨d, hd, -⟩ := get_of (show c < row.length by omega)
      have := (rooms_fold p 0).2 a c row d hrow hd
      rw [cellZ_is hrow hd] at q1
      unfold l1Rooms
      omega
end Fw
end Go.Proofs.YtcglmbijpjhbmaaGreat

/-! Plans that are read are the specification's: rooms fill their rectangles. -/
namespace Go.Proofs.YtcglmbijpjhbmaaGreat
namespace Fw
open Go

def inB (b : Rect) (i j : Nat) : Bool := (decide (b.row ≤ i) && decide ((i : Int) < b.row + b.high)) && (decide (b.col ≤ j) && decide ((j : Int) < b.col + b.wide))
theorem rect_cnt {z : Nat → Nat → Int} {H W : Nat} {v : Int} {b : Rect} (h : HullR (Val z W H 0 v) b) : ((cnt H W (inB b) : Nat) : Int) = b.high * b.wide ∧ ∀ i j, i < H → j < W → z i j = v → inB b i j = true := by
  obtain ⟨t, l, hh, w, e1, e2, e3, e4, h1, h2, h3, h4, h5⟩ := Hull.nat h
  have e5 : b.high = hh := by omega
  have e6 : b.wide = w := by omega
  have e : ∀ i j, inB b i j = inR t l hh w i j := by
    intro i j
    unfold inB inR
    rw [e1, e2, e5, e6, Bool.eq_iff_iff]
    simp only [Bool.and_eq_true, decide_eq_true_eq]
    omega
  have e7 : inB b = inR t l hh w := by funext i j; exact e i j
  rw [e7, cnt_rect h3 h4, e5, e6]
  exact ⟨by simp, h5⟩
/-- How many cells the rectangle of a room has. -/
def arN (p : List Txt) (m : Nat) : Nat :=
  match (rP p)[m]? with
  | some b => cnt p.length (hdRow p).length (inB b)
  | none => 0
theorem arN_is {p : List Txt} {m : Nat} {b : Rect} (h : (rP p)[m]? = some b) : arN p m = cnt p.length (hdRow p).length (inB b) := by simp [arN, h]
theorem sumA_is {p : List Txt} (h : Named p) : ∀ k, k ≤ (rP p).length → sumA ((rP p).take k) = ((sN k (arN p) : Nat) : Int)
  | 0, _ => by simp [sumA, sN]
  | k + 1, hk => by
    obtain ⟨b, hb, -⟩ := get_of (show k < (rP p).length by omega)
    rw [sumA_succ hb, sumA_is h k (by omega), sN, arN_is hb, ← (rect_cnt (h.rect hb)).1]
    simp
theorem Named.cells_le {p : List Txt} (h : Named p) {m : Nat} (hm : m < (rP p).length) : cnt p.length (hdRow p).length (inZ p m) ≤ arN p m := by
  obtain ⟨b, hb, -⟩ := get_of hm
  rw [arN_is hb]
  exact cnt_le fun i j hi hj hz => (rect_cnt (h.rect hb)).2 i j hi hj (by unfold inZ at hz; simpa using hz)
theorem Named.all {p : List Txt} (h : Named p) : sN (rP p).length (fun m => cnt p.length (hdRow p).length (inZ p m)) = p.length * (hdRow p).length := by
  rw [← cnt_classes (H := p.length) (W := (hdRow p).length) (n := (rP p).length) (z := fun i j => (cellZ p i j).toNat) fun i j hi hj => by have := h.room hi hj; omega]
  refine sN_congr fun m hm => cnt_congr fun i j hi hj => ?_
  unfold inZ
  have := h.room hi hj
  apply decide_eq_decide.2
  omega
theorem fullG_is {p : List Txt} (h : Named p) : fullG (readG p) = decide (sN (rP p).length (arN p) = p.length * (hdRow p).length) := by
  have := sumA_is h (rP p).length (Nat.le_refl _)
  rw [List.take_length] at this
  unfold fullG
  rw [show (stG (readG p)).2 = rP p from rfl, this, readG_len, w0_read]
  apply decide_eq_decide.2
  omega
theorem Named.area {p : List Txt} (h : Named p) {m : Nat} (hm : m < (rP p).length) : (l1Cells p m = highOf p m * wideOf p m) ↔ cnt p.length (hdRow p).length (inZ p m) = arN p m := by
  obtain ⟨b, hb, -⟩ := get_of hm
  obtain ⟨-, -, e1, e2⟩ := h.box hb
  rw [l1Cells_is (grid_rows h.hg), ← e1, ← e2, ← (rect_cnt (h.rect hb)).1, arN_is hb]
  omega
theorem Named.full {p : List Txt} (h : Named p) : fullG (readG p) = true ↔ ∀ m, m < (rP p).length → cnt p.length (hdRow p).length (inZ p m) = arN p m := by
  rw [fullG_is h, decide_eq_true_eq, ← h.all]
  constructor
  · intro e m hm
    exact sN_eq (fun m hm => h.cells_le hm) e.symm m hm
  · intro e
    exact sN_congr fun m hm => (e m hm).symm
/-- Where areas are cells, rooms fill their rectangles. -/
theorem Named.fill {p : List Txt} (h : Named p) (hf : fullG (readG p) = true) {m : Nat} {b : Rect} (hb : (rP p)[m]? = some b) {i j : Nat} (hi : i < p.length) (hj : j < (hdRow p).length) : inB b i j = decide (cellZ p i j = m) := by
  have e := h.full.1 hf m (len_of hb)
  rw [arN_is hb] at e
  exact (cnt_eq (fun i j hi hj hz => (rect_cnt (h.rect hb)).2 i j hi hj (by unfold inZ at hz; simpa using hz)) e i j hi hj).symm
theorem floorI_plan {p : List Txt} : floorI p = planB p := by
  unfold floorI floorV okB okS planB
  rw [Bool.eq_iff_iff]
  simp only [Bool.and_eq_true, decide_eq_true_eq, List.all_eq_true, List.mem_range]
  have hgi := grid_iff (p := p)
  constructor
  · rintro ⟨⟨h1, h2, h3⟩, h4, h5⟩
    have hg : gridB p = true := by rw [hgi, h1, h2]; rfl
    have hN : Named p := ⟨hg, h5⟩
    have hr := hN.rooms
    have h3' : (rP p).length ≤ 9 := h3
    refine ⟨⟨⟨hg, by rw [names_text hg]; exact h5⟩, by omega⟩, fun m hm => ?_⟩
    have hm' : m < (rP p).length := by omega
    exact (hN.area hm').2 (hN.full.1 h4 m hm')
  · rintro ⟨⟨⟨hg, h2⟩, h3⟩, h4⟩
    have h5 : textG (gP p) = p := by rw [← names_text hg]; exact h2
    have hN : Named p := ⟨hg, h5⟩
    have hr := hN.rooms
    rw [hgi, Bool.and_eq_true] at hg
    have h3' : (rP p).length ≤ 9 := by omega
    exact ⟨⟨hg.1, hg.2, h3'⟩, hN.full.2 fun m hm => (hN.area hm).1 (h4 m (by omega)), h5⟩
theorem plan_named {p : List Txt} (h : planB p = true) : Named p := by
  have h2 := h
  rw [← floorI_plan] at h2
  unfold floorI floorV at h2
  simp only [Bool.and_eq_true, decide_eq_true_eq] at h2
  exact ⟨planB_grid h, h2.2.2⟩
theorem plan_full {p : List Txt} (h : planB p = true) : fullG (readG p) = true := by
  rw [← floorI_plan] at h
  unfold floorI floorV at h
  simp only [Bool.and_eq_true, decide_eq_true_eq] at h
  exact h.2.1
end Fw
end Go.Proofs.YtcglmbijpjhbmaaGreat

/-! Areas by the program are the specification's. -/
namespace Go.Proofs.YtcglmbijpjhbmaaGreat
namespace Fw
open Go

/-! ### Points -/
def cz (c : UInt8) : Int := (c.toNat : Int) - 97
theorem cz_inj {a b : UInt8} : (cz a = cz b) = (a = b) := by
  rw [u8_eq]
  unfold cz
  apply propext; omega
theorem dn_dist (a b c d : UInt8) : ((dn [cz a, cz b, cz c, cz d] : Nat) : Int) = distTo [a, b, c, d] 4 := by
  simp only [dn, distTo, newAt, newTo, List.mem_cons, List.not_mem_nil, or_false, cz_inj]
  by_cases h1 : a = b <;> by_cases h2 : a = c <;> by_cases h3 : a = d <;> by_cases h4 : b = c <;> by_cases h5 : b = d <;> by_cases h6 : c = d <;> simp_all [eq_comm]
theorem four_meets {p : List Txt} (h : Named p) {i k : Nat} (hi : 1 ≤ i) (hi2 : i < p.length) (hk : 1 ≤ k) (hk2 : k < (hdRow p).length) : ((dn (four (gP p) i k) : Nat) : Int) = meetsAt p i k := by
  obtain ⟨r1, hr1, -⟩ := get_of (show i - 1 < p.length by omega)
  obtain ⟨r2, hr2, -⟩ := get_of hi2
  have l1 := grid_row h.hg hr1
  have l2 := grid_row h.hg hr2
  obtain ⟨a, ha, -⟩ := get_of (show k - 1 < r1.length by omega)
  obtain ⟨b, hb, -⟩ := get_of (show k < r1.length by omega)
  obtain ⟨c, hc, -⟩ := get_of (show k - 1 < r2.length by omega)
  obtain ⟨d, hd, -⟩ := get_of (show k < r2.length by omega)
  unfold four meetsAt
  rw [h.cell (by omega) (by omega), h.cell (by omega) (by omega), h.cell (by omega) (by omega), h.cell (by omega) (by omega), cellZ_is hr1 ha, cellZ_is hr1 hb, cellZ_is hr2 hc, cellZ_is hr2 hd]
  simp only [hr1, hr2, ha, hb, hc, hd]
  exact dn_dist a b c d
theorem ptsRow_eq {p : List Txt} (h : Named p) {many : Int} {i : Nat} (hi : 1 ≤ i) (hi2 : i < p.length) : ∀ k, k ≤ (hdRow p).length → ptsRowG (gP p) many i k = ptsRow p many i k
  | 0, _ => rfl
  | k + 1, hk => by
    unfold ptsRowG ptsRow
    rw [ptsRow_eq h hi hi2 k (by omega)]
    by_cases h1 : 1 ≤ k
    · rw [four_meets h hi hi2 h1 (by omega)]
    · rw [if_neg (fun e => h1 e.1), if_neg (fun e => h1 e.1)]
theorem pts_eq {p : List Txt} (h : Named p) {many : Int} : ∀ i, i ≤ p.length → ptsG (gP p) many (hdRow p).length i = ptsTo p many (hdRow p).length i
  | 0, _ => rfl
  | i + 1, hi => by
    unfold ptsG ptsTo
    rw [pts_eq h i (by omega)]
    by_cases h1 : 1 ≤ i
    · rw [ptsRow_eq h h1 (by omega) _ (Nat.le_refl _)]
    · rw [if_neg h1, if_neg h1]
theorem plainI_plain {p : List Txt} : plainI p = plainB p := by
  unfold plainI plainB
  rw [floorI_plan]
  cases hp : planB p with
  | false => rfl
  | true =>
    rw [w0_read, pts_eq (plan_named hp) p.length (Nat.le_refl _)]
    rfl
theorem plain_plan {p : List Txt} (h : plainB p = true) : planB p = true := by
  unfold plainB at h
  rw [Bool.and_eq_true] at h
  exact h.1
theorem needV_needs {p : List Txt} {ws : List Int} : needV p [ws] = needsB p ws := by
  unfold needV needsB needW
  rw [plainI_plain]
  cases hp : plainB p with
  | false => rfl
  | true =>
    have hr := (plan_named (plain_plan hp)).rooms
    simp only [List.all_cons, List.all_nil, Bool.and_true, Bool.true_and]
    congr 1
    rw [hr]
    apply decide_eq_decide.2
    omega

/-! ### Orders go up -/
theorem mem_ddp {l : List Int} {x : Int} : x ∈ ddp l ↔ x ∈ l := by
  have : ∀ (l m : List Int), x ∈ l.foldl putL m ↔ x ∈ m ∨ x ∈ l := by
    intro l
    induction l with
    | nil => intro m; simp
    | cons a l ih => intro m; rw [List.foldl_cons, ih, mem_putL, List.mem_cons, or_assoc]
  unfold ddp
  rw [this]
  simp
/-- A relation all of whose pairs go up. -/
def Rise (n : Nat) (rk : Nat → Nat) (M : List (List Bool)) : Prop := Sq n M ∧ ∀ a b, a < n → b < n → getB M a b = true → rk a < rk b
theorem Rise.clA {n : Nat} {rk : Nat → Nat} {M : List (List Bool)} (h : Rise n rk M) {k a : Nat} (hk : k < n) (ha : a < n) : Rise n rk (clA n k M a) := by
  obtain ⟨h1, h2⟩ := clA_to h.1 hk ha n (Nat.le_refl _)
  refine ⟨h1, fun x y hx hy hxy => ?_⟩
  unfold Fw.clA at hxy
  rw [h2 x y hx hy] at hxy
  split at hxy
  · rename_i e
    obtain ⟨rfl, -⟩ := e
    rw [Bool.or_eq_true, Bool.and_eq_true] at hxy
    rcases hxy with hxy | ⟨h3, h4⟩
    · exact h.2 x y hx hy hxy
    · exact Nat.lt_trans (h.2 x k hx hk h3) (h.2 k y hk hy h4)
  · exact h.2 x y hx hy hxy
theorem Rise.fold {n : Nat} {rk : Nat → Nat} {f : List (List Bool) → Nat → List (List Bool)} : ∀ (i : Nat) {M : List (List Bool)}, i ≤ n → (∀ M j, j < n → Rise n rk M → Rise n rk (f M j)) → Rise n rk M → Rise n rk ((List.range i).foldl f M)
  | 0, _, _, _, h => h
  | i + 1, M, hi, hs, h => by
    rw [foldl_rg]
    exact hs _ i (by omega) (Rise.fold i (by omega) hs h)
theorem Rise.close {n : Nat} {rk : Nat → Nat} {M : List (List Bool)} (h : Rise n rk M) : Rise n rk (closeM M) := by
  unfold closeM
  rw [h.1.1]
  exact Rise.fold n (Nat.le_refl _) (fun _ k hk h => Rise.fold n (Nat.le_refl _) (fun _ a ha h => h.clA hk ha) h) h
theorem Rise.relB {n : Nat} {rk : Nat → Nat} {a : Int} (ha : 0 ≤ a ∧ a < n) : ∀ {bs : List Int} {M : List (List Bool)}, Rm n bs → (∀ b ∈ bs, rk a.toNat < rk b.toNat) → Rise n rk M → Rise n rk (relB a bs M)
  | [], _, _, _, h => h
  | b :: bs, M, hb, hr, h => by
    have hb0 := hb b (by simp)
    refine Rise.relB ha (bs := bs) (fun x hx => hb x (by simp [hx])) (fun x hx => hr x (by simp [hx])) ⟨h.1.set (by omega), fun x y hx hy hxy => ?_⟩
    rw [getB_setB h.1 (by omega) (by omega)] at hxy
    split at hxy
    · rename_i e
      rw [e.1, e.2]; exact hr b (by simp)
    · exact h.2 x y hx hy hxy
theorem Rise.relW {n : Nat} {rk : Nat → Nat} {bs : List Int} (hb : Rm n bs) : ∀ {la : List Int} {M : List (List Bool)}, Rm n la → (∀ a ∈ la, ∀ b ∈ bs, rk a.toNat < rk b.toNat) → Rise n rk M → Rise n rk (relW M la bs)
  | [], _, _, _, h => h
  | a :: la, M, ha, hr, h => Rise.relW hb (la := la) (fun x hx => ha x (by simp [hx])) (fun x hx => hr x (by simp [hx])) (h.relB (ha a (by simp)) hb (hr a (by simp)))
theorem Rise.empty {n : Nat} {rk : Nat → Nat} : Rise n rk (emptyM n) := by
  refine ⟨emptyM_sq n, fun a b ha hb h => ?_⟩
  simp [getB, emptyM, ha, hb] at h
theorem Rise.ord {g : List (List Int)} {nh nw n : Nat} {r0 r1 : Nat → Nat} (hrm : RmOk g nh nw n) (h0 : ∀ w, WlOk g nh nw w → w.level = false → ∀ a ∈ (sidesOf g w).1, ∀ b ∈ (sidesOf g w).2, r0 a.toNat < r0 b.toNat)
    (h1 : ∀ w, WlOk g nh nw w → w.level = true → ∀ a ∈ (sidesOf g w).1, ∀ b ∈ (sidesOf g w).2, r1 a.toNat < r1 b.toNat) : ∀ (ws : List Wall), (∀ w ∈ ws, WlOk g nh nw w) → ∀ {M : List (List Bool) × List (List Bool)}, Rise n r0 M.1 → Rise n r1 M.2 →
    Rise n r0 (ws.foldl (ordW g) M).1 ∧ Rise n r1 (ws.foldl (ordW g) M).2
  | [], _, _, k0, k1 => ⟨k0, k1⟩
  | w :: ws, hws, M, k0, k1 => by
    have hw := hws w (by simp)
    obtain ⟨hr1, hr2⟩ := sidesOf_rooms hrm hw
    rw [List.foldl_cons]
    refine Rise.ord hrm h0 h1 ws (fun w hw => hws w (by simp [hw])) ?_ ?_
    · unfold ordW
      cases hlv : w.level with
      | false => simpa using k0.relW hr2 hr1 (h0 w hw hlv)
      | true => simpa using k0
    · unfold ordW
      cases hlv : w.level with
      | false => simpa using k1
      | true => simpa using k1.relW hr2 hr1 (h1 w hw hlv)
end Fw
end Go.Proofs.YtcglmbijpjhbmaaGreat

/-! Areas by the program are the specification's, joined. -/
namespace Go.Proofs.YtcglmbijpjhbmaaGreat
namespace Fw
open Go

theorem side1 {g : List (List Int)} {nh nw : Nat} {w : Wall} (hw : WlOk g nh nw w) {x : Int} (hx : x ∈ (sidesOf g w).1) : ∃ line j : Nat, w.line = line ∧ x = (sidesG g w.level line j).1 ∧ InL nh nw w.level line j ∧ difG g w.level line j = true := by
  obtain ⟨line, fr, long, e, h1, h2⟩ := hw
  have e1 : w.line.toNat = line := by rw [e]; simp
  have e2 : w.fr.toNat = fr := by rw [e]; simp
  have e3 : w.long.toNat = long := by rw [e]; simp
  simp only [sidesOf, e1, e2, e3] at hx
  have := mem_ddp.1 hx
  simp only [alongG, List.mem_map, List.mem_range] at this
  obtain ⟨j, hj, rfl⟩ := this
  have h3 := h2 (fr + j) (by omega) (by omega)
  exact ⟨line, fr + j, by rw [e], rfl, h3.1, h3.2⟩
theorem side2 {g : List (List Int)} {nh nw : Nat} {w : Wall} (hw : WlOk g nh nw w) {x : Int} (hx : x ∈ (sidesOf g w).2) : ∃ line j : Nat, w.line = line ∧ x = (sidesG g w.level line j).2 ∧ InL nh nw w.level line j ∧ difG g w.level line j = true := by
  obtain ⟨line, fr, long, e, h1, h2⟩ := hw
  have e1 : w.line.toNat = line := by rw [e]; simp
  have e2 : w.fr.toNat = fr := by rw [e]; simp
  have e3 : w.long.toNat = long := by rw [e]; simp
  simp only [sidesOf, e1, e2, e3] at hx
  have := mem_ddp.1 hx
  simp only [alongG, List.mem_map, List.mem_range] at this
  obtain ⟨j, hj, rfl⟩ := this
  have h3 := h2 (fr + j) (by omega) (by omega)
  exact ⟨line, fr + j, by rw [e], rfl, h3.1, h3.2⟩
def rkL (p : List Txt) (a : Nat) : Nat := match (rP p)[a]? with | some b => b.col.toNat | none => 0
def rkA (p : List Txt) (a : Nat) : Nat := match (rP p)[a]? with | some b => b.row.toNat | none => 0
/-- A room's cell lies in its rectangle, and where the rectangle is filled, the other way round. -/
theorem plan_rect {p : List Txt} (hp : planB p = true) {i j : Nat} (hi : i < p.length) (hj : j < (hdRow p).length) : ∃ b, (rP p)[(cellZ p i j).toNat]? = some b ∧ inB b i j = true ∧ b.Fit ∧ ∀ k l, k < p.length → l < (hdRow p).length → inB b k l = true → cellZ p k l = cellZ p i j := by
  have hN := plan_named hp
  have hr := hN.room hi hj
  obtain ⟨b, hb, hbm⟩ := get_of (show (cellZ p i j).toNat < (rP p).length by omega)
  have hf := plan_full hp
  have hsm := grid_small hN.hg
  obtain ⟨row0, hr0, hm0⟩ := get_of hsm.1
  have hh := hdRow_of hr0
  have hw6 := hsm.2.2 row0 hm0
  have hw1 := row_pos hN.hg hr0
  rw [← hh] at hw6 hw1
  have hok := (seRows_ok (g := readG p) hw6 hw1 p.length hsm.2.1).1
  rw [← rP_eq] at hok
  refine ⟨b, hb, ?_, hok.2 b hbm, fun k l hk hl hkl => ?_⟩
  · rw [hN.fill hf hb hi hj]; exact decide_eq_true (by omega)
  · rw [hN.fill hf hb hk hl] at hkl
    have := of_decide_eq_true hkl
    omega
theorem plan_left {p : List Txt} (hp : planB p = true) {w : Wall} (hw : WlOk (gP p) p.length (hdRow p).length w) (hl : w.level = false) : ∀ a ∈ (sidesOf (gP p) w).1, ∀ b ∈ (sidesOf (gP p) w).2, rkL p a.toNat < rkL p b.toNat := by
  intro a ha b hb
  have hN := plan_named hp
  obtain ⟨L, j, e1, rfl, ⟨h1, h2⟩, h3⟩ := side1 hw ha
  obtain ⟨L', j', e2, rfl, ⟨k1, k2⟩, k3⟩ := side2 hw hb
  obtain rfl : L = L' := by omega
  simp only [hl, Bool.false_eq_true, if_false] at h2 k2
  unfold difG at k3
  simp only [hl, sidesG, Bool.false_eq_true, if_false, decide_eq_true_eq] at k3 ⊢
  rw [hN.cell k2.2 (by omega), hN.cell k2.2 k2.1] at k3
  rw [hN.cell h2.2 (by omega), hN.cell k2.2 k2.1]
  obtain ⟨r1, hr1, q1, f1, -⟩ := plan_rect hp h2.2 (show L - 1 < (hdRow p).length by omega)
  obtain ⟨r2, hr2, q2, f2, c2⟩ := plan_rect hp k2.2 k2.1
  unfold rkL
  rw [hr1, hr2]
  simp only
  have c3 := c2 j' (L - 1) k2.2 (by omega)
  unfold inB at q1 q2 c3
  unfold Rect.Fit at f1 f2
  simp only [Bool.and_eq_true, decide_eq_true_eq] at q1 q2 c3
  by_cases hc : r2.col < (L : Int)
  · exact absurd (c3 (by omega)) k3
  · omega
theorem plan_above {p : List Txt} (hp : planB p = true) {w : Wall} (hw : WlOk (gP p) p.length (hdRow p).length w) (hl : w.level = true) : ∀ a ∈ (sidesOf (gP p) w).1, ∀ b ∈ (sidesOf (gP p) w).2, rkA p a.toNat < rkA p b.toNat := by
  intro a ha b hb
  have hN := plan_named hp
  obtain ⟨L, j, e1, rfl, ⟨h1, h2⟩, h3⟩ := side1 hw ha
  obtain ⟨L', j', e2, rfl, ⟨k1, k2⟩, k3⟩ := side2 hw hb
  obtain rfl : L = L' := by omega
  simp only [hl, if_true] at h2 k2
  unfold difG at k3
  simp only [hl, sidesG, if_true, decide_eq_true_eq] at k3 ⊢
  rw [hN.cell (by omega) k2.2, hN.cell k2.1 k2.2] at k3
  rw [hN.cell (by omega) h2.2, hN.cell k2.1 k2.2]
  obtain ⟨r1, hr1, q1, f1, -⟩ := plan_rect hp (show L - 1 < p.length by omega) h2.2
  obtain ⟨r2, hr2, q2, f2, c2⟩ := plan_rect hp k2.1 k2.2
  unfold rkA
  rw [hr1, hr2]
  simp only
  have c3 := c2 (L - 1) j' (by omega) k2.2
  unfold inB at q1 q2 c3
  unfold Rect.Fit at f1 f2
  simp only [Bool.and_eq_true, decide_eq_true_eq] at q1 q2 c3
  by_cases hc : r2.row < (L : Int)
  · exact absurd (c3 (by omega)) k3
  · omega
theorem rk_le {p : List Txt} (hp : planB p = true) (b : Nat) : rkL p b ≤ 100 ∧ rkA p b ≤ 100 := by
  have hN := plan_named hp
  have hsm := grid_small hN.hg
  obtain ⟨row0, hr0, hm0⟩ := get_of hsm.1
  have hh := hdRow_of hr0
  have hw6 := hsm.2.2 row0 hm0
  have hw1 := row_pos hN.hg hr0
  rw [← hh] at hw6 hw1
  have hok := (seRows_ok (g := readG p) hw6 hw1 p.length hsm.2.1).1
  rw [← rP_eq] at hok
  unfold rkL rkA
  cases hb : (rP p)[b]? with
  | none => simp
  | some r =>
    have := hok.2 r (List.mem_of_getElem? hb)
    unfold Rect.Fit at this
    simp only
    omega
theorem plan_up {p : List Txt} (hp : planB p = true) : Up (leftG (gP p) p.length (hdRow p).length (rP p).length) (rP p).length (rkL p) ∧ Up (aboveG (gP p) p.length (hdRow p).length (rP p).length) (rP p).length (rkA p) := by
  have h := Rise.ord (r0 := rkL p) (r1 := rkA p) (gP_room (p := p)) (fun w hw hl => plan_left hp hw hl) (fun w hw hl => plan_above hp hw hl) (wallsG (gP p) p.length (hdRow p).length) wallsG_ok (M := (emptyM (rP p).length, emptyM (rP p).length)) Rise.empty Rise.empty
  have h0 := h.1.close
  have h1 := h.2.close
  exact ⟨⟨h0.1, h0.2, fun b => (rk_le hp b).1⟩, ⟨h1.1, h1.2, fun b => (rk_le hp b).2⟩⟩
theorem plan_all {p : List Txt} (hp : plainI p = true) : RmOk (gP p) p.length (w0 (readG p)) (rP p).length ∧ (∃ rk, Up (leftG (gP p) p.length (w0 (readG p)) (rP p).length) (rP p).length rk) ∧ ∃ rk, Up (aboveG (gP p) p.length (w0 (readG p)) (rP p).length) (rP p).length rk := by
  rw [plainI_plain] at hp
  have h := plan_up (plain_plan hp)
  rw [w0_read]
  exact ⟨gP_room, ⟨_, h.1⟩, ⟨_, h.2⟩⟩
theorem plan_least {p : List Txt} {ws : List Int} (h : needV p [ws] = true) : maxL (heaviest (leftG (gP p) p.length (w0 (readG p)) (rP p).length) ws (rP p).length) = least (allS p 0) ws ∧ maxL (heaviest (aboveG (gP p) p.length (w0 (readG p)) (rP p).length) ws (rP p).length) = least (allS p 1) ws := by
  obtain ⟨h1, h2, h3⟩ := needV_one h
  have hok : okB p = true := by
    have h9 := h1
    unfold plainI floorI at h9
    simp only [Bool.and_eq_true] at h9
    exact h9.1.1
  have hn1 := okB_rooms1 hok
  rw [plainI_plain] at h1
  have hp := plain_plan h1
  have hN := plan_named hp
  obtain ⟨u0, u1⟩ := plan_up hp
  have hr := hN.rooms
  obtain ⟨s0, s1⟩ := same_all hN.hg (n := (rP p).length) (by omega) (fun i j hi hj => hN.cell hi hj) gP_room
  rw [w0_read]
  exact ⟨(least_heaviest s0 u0 h2 hn1 h3).symm, (least_heaviest s1 u1 h2 hn1 h3).symm⟩
end Fw
end Go.Proofs.YtcglmbijpjhbmaaGreat

/-! Arguments of laws as plain data. -/
namespace Go.Proofs.YtcglmbijpjhbmaaGreat
namespace Fw
open Go Go.ChangeShapes Go.WideShapes Go.ChangeAt Go.RowKit

set_option maxRecDepth 100000 in
theorem slice_at {W : World} {base : Nat} {t e : TypeId} {a : Addr} {len cap : Nat} (ht : Tryz.prog.underlying t = some (.slice e)) (hval : Value.okWide Tryz.prog W .any base t (.slice (some a) len cap)) : a.spot = none ∧ a.block < W.heap.size := by
  simp only [Value.okWide, ht, Cell.okWide, Cell.ok] at hval
  obtain ⟨-, -, -, hsp, row, cells, hsh, -⟩ := hval
  refine ⟨hsp, ?_⟩
  unfold World.shape? at hsh
  rcases Nat.lt_or_ge a.block W.heap.size with h | h
  · exact h
  · rw [Array.getElem?_eq_none h] at hsh; cases hsh
end Fw
end Go.Proofs.YtcglmbijpjhbmaaGreat

/-! A slice of bytes as an argument: plain data. -/
namespace Go.Proofs.YtcglmbijpjhbmaaGreat
namespace Fw
open Go Go.ChangeShapes Go.WideShapes Go.ChangeAt Go.RowKit

set_option maxRecDepth 100000 in
theorem vi_bytes {H : Type} {enc : TypeId × Value → H} {W : World} {base : Nat} {v : Value} {d : DataW H} {ps : List MemPlace} (hval : Value.okWide Tryz.prog W .any base 22 v) (h : DataW.Trod enc Tryz.prog W 0 (fun _ => true) true 22 v d ps) :
    ∃ p : Txt, VI W.heap (fun b => b < W.heap.size) (.sl (p.map eB) p.length) v ∧ p.length ≤ 9223372036854775807 := by
  obtain ⟨a0, len, cap, rfl⟩ := okWide_slice Tryz.underlying22 hval
  obtain ⟨fuel, hf⟩ := h
  rcases open_ints Tryz.underlying22 Tryz.underlying5 (by kernel_rfl) hf with ⟨hcs, hx⟩ | ⟨a, len', cap', zs, hcs, -, hl, hm, hz, hx, hcell, hwf⟩
  · simp [Value.cells] at hcs
    obtain ⟨rfl, rfl, rfl⟩ := hcs
    exact ⟨[], .sl0, by simp⟩
  · simp [Value.cells] at hcs
    obtain ⟨rfl, rfl, rfl⟩ := hcs
    obtain ⟨hsp, hlt⟩ := slice_at Tryz.underlying22 hval
    obtain ⟨b, off, spot⟩ := a
    simp only at hsp hlt
    subst hsp
    simp only [if_true] at hz
    have hml : maxLen ≤ 9223372036854775807 := by decide
    have hlen : ((zs.take len).map fun n : Int => UInt8.ofNat n.toNat).length = len := by simp; omega
    have hget : ∀ (i : Nat) c, ((zs.take len).map fun n : Int => UInt8.ofNat n.toNat)[i]? = some c → i < len ∧ (c.toNat : Int) = zs.getD i 0 := by
      intro i c hc
      rw [List.getElem?_map, Option.map_eq_some_iff] at hc
      obtain ⟨z, hz1, rfl⟩ := hc
      have hi := len_of hz1
      simp only [List.length_take] at hi
      rw [List.getElem?_take_of_lt (by omega)] at hz1
      refine ⟨by omega, ?_⟩
      rw [List.getD_eq_getElem?_getD, hz1, Option.getD_some]
      have hw := hwf z (List.mem_of_getElem? hz1)
      have hz8 : 0 ≤ z ∧ z < 256 := by
        have e : IntKind.u8.min ≤ z ∧ z ≤ IntKind.u8.max := by simpa [Lit.wf] using hw
        have e1 : IntKind.u8.min = 0 := by decide
        have e2 : IntKind.u8.max = 255 := by decide
        omega
      have e3 : (UInt8.ofNat z.toNat).toNat = z.toNat % 256 := rfl
      rw [e3]
      omega
    refine ⟨(zs.take len).map fun n : Int => UInt8.ofNat n.toNat, ?_, by rw [hlen]; omega⟩
    rw [hlen]
    refine .sl _ _ b off cap (fun i => .int .u8 (zs.getD i 0)) (fun _ => hlt) hl (fun i q hq => ?_) (fun i q hq => ?_)
    · rw [List.getElem?_map, Option.map_eq_some_iff] at hq
      obtain ⟨c, hc, rfl⟩ := hq
      obtain ⟨hi, -⟩ := hget i c hc
      refine ⟨rfl, ?_⟩
      rw [← cellH_eq]
      have := hcell i (by omega)
      rwa [add_lit] at this
    · rw [List.getElem?_map, Option.map_eq_some_iff] at hq
      obtain ⟨c, hc, rfl⟩ := hq
      obtain ⟨-, e⟩ := hget i c hc
      show VI _ _ (.int .u8 (c.toNat : Int)) _
      rw [e]
      exact .int _ _
end Fw
end Go.Proofs.YtcglmbijpjhbmaaGreat

/-! The framework, part z: a region in which the bytes of a text become a new row that is written later. -/
namespace Go.Proofs.YtcglmbijpjhbmaaGreat
namespace Fw
open Go

section
variable {P : Program} {T : Tab} {F : Nat → Prop} {G : GSt} {w : World} {e : Env} {a : Act} {F0 : Nat → Prop} {G0 : GSt} {w0 : World} {N : Nat}

theorem conv_new (hT : TabOk P T) (hi : Inv F G w) (he : EnvR w.heap F G e a) {o : Oper} {s d el : TypeId} {x : Operand} {str : List UInt8} (hop : o.op = .convert s d x) (hs : (T s).kd = .str) (hd : (T d).kd = .slice el) (hu8 : (T el).kd = .int .u8)
    (hx0 : e.ev x = .str str) (hlen63 : str.length ≤ 1048576) {K : PV → Store → Prop} (h : K (.loc G.er.obs.length G.er.tick 0 str.length) (G.er.push el 1 (str.map eB))) {next : Act → World → Prop} {Q : Exit → Act → World → Prop}
    (hk : Goes F G w K fun cv w' => next (a.put o.dst cv) w') : o.wp P a w next Q := by
  have hx := he.ev x
  rw [hx0] at hx
  obtain ⟨b, ex, hb⟩ := hx.str
  have hr : (execOp a.eval o).run P w = .ok (.value (.slice (some ⟨w.heap.size, 0, none⟩) b.size (grownCap w b.size 0 el))) (Lib.bytesWorld w el b) := by
    simp only [execOp, hop, ex]
    rw [Sem.run_bind, Lib.run_convert_string_bytes w s d el b (kd_str hT hs) (kd_slice hT hd) (kd_int hT hu8)]
    rfl
  have hlen : str.length = b.size := by rw [← hb]; simp
  have hsz : (Lib.bytesWorld w el b).heap.size = w.heap.size + 1 := Lib.bytesWorld_size w el b
  have hge := grownCap_ge w b.size 0 el
  have hcs : (Lib.bytesCells w el b).size = grownCap w b.size 0 el := by
    simp [Lib.bytesCells]; omega
  have hpush : (Lib.bytesWorld w el b).heap = w.heap.push (.cells (Lib.bytesCells w el b) el ((Lib.bytesCells w el b).size, (Lib.bytesCells w el b).size + 1)) := by
    apply Array.ext_getElem?
    intro j
    rw [Array.getElem?_push]
    by_cases hj : j = w.heap.size
    · subst hj; rw [if_pos rfl]; exact Lib.bytesWorld_at_new w el b
    · rw [if_neg hj]
      by_cases hj2 : j < w.heap.size
      · exact Lib.bytesWorld_at_old w el b j hj2
      · rw [Array.getElem?_eq_none (by omega), Array.getElem?_eq_none (by omega)]
  obtain ⟨k1, k2⟩ := push_obj hi (.arr G.tick el 1 (str.map eB)) (Lib.bytesCells w el b).size (Lib.bytesWorld w el b) (w.drawn + 1) rfl ⟨_, hpush⟩ rfl
    ⟨_, ⟨_, Lib.bytesWorld_at_new w el b, .inr (Nat.le_refl _)⟩, rfl, by show (str.map eB).length ≤ (Lib.bytesCells w el b).size; rw [List.length_map, hcs]; omega, fun i p hp => by
      have hil : i < str.length := by have := (List.getElem?_eq_some_iff.1 hp).1; simpa using this
      rw [List.getElem?_map, List.getElem?_eq_getElem hil] at hp
      cases hp
      refine ⟨rfl, .int .u8 (str[i].toNat : Int), ?_, .imm _ _ (.int _ _)⟩
      have := Lib.bytesWorld_cell w el b i (by omega)
      simp only [World.cell?, Lib.bytesWorld_at_new, Option.isSome_none, Bool.false_eq_true, if_false] at this
      rw [this, hb, List.getD_eq_getElem?_getD, List.getElem?_eq_getElem hil]
      rfl⟩
  unfold Oper.wp
  rw [hr]
  refine hk (.loc G.er.obs.length G.er.tick 0 str.length) _ _ _ _ (by rw [er_push]; exact h) k1 k2 ?_
  rw [hlen]
  exact new_loc (et := el) (sz := 1) (cells := str.map eB) (l := ⟨w.heap.size, (Lib.bytesCells w el b).size⟩) _ _ _ (by simp) (Nat.lt_succ_self _) rfl hge (grownCap_le_maxLen w _ _ _ (by unfold maxLen; omega)) (by rw [Nat.mul_one]; exact hcs.symm)

/-- Operations in order; the one at place k turns a text into a new row of bytes. -/
def pOpsT (P : Program) (T : Tab) (ops : Array Oper) (Q : Env → Store → Prop) : Nat → List Oper → Env → Store → Prop
  | _, [], e, S => Q e S
  | 0, o :: l, e, S => ∃ (s d el : TypeId) (x : Operand) (str : List UInt8), o.guard = none ∧ o.op = .convert s d x ∧ (T s).kd = .str ∧ (T d).kd = .slice el ∧ (T el).kd = .int .u8 ∧ e.ev x = .str str ∧ str.length ≤ 1048576 ∧
      pOps P T ops Q l (e.put o.dst (.loc S.obs.length S.tick 0 str.length)) (S.push el 1 (str.map eB))
  | k + 1, o :: l, e, S => o.guard = none ∧ pOp P T e S o.op fun v S' => pOpsT P T ops Q k l (e.put o.dst v) S'
theorem pOpsT_sound (hT : TabOk P T) {ops : Array Oper} {Q : Env → Store → Prop} : ∀ (k : Nat) (l : List Oper) {e : Env} {F : Nat → Prop} {G : GSt} {a : Act} {w : World}, pOpsT P T ops Q k l e G.er → Inv F G w → EnvR w.heap F G e a →
    Next F0 G0 w0 F G w → a.tmps.size = N → a.defers = [] → (∀ o ∈ l, ∀ d, o.dst = some d → d < N) → wpList P ops (Sto F0 G0 w0 N (Nrm Q)) l a w
  | _, [], e, F, G, a, w, h, hi, he, hn, hs, hd, _ => by
    have h' : Q e G.er := by unfold pOpsT at h; exact h
    exact ⟨e, F, G, h', hi, he, hn, hs, hd⟩
  | 0, o :: l, e, F, G, a, w, h, hi, he, hn, hs, hd, hdst => by
    have ho : ∀ t, o.dst = some t → t < a.tmps.size := fun t ht => by rw [hs]; exact hdst o (by simp) t ht
    have hl : ∀ o ∈ l, ∀ d, o.dst = some d → d < N := fun o' h' => hdst o' (by simp [h'])
    unfold pOpsT at h
    obtain ⟨s, d, el, x, str, hg, hop, q1, q2, q3, q4, q5, h⟩ := h
    unfold wpList
    have hw : Region.wanted o (yielded ops a.tmps) = true := by unfold Region.wanted; rw [hg]
    rw [if_pos hw]
    refine .inl (conv_new hT hi he hop q1 q2 q3 q4 q5 (K := fun v S' => v = .loc G.er.obs.length G.er.tick 0 str.length ∧ S' = G.er.push el 1 (str.map eB)) ⟨rfl, rfl⟩ ?_)
    rintro v cv F' G' w' ⟨rfl, hE⟩ i1 i2 i3
    refine pOps_sound hT l (by rw [hE]; exact h) i1 ((he.next hi i2).put _ ho i3) (hn.trans i2) (by rw [put_size]; exact hs) (by rw [put_defers']; exact hd) hl
  | k + 1, o :: l, e, F, G, a, w, h, hi, he, hn, hs, hd, hdst => by
    have ho : ∀ t, o.dst = some t → t < a.tmps.size := fun t ht => by rw [hs]; exact hdst o (by simp) t ht
    have hl : ∀ o ∈ l, ∀ d, o.dst = some d → d < N := fun o' h' => hdst o' (by simp [h'])
    unfold pOpsT at h
    obtain ⟨hg, h⟩ := h
    unfold wpList
    have hw : Region.wanted o (yielded ops a.tmps) = true := by unfold Region.wanted; rw [hg]
    rw [if_pos hw]
    refine .inl (op_sound hT hi he h ?_)
    intro v cv F' G' w' hK i1 i2 i3
    exact pOpsT_sound hT k l hK i1 ((he.next hi i2).put _ ho i3) (hn.trans i2) (by rw [put_size]; exact hs) (by rw [put_defers']; exact hd) hl

end
section
variable {P : Program} {T : Tab} {Q : Exit → Env → Store → Prop} {e : Env} {S : Store} {b : Code}
theorem W.region_t (k : Nat) {id : Nat} {ops : Array Oper} (h : pOpsT P T ops (Q .normal) k ops.toList e S) : W P T (.region id ops false) Q e S := by
  refine ⟨?_⟩
  intro hT hm F0 G0 w0 N F G a w h3 h4 h5 h6 h7 h8 h9
  subst h3
  refine wp_mono (wp_region_list (pOpsT_sound hT k _ h h4 h5 h6 h7 h8 (dst_all h9))) ?_
  exact nrm_le
/-- The operation that makes the new row, and those behind it. -/
def ThawR (P : Program) (T : Tab) (ds : List (Option Tmp)) (o : Oper) (l : List Oper) (e : Env) (S : Store) (K : Env → Store → Prop) : Prop :=
  ∃ (s d el : TypeId) (x : Operand) (str : List UInt8), o.guard = none ∧ o.op = .convert s d x ∧ (T s).kd = .str ∧ (T d).kd = .slice el ∧ (T el).kd = .int .u8 ∧ e.ev x = .str str ∧ str.length ≤ 1048576 ∧
    eRun false P T ds l (e.put o.dst (.loc S.obs.length S.tick 0 str.length)) (S.push el 1 (str.map eB)) K
theorem pOps_mono {ops : Array Oper} {K K' : Env → Store → Prop} (h : ∀ e S, K e S → K' e S) : ∀ (l : List Oper) {e : Env} {S : Store}, pOps P T ops K l e S → pOps P T ops K' l e S
  | [], e, S, k => h e S k
  | o :: l, e, S, k => by
    unfold pOps pGuard at k ⊢
    cases hg : gdec ops o e with
    | none => rw [hg] at k; exact k.elim
    | some b =>
      rw [hg] at k
      cases b with
      | true => exact pOp_mono (fun v S' k => pOps_mono h l k) k
      | false => exact pOps_mono h l k
theorem pOps_thaw {ops : Array Oper} {K : Env → Store → Prop} {o : Oper} {l2 : List Oper} : ∀ (l1 : List Oper) {e : Env} {S : Store}, l1.all (fun o => o.guard.isNone) = true →
    pOps P T ops (fun e S => ∃ (s d el : TypeId) (x : Operand) (str : List UInt8), o.guard = none ∧ o.op = .convert s d x ∧ (T s).kd = .str ∧ (T d).kd = .slice el ∧ (T el).kd = .int .u8 ∧ e.ev x = .str str ∧ str.length ≤ 1048576 ∧
      pOps P T ops K l2 (e.put o.dst (.loc S.obs.length S.tick 0 str.length)) (S.push el 1 (str.map eB))) l1 e S → pOpsT P T ops K l1.length (l1 ++ o :: l2) e S
  | [], e, S, _, h => h
  | q :: l1, e, S, hg, h => by
    simp only [List.all_cons, Bool.and_eq_true, Option.isNone_iff_eq_none] at hg
    show q.guard = none ∧ _
    refine ⟨hg.1, ?_⟩
    unfold pOps pGuard gdec at h
    rw [hg.1] at h
    exact pOp_mono (fun v S' h => pOps_thaw l1 hg.2 h) h
theorem W.seq_thaw {id : Nat} {l1 l2 : List Oper} {o : Oper} (hg : l1.all (fun o => o.guard.isNone) = true) (h : ∀ K : Env → Store → Prop, (∀ e S, W P T b Q e S → K e S) → eRun false P T (dsts (l1 ++ o :: l2)) l1 e S fun e S => ThawR P T (dsts (l1 ++ o :: l2)) o l2 e S K) :
    W P T (.seq (.region id (l1 ++ o :: l2).toArray false) b) Q e S := by
  refine W.seq (W.region_t l1.length ?_)
  have h1 := eRun_pOps l1 e S (h _ fun _ _ h => h)
  refine pOps_thaw l1 hg (pOps_mono ?_ l1 h1)
  rintro e S ⟨s, d, el, x, str, q1, q2, q3, q4, q5, q6, q7, q8⟩
  exact ⟨s, d, el, x, str, q1, q2, q3, q4, q5, q6, q7, eRun_pOps l2 _ _ q8⟩
end
end Fw
end Go.Proofs.YtcglmbijpjhbmaaGreat

/-! Drawing: the reader, gone through. -/
namespace Go.Proofs.YtcglmbijpjhbmaaGreat
namespace Fw
open Go

abbrev eBy (l : Txt) : PV := .sl (l.map eB) l.length
theorem tmod_nn {a b : Nat} : ((a : Nat) : Int).tmod ((b : Nat) : Int) = ((a % b : Nat) : Int) := (Int.ofNat_tmod a b).symm
theorem tdiv_nn {a b : Nat} : ((a : Nat) : Int).tdiv ((b : Nat) : Int) = ((a / b : Nat) : Int) := (Int.ofNat_tdiv a b).symm
theorem w_xor {a b : Nat} (ha : a < 1099511627776) (hb : b < 1099511627776) : IntKind.i64.wrap ((BitVec.ofInt IntKind.i64.bits (a : Int) ^^^ BitVec.ofInt IntKind.i64.bits (b : Int)).toNat : Int) = ((a ^^^ b : Nat) : Int) := by
  have h1 : (BitVec.ofInt 64 (a : Int)).toNat = a := by simp [BitVec.toNat_ofInt]; omega
  have h2 : (BitVec.ofInt 64 (b : Int)).toNat = b := by simp [BitVec.toNat_ofInt]; omega
  have h3 : (BitVec.ofInt IntKind.i64.bits (a : Int) ^^^ BitVec.ofInt IntKind.i64.bits (b : Int)).toNat = a ^^^ b := by
    show (BitVec.ofInt 64 (a : Int) ^^^ BitVec.ofInt 64 (b : Int)).toNat = _
    rw [BitVec.toNat_xor, h1, h2]
  have h4 : a ^^^ b < 1099511627776 := Nat.xor_lt_two_pow (n := 40) ha hb
  rw [h3]
  exact w64 (by omega) (by omega)
theorem tdiv64 {k : Nat} : ((k : Nat) : Int).tdiv 64 = ((k / 64 : Nat) : Int) := (Int.ofNat_tdiv k 64).symm
theorem sf0 : ((64 : Int) = 0) = False := by simp
def rdO (vr : Nat) (code : Txt) (q : Nat) : Ob := .arr vr 119 2 [eBy code, .int .i64 (q : Int)]
theorem l6Open_pn {code : Txt} (hc : code.length ≤ 1048576) : PN Tryz.prog 96 [eBy code] (.ref 0 0 0) [rdO 0 (code.take 2000) 0] true := by
  refine PN.of ⟨Tryz.func96, by kernel_rfl, rfl, by kernel_rfl⟩ tabOk mixed (by show 1 ≤ Tryz.f96.ntmps; decide) ?_
  refine W.seq_region fun K hK => ?_
  simp (disch := omega) only [↓RU, RV, RH, ↓reduceIte, Nat.reduceEqDiff, reduceCtorEq, if_pos, ↓RS, RG, Nat.reduceAdd, Nat.reduceMul, Nat.reduceLeDiff]
  refine hK _ _ ?_
  clear hK K
  refine W.seq ?_
  refine W.seq_region fun K hK => ?_
  simp (disch := omega) only [↓RU, RV, RH, ↓reduceIte, Nat.reduceEqDiff, reduceCtorEq, if_pos, w64, ↓RS, RG, Nat.reduceAdd, Nat.reduceMul, Nat.reduceLeDiff, tyLuint8, tyint, tyuint8]
  refine hK _ _ ?_
  clear hK K
  refine W.cond rfl (fun h => ?_) (fun h => ?_)
  · try simp only [RL] at h
    refine W.region_k fun K hK => ?_
    simp (disch := omega) only [↓RU, RV, RH, ↓reduceIte, Nat.reduceEqDiff, reduceCtorEq, if_pos, Option.map_none, ↓RS, RG, Nat.reduceAdd, Nat.reduceMul, Nat.reduceLeDiff, tyLuint8, tyuint8]
    refine hK _ _ ?_
    clear hK K
    refine XThen.norm ?_
    refine W.seq_region fun K hK => ?_
    simp (disch := omega) only [↓RU, RV, RH, ↓reduceIte, Nat.reduceEqDiff, reduceCtorEq, if_pos, ↓RS, RG, Nat.reduceAdd, Nat.reduceMul, Nat.reduceLeDiff, tyLuint8, tyint, tyspec_l6Rd, tystruct_b_Luint8_p_int_, tyuint8]
    refine hK _ _ ?_
    clear hK K
    refine W.ret ?_
    refine BodyQ.ret rfl ?_
    have e : (code.take 2000).length = 2000 := by rw [List.length_take]; omega
    refine ⟨1, rfl, ?_⟩
    simp [Store.take, shObs, shOb, sh, rdO, eBy, e, List.map_take]
  · try simp only [RL] at h
    refine W.skip ?_
    refine XThen.norm ?_
    refine W.seq_region fun K hK => ?_
    simp (disch := omega) only [↓RU, RV, RH, ↓reduceIte, Nat.reduceEqDiff, reduceCtorEq, if_pos, ↓RS, RG, Nat.reduceAdd, Nat.reduceMul, Nat.reduceLeDiff, tyLuint8, tyint, tyspec_l6Rd, tystruct_b_Luint8_p_int_, tyuint8]
    refine hK _ _ ?_
    clear hK K
    refine W.ret ?_
    refine BodyQ.ret rfl ?_
    have e : code.take 2000 = code := List.take_of_length_le (by omega)
    refine ⟨1, rfl, ?_⟩
    simp [Store.take, shObs, shOb, sh, rdO, eBy, e]

theorem pick_ev0 {code : Txt} {q vr t : Nat} {R : List Ob} (hc : code.length ≤ 1048576) (hq : q ≤ 1000000) (n : Int) (hn : n ≤ 1000000) (hn0 : -1000000 ≤ n) : Ev Tryz.prog 117 [.ref 0 vr 0, .int .i64 n] ⟨.arr vr 119 2 [eBy code, .int .i64 (q : Int)] :: R, t⟩ fun v S => ∃ k : Nat, v = .int .i64 (k : Int) ∧ (n < 1 → k = 0) ∧ (1 ≤ n → (k : Int) < n) ∧ S = ⟨.arr vr 119 2 [eBy code, .int .i64 ((q : Int) + 1)] :: R, t⟩ := by
  refine Ev.of ⟨Tryz.func117, by kernel_rfl, rfl, by kernel_rfl⟩ tabOk mixed (by show 2 ≤ Tryz.f117.ntmps; decide) ?_
  refine W.seq_region fun K hK => ?_
  simp (disch := omega) only [↓RU, RV, RH, ↓reduceIte, Nat.reduceEqDiff, reduceCtorEq, if_pos, ↓RS, RG, Nat.reduceAdd, Nat.reduceMul, Nat.reduceLeDiff]
  refine hK _ _ ?_
  clear hK K
  refine W.seq_region fun K hK => ?_
  simp (disch := omega) only [↓RU, RV, RH, ↓reduceIte, Nat.reduceEqDiff, reduceCtorEq, if_pos, w64, ↓RS, RG, Nat.reduceAdd, Nat.reduceMul, Nat.reduceLeDiff, tyLuint8, tyint, tyspec_l6Rd, tystruct_b_Luint8_p_int_, tyuint8]
  refine hK _ _ ?_
  clear hK K
  refine W.seq ?_
  refine W.seq_region fun K hK => ?_
  by_cases hn1 : n < 1
  · skip
    have hd : decide (n < 1) = true := decide_eq_true hn1
    simp (disch := omega) only [↓RU, RV, RH, ↓reduceIte, Nat.reduceEqDiff, reduceCtorEq, if_pos, w64, ↓RS, RG, Nat.reduceAdd, Nat.reduceMul, Nat.reduceLeDiff, tyLuint8, tyint, tyspec_l6Rd, tystruct_b_Luint8_p_int_, tyuint8, hd]
    refine hK _ _ ?_
    clear hK K
    refine W.cond rfl (fun h0 => ?_) (fun h0 => ?_)
    · try simp only [RL] at h0
      refine W.seq_region fun K hK => ?_
      simp (disch := omega) only [↓RU, RV, RH, ↓reduceIte, Nat.reduceEqDiff, reduceCtorEq, if_pos, ↓RS, RG, Nat.reduceAdd, Nat.reduceMul, Nat.reduceLeDiff]
      refine hK _ _ ?_
      clear hK K
      refine W.ret ?_
      refine XThen.ret ?_
      refine BodyQ.ret rfl ?_
      exact ⟨_, 0, rfl, fun _ => rfl, fun h9 => by omega, take_all⟩
    · try simp only [RL] at h0
      exact absurd h0 (by simp)
  · skip
    have hd : decide (n < 1) = false := decide_eq_false hn1
    obtain ⟨m, rfl⟩ : ∃ m : Nat, n = m := ⟨n.toNat, by omega⟩
    simp (disch := omega) only [↓RU, RV, RH, ↓reduceIte, Nat.reduceEqDiff, reduceCtorEq, if_pos, w64, ↓RS, RG, Nat.reduceAdd, Nat.reduceMul, Nat.reduceLeDiff, tyLuint8, tyint, tyspec_l6Rd, tystruct_b_Luint8_p_int_, tyuint8, hd]
    refine hK _ _ ?_
    clear hK K
    refine W.cond rfl (fun h0 => ?_) (fun h0 => ?_)
    · try simp only [RL] at h0
      have hl0 : code.length = 0 := by simpa using h0
      refine W.seq_region fun K hK => ?_
      simp (disch := omega) only [↓RU, RV, RH, ↓reduceIte, Nat.reduceEqDiff, reduceCtorEq, if_pos, ↓RS, RG, Nat.reduceAdd, Nat.reduceMul, Nat.reduceLeDiff]
      refine hK _ _ ?_
      clear hK K
      refine W.ret ?_
      refine XThen.ret ?_
      refine BodyQ.ret rfl ?_
      exact ⟨_, 0, rfl, fun _ => rfl, fun h9 => by omega, take_all⟩
    · try simp only [RL] at h0
      have hl0 : code.length ≠ 0 := by intro h9; rw [h9] at h0; simp at h0
      obtain ⟨L, hL⟩ : ∃ L : Nat, code.length = L := ⟨_, rfl⟩
      have hLi : ((L : Int) = 0) = False := by simp; omega
      have hmi : ((m : Int) = 0) = False := by simp; omega
      rw [hL] at hl0 hc
      refine W.skip ?_
      refine XThen.norm ?_
      refine W.seq_region fun K hK => ?_
      simp (disch := omega) only [↓RU, RV, RH, ↓reduceIte, Nat.reduceEqDiff, reduceCtorEq, if_pos, w64, ↓RS, RG, Nat.reduceAdd, Nat.reduceMul, Nat.reduceLeDiff, tyLuint8, tyint, tyspec_l6Rd, tystruct_b_Luint8_p_int_, tyuint8]
      refine hK _ _ ?_
      clear hK K
      simp only [show ((q : Int) + 1 - 1) = (q : Int) from by omega]
      refine W.seq ?_
      refine W.seq_region fun K hK => ?_
      simp (disch := omega) only [↓RU, RV, RH, ↓reduceIte, Nat.reduceEqDiff, reduceCtorEq, if_pos, w64, ↓RS, RG, Nat.reduceAdd, Nat.reduceMul, Nat.reduceLeDiff, tyLuint8, tyint, tyspec_l6Rd, tystruct_b_Luint8_p_int_, tyuint8, hL]
      refine hK _ _ ?_
      clear hK K
      refine W.cond rfl (fun h1 => ?_) (fun h1 => ?_)
      · try simp only [RL] at h1
        obtain ⟨c, hcq, -⟩ := get_of (show q < code.length by omega)
        have hc8 := c.toNat_lt
        refine W.seq_region fun K hK => ?_
        simp (disch := omega) only [↓RU, RV, RH, ↓reduceIte, Nat.reduceEqDiff, reduceCtorEq, if_pos, w64, w64, ↓RS, RG, Nat.reduceAdd, Nat.reduceMul, Nat.reduceLeDiff, tyLuint8, tyint, tyspec_l6Rd, tystruct_b_Luint8_p_int_, tyuint8, hcq, hmi, tmod_nn]
        refine hK _ _ ?_
        clear hK K
        refine W.ret ?_
        refine XThen.ret ?_
        refine BodyQ.ret rfl ?_
        exact ⟨_, _, rfl, fun h9 => by omega, fun _ => by have := Nat.mod_lt c.toNat (show 0 < m by omega); omega, take_all⟩
      · try simp only [RL] at h1
        obtain ⟨c1, hc1, -⟩ := get_of (show q % L < code.length by rw [hL]; exact Nat.mod_lt _ (by omega))
        obtain ⟨c2, hc2, -⟩ := get_of (show (q * 7 + 3) % L < code.length by rw [hL]; exact Nat.mod_lt _ (by omega))
        have hb1 := c1.toNat_lt
        have hb2 := c2.toNat_lt
        have hq7 : (q : Int) * 7 + 3 = ((q * 7 + 3 : Nat) : Int) := by omega
        obtain ⟨d, hd⟩ : ∃ d, q / L = d := ⟨_, rfl⟩
        have hqL : d ≤ q := hd ▸ Nat.div_le_self _ _
        have hml1 := Nat.mod_lt q (show 0 < L by omega)
        have hml2 := Nat.mod_lt (q * 7 + 3) (show 0 < L by omega)
        refine W.skip ?_
        refine XThen.norm ?_
        refine W.seq_draw (by kernel_rfl) fun K hK => ?_
        simp (disch := omega) only [↓RU, RV, RH, ↓reduceIte, Nat.reduceEqDiff, reduceCtorEq, if_pos, w64, w64, ↓RS, RG, Nat.reduceAdd, Nat.reduceMul, Nat.reduceLeDiff, tyLuint8, tyint, tyspec_l6Rd, tystruct_b_Luint8_p_int_, tyuint8, hL, hLi, tmod_nn, tdiv_nn, hc1, hc2, hq7, hd]
        refine hK _ _ ?_
        clear hK K
        obtain ⟨Y, hY⟩ : ∃ Y : Nat, (c1.toNat : Int) * 131 + (c2.toNat : Int) * 1117 + (q : Int) * 29 + (d : Int) * 53 = Y := ⟨c1.toNat * 131 + c2.toNat * 1117 + q * 29 + d * 53, by omega⟩
        have hYb : Y < 1099511627776 := by omega
        have hYd : Y / 64 < 1099511627776 := by omega
        simp only [hY]
        refine W.seq_region fun K hK => ?_
        simp (disch := omega) only [↓RU, RV, RH, ↓reduceIte, Nat.reduceEqDiff, reduceCtorEq, if_pos, w64, ↓RS, RG, Nat.reduceAdd, Nat.reduceMul, Nat.reduceLeDiff, tyint, sf0, tdiv64, w_xor hYb hYd]
        refine hK _ _ ?_
        clear hK K
        refine W.seq_region fun K hK => ?_
        simp (disch := omega) only [↓RU, RV, RH, ↓reduceIte, Nat.reduceEqDiff, reduceCtorEq, if_pos, w64, ↓RS, RG, Nat.reduceAdd, Nat.reduceMul, Nat.reduceLeDiff, tyint, hmi, tmod_nn]
        refine hK _ _ ?_
        clear hK K
        refine W.ret ?_
        refine BodyQ.ret rfl ?_
        exact ⟨_, _, rfl, fun h9 => by omega, fun _ => by have := Nat.mod_lt (Y ^^^ Y / 64) (show 0 < m by omega); omega, take_all⟩

end Fw
end Go.Proofs.YtcglmbijpjhbmaaGreat

/-! Plans in which no four rooms meet: two orders of rooms go on without end, and each two rooms are in one. -/
namespace Go.Proofs.YtcglmbijpjhbmaaGreat
namespace Fw
open Go

/-- Rooms are rectangles, and no four meet. -/
structure Pl (c : Nat → Nat → Nat) (H W : Nat) : Prop where
  rect : ∀ {i j i' j' : Nat} (k l : Nat), i < H → i' < H → j < W → j' < W → c i j = c i' j' → min i i' ≤ k → k ≤ max i i' → min j j' ≤ l → l ≤ max j j' → c k l = c i j
  plain : ∀ {i j : Nat}, i + 1 < H → j + 1 < W → c i j ≠ c i (j + 1) → c (i + 1) j ≠ c (i + 1) (j + 1) → c i j ≠ c (i + 1) j → c i (j + 1) = c (i + 1) (j + 1)
/-- Just left of: on both sides of one upright wall. -/
def DL (c : Nat → Nat → Nat) (H W a b : Nat) : Prop := ∃ j i1 i2, j + 1 < W ∧ i1 < H ∧ i2 < H ∧ (∀ r, min i1 i2 ≤ r → r ≤ max i1 i2 → c r j ≠ c r (j + 1)) ∧ a = c i1 j ∧ b = c i2 (j + 1)
/-- Just above. -/
def DU (c : Nat → Nat → Nat) (H W a b : Nat) : Prop := ∃ i j1 j2, i + 1 < H ∧ j1 < W ∧ j2 < W ∧ (∀ k, min j1 j2 ≤ k → k ≤ max j1 j2 → c i k ≠ c (i + 1) k) ∧ a = c i j1 ∧ b = c (i + 1) j2

section
variable {c : Nat → Nat → Nat} {H W : Nat}

def tr (c : Nat → Nat → Nat) (i j : Nat) : Nat := c j i
theorem Pl.ex (h : Pl c H W) : Pl (tr c) W H :=
  ⟨fun k l h1 h2 h3 h4 h5 h6 h7 h8 h9 => h.rect l k h3 h4 h1 h2 h5 h8 h9 h6 h7, fun {i j} h1 h2 h3 h4 h5 => by
    unfold Fw.tr at *
    by_cases q : c j i = c j (i + 1)
    · exact absurd q h5
    · by_cases q2 : c (j + 1) i = c (j + 1) (i + 1)
      · exact q2
      · exact absurd (h.plain (i := j) (j := i) h2 h1 h5 q2 h3) h4⟩
theorem DL.ex {a b : Nat} (h : DL (tr c) W H a b) : DU c H W a b := h
theorem DU.ex {a b : Nat} (h : DU (tr c) W H a b) : DL c H W a b := h
/-- Going on. -/
inductive TC (R : Nat → Nat → Prop) : Nat → Nat → Prop
  | one {a b : Nat} : R a b → TC R a b
  | tail {a b d : Nat} : TC R a b → R b d → TC R a d
theorem TC.mono {R S : Nat → Nat → Prop} (h : ∀ a b, R a b → S a b) {a b : Nat} (k : TC R a b) : TC S a b := by
  induction k with
  | one k => exact .one (h _ _ k)
  | tail _ k ih => exact .tail ih (h _ _ k)
theorem TC.trans {R : Nat → Nat → Prop} {a b d : Nat} (h : TC R a b) (k : TC R b d) : TC R a d := by
  induction k with
  | one k => exact .tail h k
  | tail _ k ih => exact .tail ih k
end
end Fw
end Go.Proofs.YtcglmbijpjhbmaaGreat
