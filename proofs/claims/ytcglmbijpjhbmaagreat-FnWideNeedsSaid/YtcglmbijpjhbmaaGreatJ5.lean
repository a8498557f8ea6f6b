/- Least widths are between one need and all: the law FnWideNeeds answers true for all codes. No condition. -/
import Derived.Test.YtcglmbijpjhbmaaGreatJ4
set_option linter.all false
namespace Go.Proofs.YtcglmbijpjhbmaaGreat
namespace Fw
open Go
open Nat (reduceEqDiff reduceLeDiff reduceAdd reduceMul)
theorem set_eB {l : Txt} {a : Nat} {c : UInt8} : (l.map eB).set a (.int .u8 (c.toNat : Int)) = (l.set a c).map eB := by rw [List.map_set]
theorem bytesOf_eB (l : Txt) : bytesOf (l.map eB) = some l := bytesOf_map l
theorem l1None_pc  : PC Tryz.prog 185 [] (.tup [eStrs [], .bool false]) true := by
 refine PC.of ⟨Tryz.func185, by kernel_rfl, rfl, by kernel_rfl⟩ tabOk mixed (by show 0 ≤ Tryz.f185.ntmps; decide) ?_
 refine W.seq_region fun K hK => ?_
 simp (disch := omega) only [↓RU, RV, RH, ↓reduceIte, reduceEqDiff, reduceCtorEq, if_pos, ↓RS, RG, reduceAdd, reduceMul, reduceLeDiff]
 refine hK _ _ ?_;clear hK K
 refine W.seq_region fun K hK => ?_
 simp (disch := omega) only [↓RU, RV, RH, ↓reduceIte, reduceEqDiff, reduceCtorEq, if_pos, ↓RS, RG, reduceAdd, reduceMul, reduceLeDiff, ty5, tystring]
 refine hK _ _ ?_;clear hK K
 refine W.ret ?_
 refine BodyQ.ret rfl ?_
 exact reify_tup2 (k := 9) (reify_loc (k := 8) (n := 0) rfl rfl rfl) rfl
theorem l1Put_pc {p : List Txt} (hs : Sm p) {tp lf hg wd : Nat} {c : UInt8} (h1 : tp + hg ≤ p.length) (h2 : ∀ row ∈ p, lf + wd ≤ row.length) : PC Tryz.prog 187 [eStrs p, .int .i64 tp, .int .i64 lf, .int .i64 hg, .int .i64 wd, eB c] (eStrs (putTo p tp lf wd c (tp + hg))) true := by
 obtain ⟨hs1, hs2⟩ := hs
 refine PC.of ⟨Tryz.func187, by kernel_rfl, rfl, by kernel_rfl⟩ tabOk mixed (by show 6 ≤ Tryz.f187.ntmps; decide) ?_
 refine W.seq_region fun K hK => ?_
 simp (disch := omega) only [↓RU, RV, RH, ↓reduceIte, reduceEqDiff, reduceCtorEq, if_pos, ↓RS, RG, reduceAdd, reduceMul, reduceLeDiff]
 refine hK _ _ ?_;clear hK K
 refine W.seq_region fun K hK => ?_
 simp (disch := omega) only [↓RU, RV, RH, ↓reduceIte, reduceEqDiff, reduceCtorEq, if_pos, ↓RS, RG, reduceAdd, reduceMul, reduceLeDiff, ty5, tystring]
 refine hK _ _ ?_;clear hK K
 refine W.seq ?_
 refine W.seq_region fun K hK => ?_
 simp (disch := omega) only [↓RU, RV, RH, ↓reduceIte, reduceEqDiff, reduceCtorEq, if_pos, ↓RS, RG, reduceAdd, reduceMul, reduceLeDiff]
 refine hK _ _ ?_;clear hK K
 refine W.block ?_
 refine W.loop [0, 1, 2, 3, 4, 5, 13, 14] (fun n vs S => ∃ j t v : Nat, n = hg - j ∧ j ≤ hg ∧ vs = [eStrs p, .int .i64 tp, .int .i64 lf, .int .i64 hg, .int .i64 wd, eB c, .loc 0 v 0 p.length, .int .i64 ((tp + j : Nat) : Int)] ∧ S = ⟨[.arr v 9 1 ((putTo p tp lf wd c (tp + j)).map .str)], t⟩) hg ?_ ?_
 ·refine ⟨1, 0, 2, 1, rfl, by omega, ?_, ?_⟩
  ·simp [Env.put, Env.of, argEnv]
  ·simp [take_eq, putTo_zero]
 rintro n vs S - ⟨j, t, v, rfl, h_j, rfl, rfl⟩
 refine W.seq ?_
 refine W.seq_region fun K hK => ?_
 simp (disch := omega) only [↓RU, RV, RH, ↓reduceIte, reduceEqDiff, reduceCtorEq, if_pos, w64, ↓RS, RG, reduceAdd, reduceMul, reduceLeDiff, tyint]
 refine hK _ _ ?_;clear hK K
 refine W.cond rfl (fun h => ?_) (fun h => ?_)
 ·try simp only [RL] at h
  obtain ⟨i, hi⟩ : ∃ i, tp + j = i := ⟨_, rfl⟩
  simp only [hi]
  obtain ⟨row, hrow0, hrm⟩ := get_of (show i < p.length by omega)
  have hrow := putTo_at (t := tp) (l := lf) (w := wd) (c := c) hrow0
  have hlen := putTo_len (p := p) (t := tp) (l := lf) (w := wd) (c := c) (i := i)
  have hr1 := hs2 row hrm
  have hr2 := h2 row hrm
  refine W.skip ?_
  refine XThen.norm ?_
  refine W.seq ?_
  refine W.block ?_
  refine W.seq_thaw (l1 := [_, _, _, _]) (o := _) (l2 := [_]) rfl fun K hK => ?_
  simp (disch := omega) only [↓RU, RV, RH, ↓reduceIte, reduceEqDiff, reduceCtorEq, if_pos, w64, ↓RS, RG, reduceAdd, reduceMul, reduceLeDiff, ty5, ty6, tystring, ty26, hrow, hlen]
  refine ⟨_, _, _, _, _, rfl, rfl, rfl, rfl, rfl, rfl, by omega, ?_⟩
  simp (disch := omega) only [↓RU, RV, RH, ↓reduceIte, reduceEqDiff, reduceCtorEq, if_pos, w64, ↓RS, RG, reduceAdd, reduceMul, reduceLeDiff, ty5, ty6, tystring, ty26, hrow, hlen]
  refine hK _ _ ?_;clear hK K
  refine W.seq ?_
  refine W.seq_region fun K hK => ?_
  simp (disch := omega) only [↓RU, RV, RH, ↓reduceIte, reduceEqDiff, reduceCtorEq, if_pos, ↓RS, RG, reduceAdd, reduceMul, reduceLeDiff]
  refine hK _ _ ?_;clear hK K
  refine W.block ?_
  refine W.loop [0, 1, 2, 3, 4, 5, 13, 14, 15, 16] (fun n vs S => ∃ k t2 : Nat, n = wd - k ∧ k ≤ wd ∧ vs = [eStrs p, .int .i64 tp, .int .i64 lf, .int .i64 hg, .int .i64 wd, eB c, .loc 0 v 0 p.length, .int .i64 (i : Int), .loc 1 t 0 row.length, .int .i64 ((lf + k : Nat) : Int)] ∧ S = ⟨[.arr v 9 1 ((putTo p tp lf wd c i).map .str), .arr t 5 1 ((rowPut row lf c (lf + k)).map eB)], t2⟩) wd ?_ ?_
  ·refine ⟨2, 0, t + 1, rfl, by omega, ?_, ?_⟩
   ·simp [Env.put, Env.of]
   ·simp [take_eq, rowPut_zero]
  rintro n vs S - ⟨k, t2, rfl, h_k, rfl, rfl⟩
  refine W.seq ?_
  refine W.seq_region fun K hK => ?_
  simp (disch := omega) only [↓RU, RV, RH, ↓reduceIte, reduceEqDiff, reduceCtorEq, if_pos, w64, ↓RS, RG, reduceAdd, reduceMul, reduceLeDiff, tyint]
  refine hK _ _ ?_;clear hK K
  refine W.cond rfl (fun h3 => ?_) (fun h3 => ?_)
  ·try simp only [RL] at h3
   have hrl := rowPut_len (row := row) (l := lf) (k := lf + k) (c := c)
   refine W.skip ?_
   refine XThen.norm ?_
   refine W.seq ?_
   refine W.block ?_
   refine W.region_k fun K hK => ?_
   simp (disch := omega) only [↓RU, RV, RH, ↓reduceIte, reduceEqDiff, reduceCtorEq, if_pos, ↓RS, RG, reduceAdd, reduceMul, reduceLeDiff, ty6, ty26, hrl, set_spl, set_eB]
   refine hK _ _ ?_;clear hK K
   refine XBlock.norm ?_
   refine XThen.norm ?_
   refine W.region_k fun K hK => ?_
   simp (disch := omega) only [↓RU, RV, RH, ↓reduceIte, reduceEqDiff, reduceCtorEq, if_pos, w64, ↓RS, RG, reduceAdd, reduceMul, reduceLeDiff, tyint]
   refine hK _ _ ?_;clear hK K
   refine XThen.norm ?_
   refine ⟨wd - (k + 1), by omega, 2, k + 1, t2, rfl, by omega, ?_, ?_⟩
   ·simp [Env.put, Env.of]; omega
   ·simp only [take_eq]; rw [rowPut_succ (by omega) (by omega)]; rfl
  ·try simp only [RL] at h3
   obtain rfl : k = wd := by omega
   have hrl := rowPut_len (row := row) (l := lf) (k := lf + k) (c := c)
   have htk : ((rowPut row lf c (lf + k)).map eB).take row.length = (rowPut row lf c (lf + k)).map eB := List.take_of_length_le (by simp [hrl])
   refine W.exit ?_
   refine XThen.exit ?_
   refine XThen.exit ?_
   refine XBlock.hit ?_
   refine XThen.norm ?_
   refine W.region_k fun K hK => ?_
   simp (disch := omega) only [↓RU, RV, RH, ↓reduceIte, reduceEqDiff, reduceCtorEq, if_pos, w64, ↓RS, RG, reduceAdd, reduceMul, reduceLeDiff, ty5, ty6, tystring, ty26, hrl, htk, bytesOf_eB, hlen, set_spl, set_str, cells_str, List.length_cons, List.length_nil, Option.map_some]
   refine hK _ _ ?_;clear hK K
   refine XBlock.norm ?_
   refine XThen.norm ?_
   refine W.region_k fun K hK => ?_
   simp (disch := omega) only [↓RU, RV, RH, ↓reduceIte, reduceEqDiff, reduceCtorEq, if_pos, w64, ↓RS, RG, reduceAdd, reduceMul, reduceLeDiff, tyint]
   refine hK _ _ ?_;clear hK K
   refine XThen.norm ?_
   refine ⟨hg - (j + 1), by omega, 1, j + 1, t2, v, rfl, by omega, ?_, ?_⟩
   ·subst hi; simp [Env.put, Env.of]; omega
   ·subst hi; simp only [take_eq, List.take_succ_cons, List.take_zero]; rw [putTo_succ (by omega) hrow0]; rfl
 ·try simp only [RL] at h
  refine W.exit ?_
  refine XThen.exit ?_
  refine XThen.exit ?_
  refine XBlock.hit ?_
  refine XThen.norm ?_
  refine W.seq_region fun K hK => ?_
  simp (disch := omega) only [↓RU, RV, RH, ↓reduceIte, reduceEqDiff, reduceCtorEq, if_pos, ↓RS, RG, reduceAdd, reduceMul, reduceLeDiff]
  refine hK _ _ ?_;clear hK K
  refine W.ret ?_
  refine BodyQ.ret rfl ?_
  obtain rfl : j = hg := by omega
  exact (reify_loc (k := 9) rfl (by simp [putTo_len]) (mapM_str _)).trans (by simp [putTo_len])
theorem l1Done_pc {p : List Txt} (hs : Sm p) : PC Tryz.prog 186 [eStrs p] (.tup [eStrs (doneP p).1, .bool (doneP p).2]) false := by
 refine PC.of ⟨Tryz.func186, by kernel_rfl, rfl, by kernel_rfl⟩ tabOk mixed (by show 1 ≤ Tryz.f186.ntmps; decide) ?_
 refine W.seq_region fun K hK => ?_
 simp (disch := omega) only [↓RU, RV, RH, ↓reduceIte, reduceEqDiff, reduceCtorEq, if_pos, ↓RS, RG, reduceAdd, reduceMul, reduceLeDiff]
 refine hK _ _ ?_;clear hK K
 refine W.seq ?_
 refine W.seq_region fun K hK => ?_
 rcases hgg : (gridB p, planB (names p)) with ⟨_ | _, _ | _⟩
 ·skip
  simp only [Prod.mk.injEq] at hgg
  obtain ⟨hg1, hg2⟩ := hgg
  simp (disch := omega) only [↓RU, RV, RH, ↓reduceIte, reduceEqDiff, reduceCtorEq, if_pos, List.append_nil, ↓RS, RG, reduceAdd, reduceMul, reduceLeDiff, hg1, hg2]
  refine CallR.pc (l1Grid_pc hs) rfl (.inl rfl) ?_
  simp (disch := omega) only [↓RU, RV, RH, ↓reduceIte, reduceEqDiff, reduceCtorEq, if_pos, List.append_nil, ↓RS, RG, reduceAdd, reduceMul, reduceLeDiff, hg1, hg2]
  refine hK _ _ ?_;clear hK K
  refine W.cond rfl (fun h => ?_) (fun h => ?_)
  ·try simp only [RL] at h
   refine W.seq_region fun K hK => ?_
   simp (disch := omega) only [↓RU, RV, RH, ↓reduceIte, reduceEqDiff, reduceCtorEq, if_pos, List.append_nil, ↓RS, RG, reduceAdd, reduceMul, reduceLeDiff]
   refine CallR.pc (l1None_pc) rfl (.inl rfl) ?_
   simp (disch := omega) only [↓RU, RV, RH, ↓reduceIte, reduceEqDiff, reduceCtorEq, if_pos, List.append_nil, ↓RS, RG, reduceAdd, reduceMul, reduceLeDiff]
   refine hK _ _ ?_;clear hK K
   refine W.ret ?_
   refine XThen.ret ?_
   refine BodyQ.ret rfl ?_
   rw [show doneP p = ([], false) by unfold doneP; rw [hg1]; rfl]
   rfl
  ·try simp only [RL] at h
   exact absurd h (by simp)
 ·skip
  simp only [Prod.mk.injEq] at hgg
  obtain ⟨hg1, hg2⟩ := hgg
  simp (disch := omega) only [↓RU, RV, RH, ↓reduceIte, reduceEqDiff, reduceCtorEq, if_pos, List.append_nil, ↓RS, RG, reduceAdd, reduceMul, reduceLeDiff, hg1, hg2]
  refine CallR.pc (l1Grid_pc hs) rfl (.inl rfl) ?_
  simp (disch := omega) only [↓RU, RV, RH, ↓reduceIte, reduceEqDiff, reduceCtorEq, if_pos, List.append_nil, ↓RS, RG, reduceAdd, reduceMul, reduceLeDiff, hg1, hg2]
  refine hK _ _ ?_;clear hK K
  refine W.cond rfl (fun h => ?_) (fun h => ?_)
  ·try simp only [RL] at h
   refine W.seq_region fun K hK => ?_
   simp (disch := omega) only [↓RU, RV, RH, ↓reduceIte, reduceEqDiff, reduceCtorEq, if_pos, List.append_nil, ↓RS, RG, reduceAdd, reduceMul, reduceLeDiff]
   refine CallR.pc (l1None_pc) rfl (.inl rfl) ?_
   simp (disch := omega) only [↓RU, RV, RH, ↓reduceIte, reduceEqDiff, reduceCtorEq, if_pos, List.append_nil, ↓RS, RG, reduceAdd, reduceMul, reduceLeDiff]
   refine hK _ _ ?_;clear hK K
   refine W.ret ?_
   refine XThen.ret ?_
   refine BodyQ.ret rfl ?_
   rw [show doneP p = ([], false) by unfold doneP; rw [hg1]; rfl]
   rfl
  ·try simp only [RL] at h
   exact absurd h (by simp)
 ·skip
  simp only [Prod.mk.injEq] at hgg
  obtain ⟨hg1, hg2⟩ := hgg
  simp (disch := omega) only [↓RU, RV, RH, ↓reduceIte, reduceEqDiff, reduceCtorEq, if_pos, List.append_nil, ↓RS, RG, reduceAdd, reduceMul, reduceLeDiff, hg1, hg2]
  refine CallR.pc (l1Grid_pc hs) rfl (.inl rfl) ?_
  simp (disch := omega) only [↓RU, RV, RH, ↓reduceIte, reduceEqDiff, reduceCtorEq, if_pos, List.append_nil, ↓RS, RG, reduceAdd, reduceMul, reduceLeDiff, hg1, hg2]
  refine CallR.pc (l1Names_pc hs) rfl (.inl rfl) ?_
  simp (disch := omega) only [↓RU, RV, RH, ↓reduceIte, reduceEqDiff, reduceCtorEq, if_pos, List.append_nil, ↓RS, RG, reduceAdd, reduceMul, reduceLeDiff, hg1, hg2]
  refine CallR.pc (sPlanIn_pc hs.names) rfl (.inl rfl) ?_
  simp (disch := omega) only [↓RU, RV, RH, ↓reduceIte, reduceEqDiff, reduceCtorEq, if_pos, List.append_nil, ↓RS, RG, reduceAdd, reduceMul, reduceLeDiff, hg1, hg2]
  refine hK _ _ ?_;clear hK K
  refine W.cond rfl (fun h => ?_) (fun h => ?_)
  ·try simp only [RL] at h
   refine W.seq_region fun K hK => ?_
   simp (disch := omega) only [↓RU, RV, RH, ↓reduceIte, reduceEqDiff, reduceCtorEq, if_pos, List.append_nil, ↓RS, RG, reduceAdd, reduceMul, reduceLeDiff]
   refine CallR.pc (l1None_pc) rfl (.inl rfl) ?_
   simp (disch := omega) only [↓RU, RV, RH, ↓reduceIte, reduceEqDiff, reduceCtorEq, if_pos, List.append_nil, ↓RS, RG, reduceAdd, reduceMul, reduceLeDiff]
   refine hK _ _ ?_;clear hK K
   refine W.ret ?_
   refine XThen.ret ?_
   refine BodyQ.ret rfl ?_
   rw [show doneP p = ([], false) by unfold doneP; rw [hg1, hg2]; rfl]
   rfl
  ·try simp only [RL] at h
   exact absurd h (by simp)
 ·skip
  simp only [Prod.mk.injEq] at hgg
  obtain ⟨hg1, hg2⟩ := hgg
  simp (disch := omega) only [↓RU, RV, RH, ↓reduceIte, reduceEqDiff, reduceCtorEq, if_pos, List.append_nil, ↓RS, RG, reduceAdd, reduceMul, reduceLeDiff, hg1, hg2]
  refine CallR.pc (l1Grid_pc hs) rfl (.inl rfl) ?_
  simp (disch := omega) only [↓RU, RV, RH, ↓reduceIte, reduceEqDiff, reduceCtorEq, if_pos, List.append_nil, ↓RS, RG, reduceAdd, reduceMul, reduceLeDiff, hg1, hg2]
  refine CallR.pc (l1Names_pc hs) rfl (.inl rfl) ?_
  simp (disch := omega) only [↓RU, RV, RH, ↓reduceIte, reduceEqDiff, reduceCtorEq, if_pos, List.append_nil, ↓RS, RG, reduceAdd, reduceMul, reduceLeDiff, hg1, hg2]
  refine CallR.pc (sPlanIn_pc hs.names) rfl (.inl rfl) ?_
  simp (disch := omega) only [↓RU, RV, RH, ↓reduceIte, reduceEqDiff, reduceCtorEq, if_pos, List.append_nil, ↓RS, RG, reduceAdd, reduceMul, reduceLeDiff, hg1, hg2]
  refine hK _ _ ?_;clear hK K
  refine W.cond rfl (fun h => ?_) (fun h => ?_)
  ·try simp only [RL] at h
   exact absurd h (by simp)
  ·try simp only [RL] at h
   refine W.skip ?_
   refine XThen.norm ?_
   refine W.seq_region fun K hK => ?_
   simp (disch := omega) only [↓RU, RV, RH, ↓reduceIte, reduceEqDiff, reduceCtorEq, if_pos, List.append_nil, ↓RS, RG, reduceAdd, reduceMul, reduceLeDiff]
   refine CallR.pc (l1Names_pc hs) rfl (.inl rfl) ?_
   simp (disch := omega) only [↓RU, RV, RH, ↓reduceIte, reduceEqDiff, reduceCtorEq, if_pos, List.append_nil, ↓RS, RG, reduceAdd, reduceMul, reduceLeDiff]
   refine hK _ _ ?_;clear hK K
   refine W.ret ?_
   refine BodyQ.ret rfl ?_
   rw [show doneP p = (names p, true) by unfold doneP; rw [hg1, hg2]; rfl]
   rfl
theorem planSplit_pc {p : List Txt} (hs : Sm p) (room : Int) {s : Txt} (hsl : s.length ≤ 1048576) (k : Int) : PC Tryz.prog 181 [eStrs p, .int .i64 room, .str s, .int .i64 k] (.tup [eStrs (splitP p room s k).1, .bool (splitP p room s k).2]) false := by
 have hrb := l1Rooms_bound p
 refine PC.of ⟨Tryz.func181, by kernel_rfl, rfl, by kernel_rfl⟩ tabOk mixed (by show 4 ≤ Tryz.f181.ntmps; decide) ?_
 refine W.seq_region fun K hK => ?_
 simp (disch := omega) only [↓RU, RV, RH, ↓reduceIte, reduceEqDiff, reduceCtorEq, if_pos, ↓RS, RG, reduceAdd, reduceMul, reduceLeDiff]
 refine hK _ _ ?_;clear hK K
 refine W.seq ?_
 refine W.seq_region fun K hK => ?_
 simp (disch := omega) only [↓RU, RV, RH, ↓reduceIte, reduceEqDiff, reduceCtorEq, if_pos, List.append_nil, ↓RS, RG, reduceAdd, reduceMul, reduceLeDiff]
 refine CallR.pc (l1Given_pc hs room) rfl (.inl rfl) ?_
 simp (disch := omega) only [↓RU, RV, RH, ↓reduceIte, reduceEqDiff, reduceCtorEq, if_pos, List.append_nil, ↓RS, RG, reduceAdd, reduceMul, reduceLeDiff]
 refine hK _ _ ?_;clear hK K
 refine W.cond rfl (fun h0 => ?_) (fun h0 => ?_)
 ·try simp only [RL] at h0
  have hgv : (planB p && (decide (0 ≤ room) && decide (room ≤ l1Rooms p - 1))) = false := by simpa using h0
  refine W.seq_region fun K hK => ?_
  simp (disch := omega) only [↓RU, RV, RH, ↓reduceIte, reduceEqDiff, reduceCtorEq, if_pos, List.append_nil, ↓RS, RG, reduceAdd, reduceMul, reduceLeDiff]
  refine CallR.pc (l1None_pc) rfl (.inl rfl) ?_
  simp (disch := omega) only [↓RU, RV, RH, ↓reduceIte, reduceEqDiff, reduceCtorEq, if_pos, List.append_nil, ↓RS, RG, reduceAdd, reduceMul, reduceLeDiff]
  refine hK _ _ ?_;clear hK K
  refine W.ret ?_
  refine XThen.ret ?_
  refine BodyQ.ret rfl ?_
  first | (rw [splitP_g hgv]; rfl) | (rw [splitP_h hgv e1 e2 e3 e4 hB1]; rfl) | (rw [splitP_v hgv e1 e2 e3 e4 hB1 hB2]; rfl) | (rw [splitP_no hB1 hB2]; rfl)
 ·try simp only [RL] at h0
  have hgv : (planB p && (decide (0 ≤ room) && decide (room ≤ l1Rooms p - 1))) = true := by simpa using h0
  have hgv2 := hgv
  simp only [Bool.and_eq_true, decide_eq_true_eq] at hgv2
  obtain ⟨hp, hr0, hr1⟩ := hgv2
  obtain ⟨t, l, h, w, e1, e2, e3, e4, q1, q2, q3, q4⟩ := plan_box hp hr0 hr1
  obtain ⟨ps1, ps2, ps3⟩ := plan_small hp
  have hrw : ∀ row ∈ p, row.length = (hdRow p).length := fun row hr => by obtain ⟨i, hi, rfl⟩ := List.getElem_of_mem hr; exact rows_wide hp (List.getElem?_eq_getElem hi)
  have hw6 : (hdRow p).length ≤ 6 := by obtain ⟨row, hrow, hrm⟩ := get_of ps2; rw [← hrw row hrm]; exact (ps3 row hrm).2
  refine W.skip ?_
  refine XThen.norm ?_
  refine W.seq_region fun K hK => ?_
  simp (disch := omega) only [↓RU, RV, RH, ↓reduceIte, reduceEqDiff, reduceCtorEq, if_pos, List.append_nil, ↓RS, RG, reduceAdd, reduceMul, reduceLeDiff, e1, e2, e3, e4]
  refine CallR.pc (l1Room_pc hs (by omega) room) rfl (.inl rfl) ?_
  simp (disch := omega) only [↓RU, RV, RH, ↓reduceIte, reduceEqDiff, reduceCtorEq, if_pos, List.append_nil, ↓RS, RG, reduceAdd, reduceMul, reduceLeDiff, e1, e2, e3, e4]
  refine hK _ _ ?_;clear hK K
  refine W.seq ?_
  refine W.block ?_
  refine W.seq_region fun K hK => ?_
  cases hb1 : (s == ([104] : Txt))
  ·skip
   have hB1 : ((s == [104]) && (decide (1 ≤ k) && decide (k ≤ highOf p room - 1))) = false := by rw [hb1]; rfl
   simp (disch := omega) only [↓RU, RV, RH, ↓reduceIte, reduceEqDiff, reduceCtorEq, if_pos, w64, List.append_nil, ↓RS, RG, reduceAdd, reduceMul, reduceLeDiff, tyint, tystring, hb1, pStr]
   refine hK _ _ ?_;clear hK K
   refine W.cond rfl (fun h1 => ?_) (fun h1 => ?_)
   ·try simp only [RL] at h1
    exact absurd h1 (by simp)
   ·try simp only [RL] at h1
    refine W.seq_region fun K hK => ?_
    cases hb2 : (s == ([118] : Txt))
    ·skip
     have hB2 : ((s == [118]) && (decide (1 ≤ k) && decide (k ≤ wideOf p room - 1))) = false := by rw [hb2]; rfl
     simp (disch := omega) only [↓RU, RV, RH, ↓reduceIte, reduceEqDiff, reduceCtorEq, if_pos, w64, List.append_nil, ↓RS, RG, reduceAdd, reduceMul, reduceLeDiff, tyint, tystring, hb2, pStr]
     refine hK _ _ ?_;clear hK K
     refine W.cond rfl (fun h2 => ?_) (fun h2 => ?_)
     ·try simp only [RL] at h2
      exact absurd h2 (by simp)
     ·try simp only [RL] at h2
      refine W.skip ?_
      refine XBlock.norm ?_
      refine XThen.norm ?_
      refine W.seq_region fun K hK => ?_
      simp (disch := omega) only [↓RU, RV, RH, ↓reduceIte, reduceEqDiff, reduceCtorEq, if_pos, List.append_nil, ↓RS, RG, reduceAdd, reduceMul, reduceLeDiff]
      refine CallR.pc (l1None_pc) rfl (.inl rfl) ?_
      simp (disch := omega) only [↓RU, RV, RH, ↓reduceIte, reduceEqDiff, reduceCtorEq, if_pos, List.append_nil, ↓RS, RG, reduceAdd, reduceMul, reduceLeDiff]
      refine hK _ _ ?_;clear hK K
      refine W.ret ?_
      refine BodyQ.ret rfl ?_
      first | (rw [splitP_g hgv]; rfl) | (rw [splitP_h hgv e1 e2 e3 e4 hB1]; rfl) | (rw [splitP_v hgv e1 e2 e3 e4 hB1 hB2]; rfl) | (rw [splitP_no hB1 hB2]; rfl)
    ·skip
     simp (disch := omega) only [↓RU, RV, RH, ↓reduceIte, reduceEqDiff, reduceCtorEq, if_pos, w64, List.append_nil, ↓RS, RG, reduceAdd, reduceMul, reduceLeDiff, tyint, tystring, hb2, pStr]
     refine CallR.pc (l6In_pc _ _ _) rfl (.inl rfl) ?_
     simp (disch := omega) only [↓RU, RV, RH, ↓reduceIte, reduceEqDiff, reduceCtorEq, if_pos, w64, List.append_nil, ↓RS, RG, reduceAdd, reduceMul, reduceLeDiff, tyint, tystring, hb2, pStr]
     refine hK _ _ ?_;clear hK K
     refine W.cond rfl (fun h2 => ?_) (fun h2 => ?_)
     ·try simp only [RL] at h2
      have hB2 : ((s == [118]) && (decide (1 ≤ k) && decide (k ≤ wideOf p room - 1))) = true := by rw [hb2, e4]; exact h2
      have hk := h2
      simp only [Bool.and_eq_true, decide_eq_true_eq] at hk
      obtain ⟨kn, rfl⟩ : ∃ kn : Nat, k = kn := ⟨k.toNat, by omega⟩
      refine W.seq_region fun K hK => ?_
      simp (disch := omega) only [↓RU, RV, RH, ↓reduceIte, reduceEqDiff, reduceCtorEq, if_pos, w64, List.append_nil, ↓RS, RG, reduceAdd, reduceMul, reduceLeDiff, tyint, show ((l : Int) + (kn : Int)) = ((l + kn : Nat) : Int) from by omega, show ((w : Int) - (kn : Int)) = ((w - kn : Nat) : Int) from by omega]
      refine CallR.pc (l1Put_pc hs (tp := t) (lf := l + kn) (hg := h) (wd := w - kn) (c := 122) (by omega) (fun row hr => by rw [hrw row hr]; omega)) rfl (.inl rfl) ?_
      simp (disch := omega) only [↓RU, RV, RH, ↓reduceIte, reduceEqDiff, reduceCtorEq, if_pos, w64, List.append_nil, ↓RS, RG, reduceAdd, reduceMul, reduceLeDiff, tyint, show ((l : Int) + (kn : Int)) = ((l + kn : Nat) : Int) from by omega, show ((w : Int) - (kn : Int)) = ((w - kn : Nat) : Int) from by omega]
      refine CallR.pc (l1Done_pc (putTo_sm hs)) rfl (.inr rfl) ?_
      simp (disch := omega) only [↓RU, RV, RH, ↓reduceIte, reduceEqDiff, reduceCtorEq, if_pos, w64, List.append_nil, ↓RS, RG, reduceAdd, reduceMul, reduceLeDiff, tyint, show ((l : Int) + (kn : Int)) = ((l + kn : Nat) : Int) from by omega, show ((w : Int) - (kn : Int)) = ((w - kn : Nat) : Int) from by omega]
      refine hK _ _ ?_;clear hK K
      refine W.ret ?_
      refine XBlock.ret ?_
      refine XThen.ret ?_
      refine BodyQ.ret rfl ?_
      first | (rw [splitP_g hgv]; rfl) | (rw [splitP_h hgv e1 e2 e3 e4 hB1]; rfl) | (rw [splitP_v hgv e1 e2 e3 e4 hB1 hB2]; rfl) | (rw [splitP_no hB1 hB2]; rfl)
     ·try simp only [RL] at h2
      have hB2 : ((s == [118]) && (decide (1 ≤ k) && decide (k ≤ wideOf p room - 1))) = false := by rw [hb2, e4]; exact h2
      refine W.skip ?_
      refine XBlock.norm ?_
      refine XThen.norm ?_
      refine W.seq_region fun K hK => ?_
      simp (disch := omega) only [↓RU, RV, RH, ↓reduceIte, reduceEqDiff, reduceCtorEq, if_pos, List.append_nil, ↓RS, RG, reduceAdd, reduceMul, reduceLeDiff]
      refine CallR.pc (l1None_pc) rfl (.inl rfl) ?_
      simp (disch := omega) only [↓RU, RV, RH, ↓reduceIte, reduceEqDiff, reduceCtorEq, if_pos, List.append_nil, ↓RS, RG, reduceAdd, reduceMul, reduceLeDiff]
      refine hK _ _ ?_;clear hK K
      refine W.ret ?_
      refine BodyQ.ret rfl ?_
      first | (rw [splitP_g hgv]; rfl) | (rw [splitP_h hgv e1 e2 e3 e4 hB1]; rfl) | (rw [splitP_v hgv e1 e2 e3 e4 hB1 hB2]; rfl) | (rw [splitP_no hB1 hB2]; rfl)
  ·skip
   simp (disch := omega) only [↓RU, RV, RH, ↓reduceIte, reduceEqDiff, reduceCtorEq, if_pos, w64, List.append_nil, ↓RS, RG, reduceAdd, reduceMul, reduceLeDiff, tyint, tystring, hb1, pStr]
   refine CallR.pc (l6In_pc _ _ _) rfl (.inl rfl) ?_
   simp (disch := omega) only [↓RU, RV, RH, ↓reduceIte, reduceEqDiff, reduceCtorEq, if_pos, w64, List.append_nil, ↓RS, RG, reduceAdd, reduceMul, reduceLeDiff, tyint, tystring, hb1, pStr]
   refine hK _ _ ?_;clear hK K
   refine W.cond rfl (fun h1 => ?_) (fun h1 => ?_)
   ·try simp only [RL] at h1
    have hB1 : ((s == [104]) && (decide (1 ≤ k) && decide (k ≤ highOf p room - 1))) = true := by rw [hb1, e3]; exact h1
    have hk := h1
    simp only [Bool.and_eq_true, decide_eq_true_eq] at hk
    obtain ⟨kn, rfl⟩ : ∃ kn : Nat, k = kn := ⟨k.toNat, by omega⟩
    refine W.seq_region fun K hK => ?_
    simp (disch := omega) only [↓RU, RV, RH, ↓reduceIte, reduceEqDiff, reduceCtorEq, if_pos, w64, List.append_nil, ↓RS, RG, reduceAdd, reduceMul, reduceLeDiff, tyint, show ((t : Int) + (kn : Int)) = ((t + kn : Nat) : Int) from by omega, show ((h : Int) - (kn : Int)) = ((h - kn : Nat) : Int) from by omega]
    refine CallR.pc (l1Put_pc hs (tp := t + kn) (lf := l) (hg := h - kn) (wd := w) (c := 122) (by omega) (fun row hr => by rw [hrw row hr]; omega)) rfl (.inl rfl) ?_
    simp (disch := omega) only [↓RU, RV, RH, ↓reduceIte, reduceEqDiff, reduceCtorEq, if_pos, w64, List.append_nil, ↓RS, RG, reduceAdd, reduceMul, reduceLeDiff, tyint, show ((t : Int) + (kn : Int)) = ((t + kn : Nat) : Int) from by omega, show ((h : Int) - (kn : Int)) = ((h - kn : Nat) : Int) from by omega]
    refine CallR.pc (l1Done_pc (putTo_sm hs)) rfl (.inr rfl) ?_
    simp (disch := omega) only [↓RU, RV, RH, ↓reduceIte, reduceEqDiff, reduceCtorEq, if_pos, w64, List.append_nil, ↓RS, RG, reduceAdd, reduceMul, reduceLeDiff, tyint, show ((t : Int) + (kn : Int)) = ((t + kn : Nat) : Int) from by omega, show ((h : Int) - (kn : Int)) = ((h - kn : Nat) : Int) from by omega]
    refine hK _ _ ?_;clear hK K
    refine W.ret ?_
    refine XBlock.ret ?_
    refine XThen.ret ?_
    refine BodyQ.ret rfl ?_
    first | (rw [splitP_g hgv]; rfl) | (rw [splitP_h hgv e1 e2 e3 e4 hB1]; rfl) | (rw [splitP_v hgv e1 e2 e3 e4 hB1 hB2]; rfl) | (rw [splitP_no hB1 hB2]; rfl)
   ·try simp only [RL] at h1
    have hB1 : ((s == [104]) && (decide (1 ≤ k) && decide (k ≤ highOf p room - 1))) = false := by rw [hb1, e3]; exact h1
    refine W.seq_region fun K hK => ?_
    cases hb2 : (s == ([118] : Txt))
    ·skip
     have hB2 : ((s == [118]) && (decide (1 ≤ k) && decide (k ≤ wideOf p room - 1))) = false := by rw [hb2]; rfl
     simp (disch := omega) only [↓RU, RV, RH, ↓reduceIte, reduceEqDiff, reduceCtorEq, if_pos, w64, List.append_nil, ↓RS, RG, reduceAdd, reduceMul, reduceLeDiff, tyint, tystring, hb2, pStr]
     refine hK _ _ ?_;clear hK K
     refine W.cond rfl (fun h2 => ?_) (fun h2 => ?_)
     ·try simp only [RL] at h2
      exact absurd h2 (by simp)
     ·try simp only [RL] at h2
      refine W.skip ?_
      refine XBlock.norm ?_
      refine XThen.norm ?_
      refine W.seq_region fun K hK => ?_
      simp (disch := omega) only [↓RU, RV, RH, ↓reduceIte, reduceEqDiff, reduceCtorEq, if_pos, List.append_nil, ↓RS, RG, reduceAdd, reduceMul, reduceLeDiff]
      refine CallR.pc (l1None_pc) rfl (.inl rfl) ?_
      simp (disch := omega) only [↓RU, RV, RH, ↓reduceIte, reduceEqDiff, reduceCtorEq, if_pos, List.append_nil, ↓RS, RG, reduceAdd, reduceMul, reduceLeDiff]
      refine hK _ _ ?_;clear hK K
      refine W.ret ?_
      refine BodyQ.ret rfl ?_
      first | (rw [splitP_g hgv]; rfl) | (rw [splitP_h hgv e1 e2 e3 e4 hB1]; rfl) | (rw [splitP_v hgv e1 e2 e3 e4 hB1 hB2]; rfl) | (rw [splitP_no hB1 hB2]; rfl)
    ·skip
     simp (disch := omega) only [↓RU, RV, RH, ↓reduceIte, reduceEqDiff, reduceCtorEq, if_pos, w64, List.append_nil, ↓RS, RG, reduceAdd, reduceMul, reduceLeDiff, tyint, tystring, hb2, pStr]
     refine CallR.pc (l6In_pc _ _ _) rfl (.inl rfl) ?_
     simp (disch := omega) only [↓RU, RV, RH, ↓reduceIte, reduceEqDiff, reduceCtorEq, if_pos, w64, List.append_nil, ↓RS, RG, reduceAdd, reduceMul, reduceLeDiff, tyint, tystring, hb2, pStr]
     refine hK _ _ ?_;clear hK K
     refine W.cond rfl (fun h2 => ?_) (fun h2 => ?_)
     ·try simp only [RL] at h2
      have hB2 : ((s == [118]) && (decide (1 ≤ k) && decide (k ≤ wideOf p room - 1))) = true := by rw [hb2, e4]; exact h2
      have hk := h2
      simp only [Bool.and_eq_true, decide_eq_true_eq] at hk
      obtain ⟨kn, rfl⟩ : ∃ kn : Nat, k = kn := ⟨k.toNat, by omega⟩
      refine W.seq_region fun K hK => ?_
      simp (disch := omega) only [↓RU, RV, RH, ↓reduceIte, reduceEqDiff, reduceCtorEq, if_pos, w64, List.append_nil, ↓RS, RG, reduceAdd, reduceMul, reduceLeDiff, tyint, show ((l : Int) + (kn : Int)) = ((l + kn : Nat) : Int) from by omega, show ((w : Int) - (kn : Int)) = ((w - kn : Nat) : Int) from by omega]
      refine CallR.pc (l1Put_pc hs (tp := t) (lf := l + kn) (hg := h) (wd := w - kn) (c := 122) (by omega) (fun row hr => by rw [hrw row hr]; omega)) rfl (.inl rfl) ?_
      simp (disch := omega) only [↓RU, RV, RH, ↓reduceIte, reduceEqDiff, reduceCtorEq, if_pos, w64, List.append_nil, ↓RS, RG, reduceAdd, reduceMul, reduceLeDiff, tyint, show ((l : Int) + (kn : Int)) = ((l + kn : Nat) : Int) from by omega, show ((w : Int) - (kn : Int)) = ((w - kn : Nat) : Int) from by omega]
      refine CallR.pc (l1Done_pc (putTo_sm hs)) rfl (.inr rfl) ?_
      simp (disch := omega) only [↓RU, RV, RH, ↓reduceIte, reduceEqDiff, reduceCtorEq, if_pos, w64, List.append_nil, ↓RS, RG, reduceAdd, reduceMul, reduceLeDiff, tyint, show ((l : Int) + (kn : Int)) = ((l + kn : Nat) : Int) from by omega, show ((w : Int) - (kn : Int)) = ((w - kn : Nat) : Int) from by omega]
      refine hK _ _ ?_;clear hK K
      refine W.ret ?_
      refine XBlock.ret ?_
      refine XThen.ret ?_
      refine BodyQ.ret rfl ?_
      first | (rw [splitP_g hgv]; rfl) | (rw [splitP_h hgv e1 e2 e3 e4 hB1]; rfl) | (rw [splitP_v hgv e1 e2 e3 e4 hB1 hB2]; rfl) | (rw [splitP_no hB1 hB2]; rfl)
     ·try simp only [RL] at h2
      have hB2 : ((s == [118]) && (decide (1 ≤ k) && decide (k ≤ wideOf p room - 1))) = false := by rw [hb2, e4]; exact h2
      refine W.skip ?_
      refine XBlock.norm ?_
      refine XThen.norm ?_
      refine W.seq_region fun K hK => ?_
      simp (disch := omega) only [↓RU, RV, RH, ↓reduceIte, reduceEqDiff, reduceCtorEq, if_pos, List.append_nil, ↓RS, RG, reduceAdd, reduceMul, reduceLeDiff]
      refine CallR.pc (l1None_pc) rfl (.inl rfl) ?_
      simp (disch := omega) only [↓RU, RV, RH, ↓reduceIte, reduceEqDiff, reduceCtorEq, if_pos, List.append_nil, ↓RS, RG, reduceAdd, reduceMul, reduceLeDiff]
      refine hK _ _ ?_;clear hK K
      refine W.ret ?_
      refine BodyQ.ret rfl ?_
      first | (rw [splitP_g hgv]; rfl) | (rw [splitP_h hgv e1 e2 e3 e4 hB1]; rfl) | (rw [splitP_v hgv e1 e2 e3 e4 hB1 hB2]; rfl) | (rw [splitP_no hB1 hB2]; rfl)
theorem pick_ev {code : Txt} {q vr t : Nat} {R : List Ob} (hc : code.length ≤ 1048576) (hq : q ≤ 1000000) (n : Int) (hn : n ≤ 1000000) (hn0 : -1000000 ≤ n) :
  Ev Tryz.prog 117 [.ref 0 vr 0, .int .i64 n] ⟨.arr vr 119 2 [eBy code, .int .i64 (q : Int)] :: R, t⟩ fun v S => ∃ k : Nat, v = .int .i64 (k : Int) ∧ (n < 1 → k = 0) ∧ (1 ≤ n → (k : Int) < n) ∧ S = ⟨.arr vr 119 2 [eBy code, .int .i64 ((q + 1 : Nat) : Int)] :: R, t⟩ :=
 pick_ev0 hc hq n hn hn0
theorem of_ev {code : Txt} {q vr t v1 : Nat} {R : List Ob} {l : List Txt} (hc : code.length ≤ 1048576) (hq : q ≤ 1000000) (hl : 1 ≤ l.length) (hl2 : l.length ≤ 1000) : Ev Tryz.prog 182 [.ref 0 vr 0, .loc 1 v1 0 l.length] ⟨.arr vr 119 2 [eBy code, .int .i64 (q : Int)] :: .arr v1 9 1 (l.map .str) :: R, t⟩ fun v S => ∃ s, s ∈ l ∧ v = .str s ∧ S = ⟨.arr vr 119 2 [eBy code, .int .i64 ((q + 1 : Nat) : Int)] :: .arr v1 9 1 (l.map .str) :: R, t⟩ := by
 refine Ev.of ⟨Tryz.func182, by kernel_rfl, rfl, by kernel_rfl⟩ tabOk mixed (by show 2 ≤ Tryz.f182.ntmps; decide) ?_
 refine W.seq_region fun K hK => ?_
 simp (disch := omega) only [↓RU, RV, RH, ↓reduceIte, reduceEqDiff, reduceCtorEq, if_pos, ↓RS, RG, reduceAdd, reduceMul, reduceLeDiff]
 refine hK _ _ ?_;clear hK K
 refine W.seq_region fun K hK => ?_
 simp (disch := omega) only [↓RU, RV, RH, ↓reduceIte, reduceEqDiff, reduceCtorEq, if_pos, List.append_nil, ↓RS, RG, reduceAdd, reduceMul, reduceLeDiff, ty5, tystring]
 refine CallR.ev (pick_ev hc hq (l.length : Int) (by omega) (by omega)) ?_
 rintro _ _ ⟨k, rfl, -, hk, rfl⟩
 have hk2 := hk (by omega)
 obtain ⟨s, hsk, hsm⟩ := get_of (show k < l.length by omega)
 simp (disch := omega) only [↓RU, RV, RH, ↓reduceIte, reduceEqDiff, reduceCtorEq, if_pos, List.append_nil, ↓RS, RG, reduceAdd, reduceMul, reduceLeDiff, ty5, tystring, hsk]
 refine hK _ _ ?_;clear hK K
 refine W.ret ?_
 refine BodyQ.ret rfl ?_
 exact ⟨_, s, hsm, rfl, take_all⟩
theorem l91Empty_pc {nh nw : Nat} (hn : nh ≤ 100) (hm : nw ≤ 100) : PC Tryz.prog 172 [.int .i64 nh, .int .i64 nw] (eStrs (List.replicate nh (List.replicate nw (97 : UInt8)))) true := by
 refine PC.of ⟨Tryz.func172, by kernel_rfl, rfl, by kernel_rfl⟩ tabOk mixed (by show 2 ≤ Tryz.f172.ntmps; decide) ?_
 refine W.seq_region fun K hK => ?_
 simp (disch := omega) only [↓RU, RV, RH, ↓reduceIte, reduceEqDiff, reduceCtorEq, if_pos, ↓RS, RG, reduceAdd, reduceMul, reduceLeDiff]
 refine hK _ _ ?_;clear hK K
 refine W.seq_region fun K hK => ?_
 simp (disch := omega) only [↓RU, RV, RH, ↓reduceIte, reduceEqDiff, reduceCtorEq, if_pos, ↓RS, RG, reduceAdd, reduceMul, reduceLeDiff, ty5, tystring]
 refine hK _ _ ?_;clear hK K
 refine W.seq ?_
 refine W.seq_region fun K hK => ?_
 simp (disch := omega) only [↓RU, RV, RH, ↓reduceIte, reduceEqDiff, reduceCtorEq, if_pos, ↓RS, RG, reduceAdd, reduceMul, reduceLeDiff]
 refine hK _ _ ?_;clear hK K
 refine W.block ?_
 refine W.loop [0, 1, 5, 6] (fun n vs S => ∃ i v0 tk : Nat, n = nh - i ∧ i ≤ nh ∧ vs = [.int .i64 nh, .int .i64 nw, .loc 0 v0 0 i, .int .i64 i] ∧ S = ⟨[.arr v0 9 1 ((List.replicate i (List.replicate nw (97 : UInt8))).map .str)], tk⟩) (nh) ?_ ?_
 ·refine ⟨1, 0, 0, 1, rfl, Nat.zero_le _, ?_, rfl⟩
  simp [Env.put, Env.of, argEnv]
 rintro n vs S - ⟨i, v0, tk, rfl, h_i, rfl, rfl⟩
 refine W.seq ?_
 refine W.seq_region fun K hK => ?_
 simp (disch := omega) only [↓RU, RV, RH, ↓reduceIte, reduceEqDiff, reduceCtorEq, if_pos, w64, ↓RS, RG, reduceAdd, reduceMul, reduceLeDiff, tyint]
 refine hK _ _ ?_;clear hK K
 refine W.cond rfl (fun h => ?_) (fun h => ?_)
 ·try simp only [RL] at h
  refine W.skip ?_
  refine XThen.norm ?_
  refine W.seq ?_
  refine W.block ?_
  refine W.seq_region fun K hK => ?_
  simp (disch := omega) only [↓RU, RV, RH, ↓reduceIte, reduceEqDiff, reduceCtorEq, if_pos, ↓RS, RG, reduceAdd, reduceMul, reduceLeDiff, ty6, ty26]
  refine hK _ _ ?_;clear hK K
  refine W.seq ?_
  refine W.seq_region fun K hK => ?_
  simp (disch := omega) only [↓RU, RV, RH, ↓reduceIte, reduceEqDiff, reduceCtorEq, if_pos, ↓RS, RG, reduceAdd, reduceMul, reduceLeDiff]
  refine hK _ _ ?_;clear hK K
  refine W.block ?_
  refine W.loop [0, 1, 5, 6, 7, 8] (fun n vs S => ∃ k v1 tk : Nat, n = nw - k ∧ k ≤ nw ∧ vs = [.int .i64 nh, .int .i64 nw, .loc 0 v0 0 i, .int .i64 i, .loc 1 v1 0 k, .int .i64 k] ∧ S = ⟨[.arr v0 9 1 ((List.replicate i (List.replicate nw (97 : UInt8))).map .str), .arr v1 5 1 ((List.replicate k (97 : UInt8)).map eB)], tk⟩) (nw) ?_ ?_
  ·refine ⟨2, 0, tk, tk + 1, rfl, Nat.zero_le _, ?_, rfl⟩
   simp [Env.put, Env.of]
  rintro n vs S - ⟨k, v1, tk, rfl, h_k, rfl, rfl⟩
  refine W.seq ?_
  refine W.seq_region fun K hK => ?_
  simp (disch := omega) only [↓RU, RV, RH, ↓reduceIte, reduceEqDiff, reduceCtorEq, if_pos, w64, ↓RS, RG, reduceAdd, reduceMul, reduceLeDiff, tyint]
  refine hK _ _ ?_;clear hK K
  refine W.cond rfl (fun h1 => ?_) (fun h1 => ?_)
  ·try simp only [RL] at h1
   refine W.skip ?_
   refine XThen.norm ?_
   refine W.seq ?_
   refine W.block ?_
   refine W.region_k fun K hK => ?_
   simp (disch := omega) only [↓RU, RV, RH, ↓reduceIte, reduceEqDiff, reduceCtorEq, if_pos, ↓RS, RG, reduceAdd, reduceMul, reduceLeDiff, ty6, ty26, List.length_replicate]
   refine hK _ _ ?_;clear hK K
   refine XBlock.norm ?_
   refine XThen.norm ?_
   refine W.region_k fun K hK => ?_
   simp (disch := omega) only [↓RU, RV, RH, ↓reduceIte, reduceEqDiff, reduceCtorEq, if_pos, w64, ↓RS, RG, reduceAdd, reduceMul, reduceLeDiff, tyint]
   refine hK _ _ ?_;clear hK K
   refine XThen.norm ?_
   refine ⟨nw - (k + 1), by omega, 2, k + 1, tk + 1, tk + 2, rfl, by omega, ?_, ?_⟩
   all_goals simp [Env.put, Env.of, take_eq, tk_le, List.replicate_succ', List.map_append]
  ·try simp only [RL] at h1
   obtain rfl : k = nw := by omega
   have hbo := bytesOf_eB (List.replicate k (97 : UInt8))
   have htk : ((List.replicate k (97 : UInt8)).map eB).take k = (List.replicate k (97 : UInt8)).map eB := List.take_of_length_le (by simp)
   refine W.exit ?_
   refine XThen.exit ?_
   refine XThen.exit ?_
   refine XBlock.hit ?_
   refine XThen.norm ?_
   refine W.region_k fun K hK => ?_
   simp (disch := omega) only [↓RU, RV, RH, ↓reduceIte, reduceEqDiff, reduceCtorEq, if_pos, w64, ↓RS, RG, reduceAdd, reduceMul, reduceLeDiff, ty5, ty6, tystring, ty26, List.length_replicate, htk, hbo]
   refine hK _ _ ?_;clear hK K
   refine XBlock.norm ?_
   refine XThen.norm ?_
   refine W.region_k fun K hK => ?_
   simp (disch := omega) only [↓RU, RV, RH, ↓reduceIte, reduceEqDiff, reduceCtorEq, if_pos, w64, ↓RS, RG, reduceAdd, reduceMul, reduceLeDiff, tyint]
   refine hK _ _ ?_;clear hK K
   refine XThen.norm ?_
   refine ⟨nh - (i + 1), by omega, 1, i + 1, tk + 1, tk + 2, rfl, by omega, ?_, ?_⟩
   all_goals simp [Env.put, Env.of, take_eq, tk_le, List.replicate_succ', List.map_append]
 ·try simp only [RL] at h
  obtain rfl : i = nh := by omega
  refine W.exit ?_
  refine XThen.exit ?_
  refine XThen.exit ?_
  refine XBlock.hit ?_
  refine XThen.norm ?_
  refine W.seq_region fun K hK => ?_
  simp (disch := omega) only [↓RU, RV, RH, ↓reduceIte, reduceEqDiff, reduceCtorEq, if_pos, ↓RS, RG, reduceAdd, reduceMul, reduceLeDiff]
  refine hK _ _ ?_;clear hK K
  refine W.ret ?_
  refine BodyQ.ret rfl ?_
  exact (reify_loc (k := 9) rfl (by simp) (mapM_str _)).trans (by simp)
theorem frz_ref0 {S : Store} {k ver off : Nat} : frz S 1 (k + 1) (.ref 0 ver off) = some (.ref 0 ver off) := by simp [frz]
theorem tk_strs (p : List Txt) : List.take p.length (p.map PV.str) = p.map .str := List.take_of_length_le (by simp)
theorem rfz_tstr {S : Store} {lo k : Nat} (l : List Txt) : (l.map PV.str).mapM (rfz S lo (k + 1)) = some (l.map PV.str) := rfz_map (fun _ => rfl) l
theorem plan_sm {p : List Txt} (h : planB p = true) : Sm p := by
 obtain ⟨h1, -, h3⟩ := plan_small h
 exact ⟨by omega, fun r hr => by have := (h3 r hr).2; omega⟩
theorem plan_rooms9 {p : List Txt} (h : planB p = true) : l1Rooms p ≤ 9 := by
 unfold planB at h; simp only [Bool.and_eq_true, decide_eq_true_eq] at h; omega
theorem hv_len {s : Txt} (h : s ∈ ([[104], [118]] : List Txt)) : s.length ≤ 1048576 := by
 simp only [List.mem_cons, List.not_mem_nil, or_false] at h
 rcases h with rfl | rfl <;> simp
theorem l91Cut_ev {code : Txt} {q vr t : Nat} {R : List Ob} (hc : code.length ≤ 1048576) (hq : q ≤ 900000) {p : List Txt} (hp : planB p = true) {many : Nat} (hm : many ≤ 1000) : Ev Tryz.prog 171 [.ref 0 vr 0, eStrs p, .int .i64 many] ⟨.arr vr 119 2 [eBy code, .int .i64 (q : Int)] :: R, t⟩ fun v S => ∃ (p2 : List Txt) (q2 t2 : Nat), v = eStrs p2 ∧ planB p2 = true ∧ p2.length = p.length ∧ q2 ≤ q + 3 * many ∧ S = ⟨[.arr vr 119 2 [eBy code, .int .i64 (q2 : Int)]], t2⟩ := by
 refine Ev.of ⟨Tryz.func171, by kernel_rfl, rfl, by kernel_rfl⟩ tabOk mixed (by show 3 ≤ Tryz.f171.ntmps; decide) ?_
 refine W.seq_region fun K hK => ?_
 simp (disch := omega) only [↓RU, RV, RH, ↓reduceIte, reduceEqDiff, reduceCtorEq, if_pos, ↓RS, RG, reduceAdd, reduceMul, reduceLeDiff]
 refine hK _ _ ?_;clear hK K
 refine W.seq ?_
 refine W.seq_region fun K hK => ?_
 simp (disch := omega) only [↓RU, RV, RH, ↓reduceIte, reduceEqDiff, reduceCtorEq, if_pos, ↓RS, RG, reduceAdd, reduceMul, reduceLeDiff]
 refine hK _ _ ?_;clear hK K
 refine W.block ?_
 refine W.loopZ [0, 1, 2, 7] (fun n vs S => ∃ (i : Nat) (p2 : List Txt) (q2 tk : Nat), n = many - i ∧ i ≤ many ∧ planB p2 = true ∧ p2.length = p.length ∧ q2 ≤ q + 3 * i ∧ vs = [.ref 0 vr 0, eStrs p2, .int .i64 many, .int .i64 i] ∧ S = ⟨[.arr vr 119 2 [eBy code, .int .i64 (q2 : Int)]], tk⟩) many ?_ ?_
 ·refine ⟨1, [.ref 0 vr 0, eStrs p, .int .i64 many, .int .i64 (0 : Nat)], ⟨[.arr vr 119 2 [eBy code, .int .i64 (q : Int)]], t⟩, ?_, ?_, 0, p, q, t, rfl, by omega, hp, rfl, by omega, rfl, rfl⟩
  ·simp [-List.mapM_map, Store.frz, frzObs, frzOb, frz_eInts, frz_loc, rfz_loc, frz_int, frz_sl, frz_ints, rfz_ints, frz_strs, frz_bytes, rfz_bytes, rfz_str, rfz_bool, frz_str, frz_bool, Env.put, Env.of, argEnv, rfz_int, List.mapM_append, List.mapM_cons, frz_ref0, tk_strs, rfz_tstr]
  ·simp [-List.mapM_map, Store.frz, frzObs, frzOb, frz_eInts, frz_loc, rfz_loc, frz_int, frz_sl, frz_ints, rfz_ints, frz_strs, frz_bytes, rfz_bytes, rfz_str, rfz_bool, frz_str, frz_bool, Env.put, Env.of, argEnv, rfz_int, List.mapM_append, List.mapM_cons, frz_ref0, tk_strs, rfz_tstr]
 rintro n vs S - ⟨i, p2, q2, tk, rfl, h_i, hp2, hl2, hq2, rfl, rfl⟩
 refine W.seq ?_
 refine W.seq_region fun K hK => ?_
 simp (disch := omega) only [↓RU, RV, RH, ↓reduceIte, reduceEqDiff, reduceCtorEq, if_pos, w64, ↓RS, RG, reduceAdd, reduceMul, reduceLeDiff, tyint]
 refine hK _ _ ?_;clear hK K
 refine W.cond rfl (fun h => ?_) (fun h => ?_)
 ·try simp only [RL] at h
  have hs2 := plan_sm hp2
  have hr9 := plan_rooms9 hp2
  have hrb := l1Rooms_bound p2
  refine W.skip ?_
  refine XThen.norm ?_
  refine W.seq ?_
  refine W.block ?_
  refine W.seq_region fun K hK => ?_
  simp (disch := omega) only [↓RU, RV, RH, ↓reduceIte, reduceEqDiff, reduceCtorEq, if_pos, List.append_nil, ↓RS, RG, reduceAdd, reduceMul, reduceLeDiff]
  refine CallR.pc (l1Rooms_pc hs2) rfl (.inl rfl) ?_
  simp (disch := omega) only [↓RU, RV, RH, ↓reduceIte, reduceEqDiff, reduceCtorEq, if_pos, List.append_nil, ↓RS, RG, reduceAdd, reduceMul, reduceLeDiff]
  refine CallR.ev (pick_ev hc (by omega) (l1Rooms p2) (by omega) (by omega)) ?_
  rintro _ _ ⟨k1, rfl, -, -, rfl⟩
  simp (disch := omega) only [↓RU, RV, RH, ↓reduceIte, reduceEqDiff, reduceCtorEq, if_pos, List.append_nil, ↓RS, RG, reduceAdd, reduceMul, reduceLeDiff]
  refine hK _ _ ?_;clear hK K
  refine W.seq_region fun K hK => ?_
  simp (disch := omega) only [↓RU, RV, RH, ↓reduceIte, reduceEqDiff, reduceCtorEq, if_pos, List.append_nil, w64, ↓RS, RG, reduceAdd, reduceMul, reduceLeDiff, ty5, tyint, tystring]
  refine CallR.ev (of_ev (R := []) (l := [[104], [118]]) hc (by omega) (by simp) (by simp)) ?_
  rintro _ _ ⟨s, hsm, rfl, rfl⟩
  have hsl := hv_len hsm
  simp (disch := omega) only [↓RU, RV, RH, ↓reduceIte, reduceEqDiff, reduceCtorEq, if_pos, List.append_nil, w64, ↓RS, RG, reduceAdd, reduceMul, reduceLeDiff, ty5, tyint, tystring]
  refine CallR.ev (pick_ev (q := q2 + 1 + 1) hc (by omega) 3 (by omega) (by omega)) ?_
  rintro _ _ ⟨k2, rfl, -, hk2, rfl⟩
  have hk3 := hk2 (by omega)
  simp (disch := omega) only [↓RU, RV, RH, ↓reduceIte, reduceEqDiff, reduceCtorEq, if_pos, List.append_nil, w64, ↓RS, RG, reduceAdd, reduceMul, reduceLeDiff, ty5, tyint, tystring]
  refine CallR.pc (planSplit_pc hs2 k1 hsl (1 + k2)) rfl (.inr rfl) ?_
  simp (disch := omega) only [↓RU, RV, RH, ↓reduceIte, reduceEqDiff, reduceCtorEq, if_pos, List.append_nil, w64, ↓RS, RG, reduceAdd, reduceMul, reduceLeDiff, ty5, tyint, tystring]
  refine hK _ _ ?_;clear hK K
  refine W.seq_region fun K hK => ?_
  simp (disch := omega) only [↓RU, RV, RH, ↓reduceIte, reduceEqDiff, reduceCtorEq, if_pos, ↓RS, RG, reduceAdd, reduceMul, reduceLeDiff]
  refine hK _ _ ?_;clear hK K
  refine W.cond rfl (fun h1 => ?_) (fun h1 => ?_)
  ·try simp only [RL] at h1
   obtain ⟨ho1, ho2⟩ := splitP_ok h1
   refine W.region_k fun K hK => ?_
   simp (disch := omega) only [↓RU, RV, RH, ↓reduceIte, reduceEqDiff, reduceCtorEq, if_pos, ↓RS, RG, reduceAdd, reduceMul, reduceLeDiff]
   refine hK _ _ ?_;clear hK K
   refine XBlock.norm ?_
   refine XThen.norm ?_
   refine W.region_k fun K hK => ?_
   simp (disch := omega) only [↓RU, RV, RH, ↓reduceIte, reduceEqDiff, reduceCtorEq, if_pos, w64, ↓RS, RG, reduceAdd, reduceMul, reduceLeDiff, tyint]
   refine hK _ _ ?_;clear hK K
   refine XThen.norm ?_
   refine ⟨many - (i + 1), by omega, 1, [.ref 0 vr 0, eStrs (splitP p2 k1 s (1 + k2)).1, .int .i64 many, .int .i64 ((i + 1 : Nat) : Int)], ⟨[.arr vr 119 2 [eBy code, .int .i64 ((q2 + 1 + 1 + 1 : Nat) : Int)]], tk + 1⟩, ?_, ?_, i + 1, (splitP p2 k1 s (1 + k2)).1, q2 + 1 + 1 + 1, tk + 1, rfl, by omega, ho1, ho2.trans hl2, by omega, rfl, rfl⟩
   ·simp [-List.mapM_map, Store.frz, frzObs, frzOb, frz_eInts, frz_loc, rfz_loc, frz_int, frz_sl, frz_ints, rfz_ints, frz_strs, frz_bytes, rfz_bytes, rfz_str, rfz_bool, frz_str, frz_bool, Env.put, Env.of, argEnv, rfz_int, List.mapM_append, List.mapM_cons, frz_ref0, tk_strs, rfz_tstr]
   ·simp [-List.mapM_map, Store.frz, frzObs, frzOb, frz_eInts, frz_loc, rfz_loc, frz_int, frz_sl, frz_ints, rfz_ints, frz_strs, frz_bytes, rfz_bytes, rfz_str, rfz_bool, frz_str, frz_bool, Env.put, Env.of, argEnv, rfz_int, List.mapM_append, List.mapM_cons, frz_ref0, tk_strs, rfz_tstr]
  ·try simp only [RL] at h1
   refine W.skip ?_
   refine XBlock.norm ?_
   refine XThen.norm ?_
   refine W.region_k fun K hK => ?_
   simp (disch := omega) only [↓RU, RV, RH, ↓reduceIte, reduceEqDiff, reduceCtorEq, if_pos, w64, ↓RS, RG, reduceAdd, reduceMul, reduceLeDiff, tyint]
   refine hK _ _ ?_;clear hK K
   refine XThen.norm ?_
   refine ⟨many - (i + 1), by omega, 1, [.ref 0 vr 0, eStrs p2, .int .i64 many, .int .i64 ((i + 1 : Nat) : Int)], ⟨[.arr vr 119 2 [eBy code, .int .i64 ((q2 + 1 + 1 + 1 : Nat) : Int)]], tk + 1⟩, ?_, ?_, i + 1, p2, q2 + 1 + 1 + 1, tk + 1, rfl, by omega, hp2, hl2, by omega, rfl, rfl⟩
   ·simp [-List.mapM_map, Store.frz, frzObs, frzOb, frz_eInts, frz_loc, rfz_loc, frz_int, frz_sl, frz_ints, rfz_ints, frz_strs, frz_bytes, rfz_bytes, rfz_str, rfz_bool, frz_str, frz_bool, Env.put, Env.of, argEnv, rfz_int, List.mapM_append, List.mapM_cons, frz_ref0, tk_strs, rfz_tstr]
   ·simp [-List.mapM_map, Store.frz, frzObs, frzOb, frz_eInts, frz_loc, rfz_loc, frz_int, frz_sl, frz_ints, rfz_ints, frz_strs, frz_bytes, rfz_bytes, rfz_str, rfz_bool, frz_str, frz_bool, Env.put, Env.of, argEnv, rfz_int, List.mapM_append, List.mapM_cons, frz_ref0, tk_strs, rfz_tstr]
 ·try simp only [RL] at h
  obtain rfl : i = many := by omega
  refine W.exit ?_
  refine XThen.exit ?_
  refine XThen.exit ?_
  refine XBlock.hit ?_
  refine XThen.norm ?_
  refine W.seq_region fun K hK => ?_
  simp (disch := omega) only [↓RU, RV, RH, ↓reduceIte, reduceEqDiff, reduceCtorEq, if_pos, ↓RS, RG, reduceAdd, reduceMul, reduceLeDiff]
  refine hK _ _ ?_;clear hK K
  refine W.ret ?_
  refine BodyQ.ret rfl ?_
  exact ⟨_, p2, q2, tk, rfl, hp2, hl2, by omega, take_all⟩
theorem l91Cut_loc {code : Txt} {q vr t v1 : Nat} {R : List Ob} (hc : code.length ≤ 1048576) (hq : q ≤ 900000) {p : List Txt} (hp : planB p = true) {many : Nat} (hm : many ≤ 1000) : Ev Tryz.prog 171 [.ref 0 vr 0, .loc 1 v1 0 p.length, .int .i64 many] ⟨.arr vr 119 2 [eBy code, .int .i64 (q : Int)] :: .arr v1 9 1 (p.map .str) :: R, t⟩ fun v S => ∃ (p2 : List Txt) (q2 t2 : Nat), v = eStrs p2 ∧ planB p2 = true ∧ p2.length = p.length ∧ q2 ≤ q + 3 * many ∧ S = ⟨[.arr vr 119 2 [eBy code, .int .i64 (q2 : Int)]], t2⟩ := by
 refine Ev.of ⟨Tryz.func171, by kernel_rfl, rfl, by kernel_rfl⟩ tabOk mixed (by show 3 ≤ Tryz.f171.ntmps; decide) ?_
 refine W.seq_region fun K hK => ?_
 simp (disch := omega) only [↓RU, RV, RH, ↓reduceIte, reduceEqDiff, reduceCtorEq, if_pos, ↓RS, RG, reduceAdd, reduceMul, reduceLeDiff]
 refine hK _ _ ?_;clear hK K
 refine W.seq ?_
 refine W.seq_region fun K hK => ?_
 simp (disch := omega) only [↓RU, RV, RH, ↓reduceIte, reduceEqDiff, reduceCtorEq, if_pos, ↓RS, RG, reduceAdd, reduceMul, reduceLeDiff]
 refine hK _ _ ?_;clear hK K
 refine W.block ?_
 refine W.loopZ [0, 1, 2, 7] (fun n vs S => ∃ (i : Nat) (p2 : List Txt) (q2 tk : Nat), n = many - i ∧ i ≤ many ∧ planB p2 = true ∧ p2.length = p.length ∧ q2 ≤ q + 3 * i ∧ vs = [.ref 0 vr 0, eStrs p2, .int .i64 many, .int .i64 i] ∧ S = ⟨[.arr vr 119 2 [eBy code, .int .i64 (q2 : Int)]], tk⟩) many ?_ ?_
 ·refine ⟨1, [.ref 0 vr 0, eStrs p, .int .i64 many, .int .i64 (0 : Nat)], ⟨[.arr vr 119 2 [eBy code, .int .i64 (q : Int)]], t⟩, ?_, ?_, 0, p, q, t, rfl, by omega, hp, rfl, by omega, rfl, rfl⟩
  ·simp [-List.mapM_map, Store.frz, frzObs, frzOb, frz_eInts, frz_loc, rfz_loc, frz_int, frz_sl, frz_ints, rfz_ints, frz_strs, frz_bytes, rfz_bytes, rfz_str, rfz_bool, frz_str, frz_bool, Env.put, Env.of, argEnv, rfz_int, List.mapM_append, List.mapM_cons, frz_ref0, tk_strs, rfz_tstr]
  ·simp [-List.mapM_map, Store.frz, frzObs, frzOb, frz_eInts, frz_loc, rfz_loc, frz_int, frz_sl, frz_ints, rfz_ints, frz_strs, frz_bytes, rfz_bytes, rfz_str, rfz_bool, frz_str, frz_bool, Env.put, Env.of, argEnv, rfz_int, List.mapM_append, List.mapM_cons, frz_ref0, tk_strs, rfz_tstr]
 rintro n vs S - ⟨i, p2, q2, tk, rfl, h_i, hp2, hl2, hq2, rfl, rfl⟩
 refine W.seq ?_
 refine W.seq_region fun K hK => ?_
 simp (disch := omega) only [↓RU, RV, RH, ↓reduceIte, reduceEqDiff, reduceCtorEq, if_pos, w64, ↓RS, RG, reduceAdd, reduceMul, reduceLeDiff, tyint]
 refine hK _ _ ?_;clear hK K
 refine W.cond rfl (fun h => ?_) (fun h => ?_)
 ·try simp only [RL] at h
  have hs2 := plan_sm hp2
  have hr9 := plan_rooms9 hp2
  have hrb := l1Rooms_bound p2
  refine W.skip ?_
  refine XThen.norm ?_
  refine W.seq ?_
  refine W.block ?_
  refine W.seq_region fun K hK => ?_
  simp (disch := omega) only [↓RU, RV, RH, ↓reduceIte, reduceEqDiff, reduceCtorEq, if_pos, List.append_nil, ↓RS, RG, reduceAdd, reduceMul, reduceLeDiff]
  refine CallR.pc (l1Rooms_pc hs2) rfl (.inl rfl) ?_
  simp (disch := omega) only [↓RU, RV, RH, ↓reduceIte, reduceEqDiff, reduceCtorEq, if_pos, List.append_nil, ↓RS, RG, reduceAdd, reduceMul, reduceLeDiff]
  refine CallR.ev (pick_ev hc (by omega) (l1Rooms p2) (by omega) (by omega)) ?_
  rintro _ _ ⟨k1, rfl, -, -, rfl⟩
  simp (disch := omega) only [↓RU, RV, RH, ↓reduceIte, reduceEqDiff, reduceCtorEq, if_pos, List.append_nil, ↓RS, RG, reduceAdd, reduceMul, reduceLeDiff]
  refine hK _ _ ?_;clear hK K
  refine W.seq_region fun K hK => ?_
  simp (disch := omega) only [↓RU, RV, RH, ↓reduceIte, reduceEqDiff, reduceCtorEq, if_pos, List.append_nil, w64, ↓RS, RG, reduceAdd, reduceMul, reduceLeDiff, ty5, tyint, tystring]
  refine CallR.ev (of_ev (R := []) (l := [[104], [118]]) hc (by omega) (by simp) (by simp)) ?_
  rintro _ _ ⟨s, hsm, rfl, rfl⟩
  have hsl := hv_len hsm
  simp (disch := omega) only [↓RU, RV, RH, ↓reduceIte, reduceEqDiff, reduceCtorEq, if_pos, List.append_nil, w64, ↓RS, RG, reduceAdd, reduceMul, reduceLeDiff, ty5, tyint, tystring]
  refine CallR.ev (pick_ev (q := q2 + 1 + 1) hc (by omega) 3 (by omega) (by omega)) ?_
  rintro _ _ ⟨k2, rfl, -, hk2, rfl⟩
  have hk3 := hk2 (by omega)
  simp (disch := omega) only [↓RU, RV, RH, ↓reduceIte, reduceEqDiff, reduceCtorEq, if_pos, List.append_nil, w64, ↓RS, RG, reduceAdd, reduceMul, reduceLeDiff, ty5, tyint, tystring]
  refine CallR.pc (planSplit_pc hs2 k1 hsl (1 + k2)) rfl (.inr rfl) ?_
  simp (disch := omega) only [↓RU, RV, RH, ↓reduceIte, reduceEqDiff, reduceCtorEq, if_pos, List.append_nil, w64, ↓RS, RG, reduceAdd, reduceMul, reduceLeDiff, ty5, tyint, tystring]
  refine hK _ _ ?_;clear hK K
  refine W.seq_region fun K hK => ?_
  simp (disch := omega) only [↓RU, RV, RH, ↓reduceIte, reduceEqDiff, reduceCtorEq, if_pos, ↓RS, RG, reduceAdd, reduceMul, reduceLeDiff]
  refine hK _ _ ?_;clear hK K
  refine W.cond rfl (fun h1 => ?_) (fun h1 => ?_)
  ·try simp only [RL] at h1
   obtain ⟨ho1, ho2⟩ := splitP_ok h1
   refine W.region_k fun K hK => ?_
   simp (disch := omega) only [↓RU, RV, RH, ↓reduceIte, reduceEqDiff, reduceCtorEq, if_pos, ↓RS, RG, reduceAdd, reduceMul, reduceLeDiff]
   refine hK _ _ ?_;clear hK K
   refine XBlock.norm ?_
   refine XThen.norm ?_
   refine W.region_k fun K hK => ?_
   simp (disch := omega) only [↓RU, RV, RH, ↓reduceIte, reduceEqDiff, reduceCtorEq, if_pos, w64, ↓RS, RG, reduceAdd, reduceMul, reduceLeDiff, tyint]
   refine hK _ _ ?_;clear hK K
   refine XThen.norm ?_
   refine ⟨many - (i + 1), by omega, 1, [.ref 0 vr 0, eStrs (splitP p2 k1 s (1 + k2)).1, .int .i64 many, .int .i64 ((i + 1 : Nat) : Int)], ⟨[.arr vr 119 2 [eBy code, .int .i64 ((q2 + 1 + 1 + 1 : Nat) : Int)]], tk + 1⟩, ?_, ?_, i + 1, (splitP p2 k1 s (1 + k2)).1, q2 + 1 + 1 + 1, tk + 1, rfl, by omega, ho1, ho2.trans hl2, by omega, rfl, rfl⟩
   ·simp [-List.mapM_map, Store.frz, frzObs, frzOb, frz_eInts, frz_loc, rfz_loc, frz_int, frz_sl, frz_ints, rfz_ints, frz_strs, frz_bytes, rfz_bytes, rfz_str, rfz_bool, frz_str, frz_bool, Env.put, Env.of, argEnv, rfz_int, List.mapM_append, List.mapM_cons, frz_ref0, tk_strs, rfz_tstr]
   ·simp [-List.mapM_map, Store.frz, frzObs, frzOb, frz_eInts, frz_loc, rfz_loc, frz_int, frz_sl, frz_ints, rfz_ints, frz_strs, frz_bytes, rfz_bytes, rfz_str, rfz_bool, frz_str, frz_bool, Env.put, Env.of, argEnv, rfz_int, List.mapM_append, List.mapM_cons, frz_ref0, tk_strs, rfz_tstr]
  ·try simp only [RL] at h1
   refine W.skip ?_
   refine XBlock.norm ?_
   refine XThen.norm ?_
   refine W.region_k fun K hK => ?_
   simp (disch := omega) only [↓RU, RV, RH, ↓reduceIte, reduceEqDiff, reduceCtorEq, if_pos, w64, ↓RS, RG, reduceAdd, reduceMul, reduceLeDiff, tyint]
   refine hK _ _ ?_;clear hK K
   refine XThen.norm ?_
   refine ⟨many - (i + 1), by omega, 1, [.ref 0 vr 0, eStrs p2, .int .i64 many, .int .i64 ((i + 1 : Nat) : Int)], ⟨[.arr vr 119 2 [eBy code, .int .i64 ((q2 + 1 + 1 + 1 : Nat) : Int)]], tk + 1⟩, ?_, ?_, i + 1, p2, q2 + 1 + 1 + 1, tk + 1, rfl, by omega, hp2, hl2, by omega, rfl, rfl⟩
   ·simp [-List.mapM_map, Store.frz, frzObs, frzOb, frz_eInts, frz_loc, rfz_loc, frz_int, frz_sl, frz_ints, rfz_ints, frz_strs, frz_bytes, rfz_bytes, rfz_str, rfz_bool, frz_str, frz_bool, Env.put, Env.of, argEnv, rfz_int, List.mapM_append, List.mapM_cons, frz_ref0, tk_strs, rfz_tstr]
   ·simp [-List.mapM_map, Store.frz, frzObs, frzOb, frz_eInts, frz_loc, rfz_loc, frz_int, frz_sl, frz_ints, rfz_ints, frz_strs, frz_bytes, rfz_bytes, rfz_str, rfz_bool, frz_str, frz_bool, Env.put, Env.of, argEnv, rfz_int, List.mapM_append, List.mapM_cons, frz_ref0, tk_strs, rfz_tstr]
 ·try simp only [RL] at h
  obtain rfl : i = many := by omega
  refine W.exit ?_
  refine XThen.exit ?_
  refine XThen.exit ?_
  refine XBlock.hit ?_
  refine XThen.norm ?_
  refine W.seq_region fun K hK => ?_
  simp (disch := omega) only [↓RU, RV, RH, ↓reduceIte, reduceEqDiff, reduceCtorEq, if_pos, ↓RS, RG, reduceAdd, reduceMul, reduceLeDiff]
  refine hK _ _ ?_;clear hK K
  refine W.ret ?_
  refine BodyQ.ret rfl ?_
  exact ⟨_, p2, q2, tk, rfl, hp2, hl2, by omega, take_all⟩
theorem empty_plan {nh nw : Nat} (h1 : 1 ≤ nh) (h2 : nh ≤ 6) (w1 : 1 ≤ nw) (w2 : nw ≤ 6) : planB (List.replicate nh (List.replicate nw (97 : UInt8))) = true := by
 rcases (show nh = 1 ∨ nh = 2 ∨ nh = 3 ∨ nh = 4 ∨ nh = 5 ∨ nh = 6 by omega) with rfl | rfl | rfl | rfl | rfl | rfl <;>
 rcases (show nw = 1 ∨ nw = 2 ∨ nw = 3 ∨ nw = 4 ∨ nw = 5 ∨ nw = 6 by omega) with rfl | rfl | rfl | rfl | rfl | rfl <;> decide +kernel
def wheel3 : List Txt := [[97, 97, 98], [99, 100, 98], [99, 101, 101]]
def wheel4 : List Txt := [[97, 97, 97, 98], [99, 100, 100, 98], [99, 100, 100, 98], [99, 101, 101, 101]]
theorem wheel3_plan : planB wheel3 = true := by decide +kernel
theorem wheel4_plan : planB wheel4 = true := by decide +kernel
theorem l91Plan_ev {code : Txt} {q vr t : Nat} (hc : code.length ≤ 1048576) (hq : q ≤ 800000) {nh nw : Nat} (h1 : 1 ≤ nh) (h2 : nh ≤ 6) (w1 : 1 ≤ nw) (w2 : nw ≤ 6) : Ev Tryz.prog 143 [.ref 0 vr 0, .int .i64 nh, .int .i64 nw] ⟨[.arr vr 119 2 [eBy code, .int .i64 (q : Int)]], t⟩ fun v S => ∃ (p2 : List Txt) (q2 t2 : Nat), v = eStrs p2 ∧ planB p2 = true ∧ p2.length = nh ∧ q2 ≤ q + 100 ∧ S = ⟨[.arr vr 119 2 [eBy code, .int .i64 (q2 : Int)]], t2⟩ := by
 refine Ev.of ⟨Tryz.func143, by kernel_rfl, rfl, by kernel_rfl⟩ tabOk mixed (by show 3 ≤ Tryz.f143.ntmps; decide) ?_
 refine W.seq_region fun K hK => ?_
 simp (disch := omega) only [↓RU, RV, RH, ↓reduceIte, reduceEqDiff, reduceCtorEq, if_pos, ↓RS, RG, reduceAdd, reduceMul, reduceLeDiff]
 refine hK _ _ ?_;clear hK K
 refine W.seq ?_
 refine W.join [0, 1, 2, 17] (fun vs S => ∃ (q2 : Nat) (b : Bool), q2 ≤ q + 1 ∧ (b = true → nh = 3) ∧ vs = [.ref 0 vr 0, .int .i64 nh, .int .i64 nw, .bool b] ∧ S = ⟨[.arr vr 119 2 [eBy code, .int .i64 (q2 : Int)]], t⟩) ?_ ?_
 ·
  refine W.region_k fun K hK => ?_
  rcases hd : (((nh : Int) == 3), ((nw : Int) == 3)) with ⟨_ | _, _ | _⟩
  ·skip
   simp only [Prod.mk.injEq] at hd
   obtain ⟨hd1, hd2⟩ := hd
   simp (disch := omega) only [↓RU, RV, RH, ↓reduceIte, reduceEqDiff, reduceCtorEq, if_pos, w64, List.append_nil, ↓RS, RG, reduceAdd, reduceMul, reduceLeDiff, tyint, hd1, hd2]
   refine hK _ _ ?_;clear hK K
   refine XThen.norm ?_
   refine ⟨_, q, false, by omega, fun h9 => (by cases h9), ?_, take_all⟩
   simp [Env.put, Env.of, argEnv]
  ·skip
   simp only [Prod.mk.injEq] at hd
   obtain ⟨hd1, hd2⟩ := hd
   simp (disch := omega) only [↓RU, RV, RH, ↓reduceIte, reduceEqDiff, reduceCtorEq, if_pos, w64, List.append_nil, ↓RS, RG, reduceAdd, reduceMul, reduceLeDiff, tyint, hd1, hd2]
   refine hK _ _ ?_;clear hK K
   refine XThen.norm ?_
   refine ⟨_, q, false, by omega, fun h9 => (by cases h9), ?_, take_all⟩
   simp [Env.put, Env.of, argEnv]
  ·skip
   simp only [Prod.mk.injEq] at hd
   obtain ⟨hd1, hd2⟩ := hd
   simp (disch := omega) only [↓RU, RV, RH, ↓reduceIte, reduceEqDiff, reduceCtorEq, if_pos, w64, List.append_nil, ↓RS, RG, reduceAdd, reduceMul, reduceLeDiff, tyint, hd1, hd2]
   refine hK _ _ ?_;clear hK K
   refine XThen.norm ?_
   refine ⟨_, q, false, by omega, fun h9 => (by cases h9), ?_, take_all⟩
   simp [Env.put, Env.of, argEnv]
  ·skip
   simp only [Prod.mk.injEq] at hd
   obtain ⟨hd1, hd2⟩ := hd
   simp (disch := omega) only [↓RU, RV, RH, ↓reduceIte, reduceEqDiff, reduceCtorEq, if_pos, w64, List.append_nil, ↓RS, RG, reduceAdd, reduceMul, reduceLeDiff, tyint, hd1, hd2]
   refine CallR.ev (pick_ev (q := q) hc (by omega) 2 (by omega) (by omega)) ?_
   rintro _ _ ⟨k1, rfl, -, hk1, rfl⟩
   have hk1b := hk1 (by omega)
   simp (disch := omega) only [↓RU, RV, RH, ↓reduceIte, reduceEqDiff, reduceCtorEq, if_pos, w64, List.append_nil, ↓RS, RG, reduceAdd, reduceMul, reduceLeDiff, tyint, hd1, hd2]
   refine hK _ _ ?_;clear hK K
   refine XThen.norm ?_
   refine ⟨_, q + 1, ((k1 : Int) == 0), by omega, fun _ => (by have := beq_iff_eq.1 hd1; omega), ?_, take_all⟩
   simp [Env.put, Env.of, argEnv]
 rintro vs S - ⟨qa, b3, hqa, hb3, rfl, rfl⟩
 refine W.cond rfl (fun h3 => ?_) (fun h3 => ?_)
 ·try simp only [RL] at h3
  refine W.seq_region fun K hK => ?_
  simp (disch := omega) only [↓RU, RV, RH, ↓reduceIte, reduceEqDiff, reduceCtorEq, if_pos, List.append_nil, ↓RS, RG, reduceAdd, reduceMul, reduceLeDiff, ty5, tystring]
  refine CallR.ev (pick_ev (q := qa) hc (by omega) 2 (by omega) (by omega)) ?_
  rintro _ _ ⟨k1, rfl, -, hk1, rfl⟩
  have hk1b := hk1 (by omega)
  simp (disch := omega) only [↓RU, RV, RH, ↓reduceIte, reduceEqDiff, reduceCtorEq, if_pos, List.append_nil, ↓RS, RG, reduceAdd, reduceMul, reduceLeDiff, ty5, tystring]
  refine CallR.ev (l91Cut_loc (q := qa + 1) (R := []) hc (by omega) wheel3_plan (many := k1) (by omega)) ?_
  rintro _ _ ⟨p2, q2, t2, rfl, hp2, hl2, hq2, rfl⟩
  simp (disch := omega) only [↓RU, RV, RH, ↓reduceIte, reduceEqDiff, reduceCtorEq, if_pos, List.append_nil, ↓RS, RG, reduceAdd, reduceMul, reduceLeDiff, ty5, tystring]
  refine hK _ _ ?_;clear hK K
  refine W.ret ?_
  refine XThen.ret ?_
  refine BodyQ.ret rfl ?_
  exact ⟨_, p2, q2, t2, rfl, hp2, hl2.trans (hb3 h3).symm, by omega, take_all⟩
 ·try simp only [RL] at h3
  refine W.skip ?_
  refine XThen.norm ?_
  refine W.seq ?_
  refine W.join [0, 1, 2, 33] (fun vs S => ∃ (q2 : Nat) (b : Bool), q2 ≤ q + 2 ∧ (b = true → nh = 4) ∧ vs = [.ref 0 vr 0, .int .i64 nh, .int .i64 nw, .bool b] ∧ S = ⟨[.arr vr 119 2 [eBy code, .int .i64 (q2 : Int)]], t⟩) ?_ ?_
  ·
   refine W.region_k fun K hK => ?_
   rcases hd : (((nh : Int) == 4), ((nw : Int) == 4)) with ⟨_ | _, _ | _⟩
   ·skip
    simp only [Prod.mk.injEq] at hd
    obtain ⟨hd1, hd2⟩ := hd
    simp (disch := omega) only [↓RU, RV, RH, ↓reduceIte, reduceEqDiff, reduceCtorEq, if_pos, w64, List.append_nil, ↓RS, RG, reduceAdd, reduceMul, reduceLeDiff, tyint, hd1, hd2]
    refine hK _ _ ?_;clear hK K
    refine XThen.norm ?_
    refine ⟨_, qa, false, by omega, fun h9 => (by cases h9), ?_, take_all⟩
    simp [Env.put, Env.of, argEnv]
   ·skip
    simp only [Prod.mk.injEq] at hd
    obtain ⟨hd1, hd2⟩ := hd
    simp (disch := omega) only [↓RU, RV, RH, ↓reduceIte, reduceEqDiff, reduceCtorEq, if_pos, w64, List.append_nil, ↓RS, RG, reduceAdd, reduceMul, reduceLeDiff, tyint, hd1, hd2]
    refine hK _ _ ?_;clear hK K
    refine XThen.norm ?_
    refine ⟨_, qa, false, by omega, fun h9 => (by cases h9), ?_, take_all⟩
    simp [Env.put, Env.of, argEnv]
   ·skip
    simp only [Prod.mk.injEq] at hd
    obtain ⟨hd1, hd2⟩ := hd
    simp (disch := omega) only [↓RU, RV, RH, ↓reduceIte, reduceEqDiff, reduceCtorEq, if_pos, w64, List.append_nil, ↓RS, RG, reduceAdd, reduceMul, reduceLeDiff, tyint, hd1, hd2]
    refine hK _ _ ?_;clear hK K
    refine XThen.norm ?_
    refine ⟨_, qa, false, by omega, fun h9 => (by cases h9), ?_, take_all⟩
    simp [Env.put, Env.of, argEnv]
   ·skip
    simp only [Prod.mk.injEq] at hd
    obtain ⟨hd1, hd2⟩ := hd
    simp (disch := omega) only [↓RU, RV, RH, ↓reduceIte, reduceEqDiff, reduceCtorEq, if_pos, w64, List.append_nil, ↓RS, RG, reduceAdd, reduceMul, reduceLeDiff, tyint, hd1, hd2]
    refine CallR.ev (pick_ev (q := qa) hc (by omega) 2 (by omega) (by omega)) ?_
    rintro _ _ ⟨k1, rfl, -, hk1, rfl⟩
    have hk1b := hk1 (by omega)
    simp (disch := omega) only [↓RU, RV, RH, ↓reduceIte, reduceEqDiff, reduceCtorEq, if_pos, w64, List.append_nil, ↓RS, RG, reduceAdd, reduceMul, reduceLeDiff, tyint, hd1, hd2]
    refine hK _ _ ?_;clear hK K
    refine XThen.norm ?_
    refine ⟨_, qa + 1, ((k1 : Int) == 0), by omega, fun _ => (by have := beq_iff_eq.1 hd1; omega), ?_, take_all⟩
    simp [Env.put, Env.of, argEnv]
  rintro vs S - ⟨qb, b4, hqb, hb4, rfl, rfl⟩
  refine W.cond rfl (fun h4 => ?_) (fun h4 => ?_)
  ·try simp only [RL] at h4
   refine W.seq_region fun K hK => ?_
   simp (disch := omega) only [↓RU, RV, RH, ↓reduceIte, reduceEqDiff, reduceCtorEq, if_pos, List.append_nil, ↓RS, RG, reduceAdd, reduceMul, reduceLeDiff, ty5, tystring]
   refine CallR.ev (pick_ev (q := qb) hc (by omega) 4 (by omega) (by omega)) ?_
   rintro _ _ ⟨k2, rfl, -, hk2, rfl⟩
   have hk2b := hk2 (by omega)
   simp (disch := omega) only [↓RU, RV, RH, ↓reduceIte, reduceEqDiff, reduceCtorEq, if_pos, List.append_nil, ↓RS, RG, reduceAdd, reduceMul, reduceLeDiff, ty5, tystring]
   refine CallR.ev (l91Cut_loc (q := qb + 1) (R := []) hc (by omega) wheel4_plan (many := k2) (by omega)) ?_
   rintro _ _ ⟨p2, q2, t2, rfl, hp2, hl2, hq2, rfl⟩
   simp (disch := omega) only [↓RU, RV, RH, ↓reduceIte, reduceEqDiff, reduceCtorEq, if_pos, List.append_nil, ↓RS, RG, reduceAdd, reduceMul, reduceLeDiff, ty5, tystring]
   refine hK _ _ ?_;clear hK K
   refine W.ret ?_
   refine XThen.ret ?_
   refine BodyQ.ret rfl ?_
   exact ⟨_, p2, q2, t2, rfl, hp2, hl2.trans (hb4 h4).symm, by omega, take_all⟩
  ·try simp only [RL] at h4
   refine W.skip ?_
   refine XThen.norm ?_
   refine W.seq_region fun K hK => ?_
   simp (disch := omega) only [↓RU, RV, RH, ↓reduceIte, reduceEqDiff, reduceCtorEq, if_pos, List.append_nil, ↓RS, RG, reduceAdd, reduceMul, reduceLeDiff]
   refine CallR.pc (l91Empty_pc (nh := nh) (nw := nw) (by omega) (by omega)) rfl (.inl rfl) ?_
   simp (disch := omega) only [↓RU, RV, RH, ↓reduceIte, reduceEqDiff, reduceCtorEq, if_pos, List.append_nil, ↓RS, RG, reduceAdd, reduceMul, reduceLeDiff]
   refine CallR.ev (pick_ev (q := qb) hc (by omega) 9 (by omega) (by omega)) ?_
   rintro _ _ ⟨k3, rfl, -, hk3, rfl⟩
   have hk3b := hk3 (by omega)
   simp (disch := omega) only [↓RU, RV, RH, ↓reduceIte, reduceEqDiff, reduceCtorEq, if_pos, List.append_nil, ↓RS, RG, reduceAdd, reduceMul, reduceLeDiff]
   refine CallR.ev (l91Cut_ev (q := qb + 1) (R := []) hc (by omega) (empty_plan h1 h2 w1 w2) (many := k3) (by omega)) ?_
   rintro _ _ ⟨p2, q2, t2, rfl, hp2, hl2, hq2, rfl⟩
   simp (disch := omega) only [↓RU, RV, RH, ↓reduceIte, reduceEqDiff, reduceCtorEq, if_pos, List.append_nil, ↓RS, RG, reduceAdd, reduceMul, reduceLeDiff]
   refine hK _ _ ?_;clear hK K
   refine W.ret ?_
   refine BodyQ.ret rfl ?_
   exact ⟨_, p2, q2, t2, rfl, hp2, by simpa using hl2, by omega, take_all⟩
theorem sm_set {p : List Txt} (h : Sm p) {i : Nat} {r : Txt} (hr : r.length ≤ 1048576) : Sm (p.set i r) := by
 refine ⟨by rw [List.length_set]; exact h.1, fun x hx => ?_⟩
 rcases List.mem_or_eq_of_mem_set hx with k | rfl
 ·exact h.2 x k
 ·exact hr
theorem set_hd {p : List Txt} {x : Txt} (h : 0 < p.length) : PV.str x :: List.drop 1 (p.map PV.str) = (p.set 0 x).map .str := by cases p with | nil => simp at h | cons a p => simp
theorem one_add {k : Nat} : (1 : Int) + (k : Int) = ((1 + k : Nat) : Int) := by omega
theorem l91Some_ev {code : Txt} {q vr t : Nat} (hc : code.length ≤ 1048576) (hq : q ≤ 700000) {rows cols : Nat} (h1 : 1 ≤ rows) (h2 : rows ≤ 6) (w1 : 1 ≤ cols) (w2 : cols ≤ 6) : Ev Tryz.prog 122 [.ref 0 vr 0, .int .i64 rows, .int .i64 cols] ⟨[.arr vr 119 2 [eBy code, .int .i64 (q : Int)]], t⟩ fun v S => ∃ (p2 : List Txt) (q2 t2 : Nat), v = eStrs p2 ∧ Sm p2 ∧ p2.length ≤ 6 ∧ q2 ≤ q + 200 ∧ S = ⟨[.arr vr 119 2 [eBy code, .int .i64 (q2 : Int)]], t2⟩ := by
 refine Ev.of ⟨Tryz.func122, by kernel_rfl, rfl, by kernel_rfl⟩ tabOk mixed (by show 3 ≤ Tryz.f122.ntmps; decide) ?_
 refine W.seq_region fun K hK => ?_
 simp (disch := omega) only [↓RU, RV, RH, ↓reduceIte, reduceEqDiff, reduceCtorEq, if_pos, ↓RS, RG, reduceAdd, reduceMul, reduceLeDiff]
 refine hK _ _ ?_;clear hK K
 refine W.seq_region fun K hK => ?_
 simp (disch := omega) only [↓RU, RV, RH, ↓reduceIte, reduceEqDiff, reduceCtorEq, if_pos, List.append_nil, w64, ↓RS, RG, reduceAdd, reduceMul, reduceLeDiff, tyint]
 refine CallR.ev (pick_ev hc (by omega) (rows : Int) (by omega) (by omega)) ?_
 rintro _ _ ⟨k1, rfl, -, hk1, rfl⟩
 have hk1b := hk1 (by omega)
 simp (disch := omega) only [↓RU, RV, RH, ↓reduceIte, reduceEqDiff, reduceCtorEq, if_pos, List.append_nil, w64, ↓RS, RG, reduceAdd, reduceMul, reduceLeDiff, tyint, one_add]
 refine hK _ _ ?_;clear hK K
 refine W.seq_region fun K hK => ?_
 simp (disch := omega) only [↓RU, RV, RH, ↓reduceIte, reduceEqDiff, reduceCtorEq, if_pos, List.append_nil, w64, ↓RS, RG, reduceAdd, reduceMul, reduceLeDiff, tyint]
 refine CallR.ev (pick_ev hc (by omega) (cols : Int) (by omega) (by omega)) ?_
 rintro _ _ ⟨k2, rfl, -, hk2, rfl⟩
 have hk2b := hk2 (by omega)
 simp (disch := omega) only [↓RU, RV, RH, ↓reduceIte, reduceEqDiff, reduceCtorEq, if_pos, List.append_nil, w64, ↓RS, RG, reduceAdd, reduceMul, reduceLeDiff, tyint, one_add]
 refine CallR.ev (l91Plan_ev (q := q + 1 + 1) hc (by omega) (nh := 1 + k1) (nw := 1 + k2) (by omega) (by omega) (by omega) (by omega)) ?_
 rintro _ _ ⟨p2, q2, t2, rfl, hp2, hl2, hq2, rfl⟩
 simp (disch := omega) only [↓RU, RV, RH, ↓reduceIte, reduceEqDiff, reduceCtorEq, if_pos, List.append_nil, w64, ↓RS, RG, reduceAdd, reduceMul, reduceLeDiff, tyint]
 refine hK _ _ ?_;clear hK K
 obtain ⟨ps1, ps2, ps3⟩ := plan_small hp2
 have hsm := plan_sm hp2
 obtain ⟨nh, hnh⟩ : ∃ nh : Nat, 1 + k1 = nh := ⟨_, rfl⟩
 simp only [hnh] at hl2 ⊢
 refine W.joinZ [8] (fun vs S => ∃ (p3 : List Txt) (q3 tk : Nat), Sm p3 ∧ p3.length ≤ 6 ∧ q3 ≤ q + 200 ∧ vs = [eStrs p3] ∧ S = ⟨[.arr vr 119 2 [eBy code, .int .i64 (q3 : Int)]], tk⟩) ?_ ?_
 ·
  refine W.seq_region fun K hK => ?_
  simp (disch := omega) only [↓RU, RV, RH, ↓reduceIte, reduceEqDiff, reduceCtorEq, if_pos, List.append_nil, ↓RS, RG, reduceAdd, reduceMul, reduceLeDiff]
  refine CallR.ev (pick_ev hc (by omega) 50 (by omega) (by omega)) ?_
  rintro _ _ ⟨k3, rfl, -, hk3, rfl⟩
  simp (disch := omega) only [↓RU, RV, RH, ↓reduceIte, reduceEqDiff, reduceCtorEq, if_pos, List.append_nil, ↓RS, RG, reduceAdd, reduceMul, reduceLeDiff]
  refine hK _ _ ?_;clear hK K
  refine W.block ?_
  refine W.seq_region fun K hK => ?_
  simp (disch := omega) only [↓RU, RV, RH, ↓reduceIte, reduceEqDiff, reduceCtorEq, if_pos, w64, ↓RS, RG, reduceAdd, reduceMul, reduceLeDiff, tyint]
  refine hK _ _ ?_;clear hK K
  refine W.cond rfl (fun h0 => ?_) (fun h0 => ?_)
  ·try simp only [RL] at h0
   obtain ⟨row, hrow, hrm⟩ := get_of (show nh - 1 < p2.length by omega)
   have hr6 := (ps3 row hrm).2
   refine W.seq_region fun K hK => ?_
   simp (disch := omega) only [↓RU, RV, RH, ↓reduceIte, reduceEqDiff, reduceCtorEq, if_pos, ↓RS, RG, reduceAdd, reduceMul, reduceLeDiff, ty5, tystring]
   refine hK _ _ ?_;clear hK K
   refine W.region_k fun K hK => ?_
   simp (disch := omega) only [↓RU, RV, RH, ↓reduceIte, reduceEqDiff, reduceCtorEq, if_pos, w64, ↓RS, RG, reduceAdd, reduceMul, reduceLeDiff, ty5, tyint, tystring, toNat_pred, hrow, pStr, set_spl, set_str, cells_str, List.length_cons, List.length_nil]
   refine hK _ _ ?_;clear hK K
   refine XBlock.norm ?_
   refine XThen.norm ?_
   have hPs : Sm (p2.set (nh - 1) (row ++ [97])) := sm_set hsm (by simp; omega)
   have hPl : (p2.set (nh - 1) (row ++ [97])).length = p2.length := by simp
   generalize p2.set (nh - 1) (row ++ [97]) = P at hPs hPl ⊢
   have htk : (P.map PV.str).take p2.length = P.map .str := List.take_of_length_le (by simp [hPl])
   refine ⟨1, [eStrs P], ⟨[.arr vr 119 2 [eBy code, .int .i64 ((q2 + 1 : Nat) : Int)]], t2 + 1 + 1⟩, ?_, ?_, P, q2 + 1, t2 + 1 + 1, hPs, by omega, by omega, rfl, rfl⟩
   ·simp [-List.mapM_map, Store.frz, frzObs, frzOb, frz_eInts, frz_loc, rfz_loc, frz_int, frz_sl, frz_ints, rfz_ints, frz_strs, frz_bytes, rfz_bytes, rfz_str, rfz_bool, frz_str, frz_bool, Env.put, Env.of, argEnv, rfz_int, List.mapM_append, List.mapM_cons, frz_ref0, tk_strs, rfz_tstr, htk, hPl]
   ·simp [-List.mapM_map, Store.frz, frzObs, frzOb, frz_eInts, frz_loc, rfz_loc, frz_int, frz_sl, frz_ints, rfz_ints, frz_strs, frz_bytes, rfz_bytes, rfz_str, rfz_bool, frz_str, frz_bool, Env.put, Env.of, argEnv, rfz_int, List.mapM_append, List.mapM_cons, frz_ref0, tk_strs, rfz_tstr]
  ·try simp only [RL] at h0
   refine W.seq_region fun K hK => ?_
   simp (disch := omega) only [↓RU, RV, RH, ↓reduceIte, reduceEqDiff, reduceCtorEq, if_pos, w64, ↓RS, RG, reduceAdd, reduceMul, reduceLeDiff, tyint]
   refine hK _ _ ?_;clear hK K
   refine W.cond rfl (fun h1 => ?_) (fun h1 => ?_)
   ·try simp only [RL] at h1
    obtain ⟨row, hrow, hrm⟩ := get_of (show 0 < p2.length by omega)
    have hr6 := ps3 row hrm
    have hdl : (row.drop 1).length ≤ 6 := by rw [List.length_drop]; omega
    refine W.seq_region fun K hK => ?_
    simp (disch := omega) only [↓RU, RV, RH, ↓reduceIte, reduceEqDiff, reduceCtorEq, if_pos, ↓RS, RG, reduceAdd, reduceMul, reduceLeDiff, ty5, tystring]
    refine hK _ _ ?_;clear hK K
    refine W.region_k fun K hK => ?_
    simp (disch := omega) only [↓RU, RV, RH, ↓reduceIte, reduceEqDiff, reduceCtorEq, if_pos, Option.map_none, w64, ↓RS, RG, reduceAdd, reduceMul, reduceLeDiff, ty5, tystring, hrow, pStr, set_spl, set_str, cells_str, List.length_cons, List.length_nil, Int.toNat_zero, Int.reduceToNat, List.take_length, Nat.zero_mul, Nat.zero_add]
    refine hK _ _ ?_;clear hK K
    rw [set_hd (show 0 < p2.length by omega)]
    refine XBlock.norm ?_
    refine XThen.norm ?_
    have hPs : Sm (p2.set 0 (122 :: row.drop 1)) := sm_set hsm (by simp; omega)
    have hPl : (p2.set 0 (122 :: row.drop 1)).length = p2.length := by simp
    generalize p2.set 0 (122 :: row.drop 1) = P at hPs hPl ⊢
    have htk : (P.map PV.str).take p2.length = P.map .str := List.take_of_length_le (by simp [hPl])
    refine ⟨1, [eStrs P], ⟨[.arr vr 119 2 [eBy code, .int .i64 ((q2 + 1 : Nat) : Int)]], t2 + 1 + 1⟩, ?_, ?_, P, q2 + 1, t2 + 1 + 1, hPs, by omega, by omega, rfl, rfl⟩
    ·simp [-List.mapM_map, Store.frz, frzObs, frzOb, frz_eInts, frz_loc, rfz_loc, frz_int, frz_sl, frz_ints, rfz_ints, frz_strs, frz_bytes, rfz_bytes, rfz_str, rfz_bool, frz_str, frz_bool, Env.put, Env.of, argEnv, rfz_int, List.mapM_append, List.mapM_cons, frz_ref0, tk_strs, rfz_tstr, htk, hPl]
    ·simp [-List.mapM_map, Store.frz, frzObs, frzOb, frz_eInts, frz_loc, rfz_loc, frz_int, frz_sl, frz_ints, rfz_ints, frz_strs, frz_bytes, rfz_bytes, rfz_str, rfz_bool, frz_str, frz_bool, Env.put, Env.of, argEnv, rfz_int, List.mapM_append, List.mapM_cons, frz_ref0, tk_strs, rfz_tstr]
   ·try simp only [RL] at h1
    refine W.skip ?_
    refine XBlock.norm ?_
    refine XThen.norm ?_
    have hPs := hsm
    have hPl : p2.length = p2.length := rfl
    have htk : True := trivial
    refine ⟨1, [eStrs p2], ⟨[.arr vr 119 2 [eBy code, .int .i64 ((q2 + 1 : Nat) : Int)]], t2⟩, ?_, ?_, p2, q2 + 1, t2, hPs, by omega, by omega, rfl, rfl⟩
    ·simp [-List.mapM_map, Store.frz, frzObs, frzOb, frz_eInts, frz_loc, rfz_loc, frz_int, frz_sl, frz_ints, rfz_ints, frz_strs, frz_bytes, rfz_bytes, rfz_str, rfz_bool, frz_str, frz_bool, Env.put, Env.of, argEnv, rfz_int, List.mapM_append, List.mapM_cons, frz_ref0, tk_strs, rfz_tstr, htk, hPl]
    ·simp [-List.mapM_map, Store.frz, frzObs, frzOb, frz_eInts, frz_loc, rfz_loc, frz_int, frz_sl, frz_ints, rfz_ints, frz_strs, frz_bytes, rfz_bytes, rfz_str, rfz_bool, frz_str, frz_bool, Env.put, Env.of, argEnv, rfz_int, List.mapM_append, List.mapM_cons, frz_ref0, tk_strs, rfz_tstr]
 rintro vs S - ⟨p3, q3, tk, hs3, hl3, hq3, rfl, rfl⟩
 refine W.seq_region fun K hK => ?_
 simp (disch := omega) only [↓RU, RV, RH, ↓reduceIte, reduceEqDiff, reduceCtorEq, if_pos, ↓RS, RG, reduceAdd, reduceMul, reduceLeDiff]
 refine hK _ _ ?_;clear hK K
 refine W.ret ?_
 refine BodyQ.ret rfl ?_
 exact ⟨_, p3, q3, tk, rfl, hs3, hl3, hq3, take_all⟩
theorem l91Plain_ev {code : Txt} {q vr t : Nat} (hc : code.length ≤ 1048576) (hq : q ≤ 600000) {rows cols : Nat} (h1 : 1 ≤ rows) (h2 : rows ≤ 6) (w1 : 1 ≤ cols) (w2 : cols ≤ 6) : Ev Tryz.prog 97 [.ref 0 vr 0, .int .i64 rows, .int .i64 cols] ⟨[.arr vr 119 2 [eBy code, .int .i64 (q : Int)]], t⟩ fun v S => ∃ (p2 : List Txt) (q2 t2 : Nat), v = eStrs p2 ∧ Sm p2 ∧ p2.length ≤ 6 ∧ q2 ≤ q + 1000 ∧ S = ⟨[.arr vr 119 2 [eBy code, .int .i64 (q2 : Int)]], t2⟩ := by
 refine Ev.of ⟨Tryz.func97, by kernel_rfl, rfl, by kernel_rfl⟩ tabOk mixed (by show 3 ≤ Tryz.f97.ntmps; decide) ?_
 refine W.seq_region fun K hK => ?_
 simp (disch := omega) only [↓RU, RV, RH, ↓reduceIte, reduceEqDiff, reduceCtorEq, if_pos, ↓RS, RG, reduceAdd, reduceMul, reduceLeDiff]
 refine hK _ _ ?_;clear hK K
 refine W.seq_region fun K hK => ?_
 simp (disch := omega) only [↓RU, RV, RH, ↓reduceIte, reduceEqDiff, reduceCtorEq, if_pos, List.append_nil, ↓RS, RG, reduceAdd, reduceMul, reduceLeDiff]
 refine CallR.ev (l91Some_ev (q := q) hc (by omega) h1 h2 w1 w2) ?_
 rintro _ _ ⟨p3, q3, t3, rfl, hs3, hl3, hq3, rfl⟩
 simp (disch := omega) only [↓RU, RV, RH, ↓reduceIte, reduceEqDiff, reduceCtorEq, if_pos, List.append_nil, ↓RS, RG, reduceAdd, reduceMul, reduceLeDiff]
 refine hK _ _ ?_;clear hK K
 refine W.seq ?_
 refine W.seq_region fun K hK => ?_
 simp (disch := omega) only [↓RU, RV, RH, ↓reduceIte, reduceEqDiff, reduceCtorEq, if_pos, ↓RS, RG, reduceAdd, reduceMul, reduceLeDiff]
 refine hK _ _ ?_;clear hK K
 refine W.block ?_
 refine W.loop [0, 1, 2, 7, 8] (fun n vs S => ∃ (i : Nat) (p2 : List Txt) (q2 tk : Nat), n = 3 - i ∧ i ≤ 3 ∧ Sm p2 ∧ p2.length ≤ 6 ∧ q2 ≤ q + 200 + 200 * i ∧ vs = [.ref 0 vr 0, .int .i64 rows, .int .i64 cols, eStrs p2, .int .i64 i] ∧ S = ⟨[.arr vr 119 2 [eBy code, .int .i64 (q2 : Int)]], tk⟩) 3 ?_ ?_
 ·refine ⟨1, 0, p3, q3, t3, rfl, by omega, hs3, hl3, by omega, ?_, rfl⟩
  simp [Env.put, Env.of, argEnv]
 rintro n vs S - ⟨i, p2, q2, tk, rfl, h_i, hs2, hl2, hq2, rfl, rfl⟩
 refine W.seq ?_
 refine W.seq_region fun K hK => ?_
 by_cases hi3 : i < 3
 ·skip
  have hd : decide ((i : Int) < 3) = true := decide_eq_true (by omega)
  simp (disch := omega) only [↓RU, RV, RH, ↓reduceIte, reduceEqDiff, reduceCtorEq, if_pos, w64, List.append_nil, ↓RS, RG, reduceAdd, reduceMul, reduceLeDiff, tyint, hd]
  refine CallR.pc (sWallPlain_pc hs2) rfl (.inl rfl) ?_
  simp (disch := omega) only [↓RU, RV, RH, ↓reduceIte, reduceEqDiff, reduceCtorEq, if_pos, w64, List.append_nil, ↓RS, RG, reduceAdd, reduceMul, reduceLeDiff, tyint, hd]
  refine hK _ _ ?_;clear hK K
  refine W.cond rfl (fun h => ?_) (fun h => ?_)
  ·try simp only [RL] at h
   refine W.skip ?_
   refine XThen.norm ?_
   refine W.seq ?_
   refine W.block ?_
   refine W.region_k fun K hK => ?_
   simp (disch := omega) only [↓RU, RV, RH, ↓reduceIte, reduceEqDiff, reduceCtorEq, if_pos, List.append_nil, ↓RS, RG, reduceAdd, reduceMul, reduceLeDiff]
   refine CallR.ev (l91Some_ev (q := q2) hc (by omega) h1 h2 w1 w2) ?_
   rintro _ _ ⟨p3, q3, t3, rfl, hs3, hl3, hq3, rfl⟩
   simp (disch := omega) only [↓RU, RV, RH, ↓reduceIte, reduceEqDiff, reduceCtorEq, if_pos, List.append_nil, ↓RS, RG, reduceAdd, reduceMul, reduceLeDiff]
   refine hK _ _ ?_;clear hK K
   refine XBlock.norm ?_
   refine XThen.norm ?_
   refine W.region_k fun K hK => ?_
   simp (disch := omega) only [↓RU, RV, RH, ↓reduceIte, reduceEqDiff, reduceCtorEq, if_pos, w64, ↓RS, RG, reduceAdd, reduceMul, reduceLeDiff, tyint]
   refine hK _ _ ?_;clear hK K
   refine XThen.norm ?_
   refine ⟨3 - (i + 1), by omega, 1, i + 1, p3, q3, t3, rfl, by omega, hs3, hl3, by omega, ?_, rfl⟩
   simp [Env.put, Env.of]
  ·try simp only [RL] at h
   refine W.exit ?_
   refine XThen.exit ?_
   refine XThen.exit ?_
   refine XBlock.hit ?_
   refine XThen.norm ?_
   refine W.seq_region fun K hK => ?_
   simp (disch := omega) only [↓RU, RV, RH, ↓reduceIte, reduceEqDiff, reduceCtorEq, if_pos, ↓RS, RG, reduceAdd, reduceMul, reduceLeDiff]
   refine hK _ _ ?_;clear hK K
   refine W.ret ?_
   refine BodyQ.ret rfl ?_
   exact ⟨_, p2, q2, tk, rfl, hs2, hl2, by omega, take_all⟩
 ·skip
  have hd : decide ((i : Int) < 3) = false := decide_eq_false (by omega)
  simp (disch := omega) only [↓RU, RV, RH, ↓reduceIte, reduceEqDiff, reduceCtorEq, if_pos, w64, List.append_nil, ↓RS, RG, reduceAdd, reduceMul, reduceLeDiff, tyint, hd]
  refine hK _ _ ?_;clear hK K
  refine W.cond rfl (fun h => ?_) (fun h => ?_)
  ·try simp only [RL] at h
   exact absurd h (by simp)
  ·try simp only [RL] at h
   refine W.exit ?_
   refine XThen.exit ?_
   refine XThen.exit ?_
   refine XBlock.hit ?_
   refine XThen.norm ?_
   refine W.seq_region fun K hK => ?_
   simp (disch := omega) only [↓RU, RV, RH, ↓reduceIte, reduceEqDiff, reduceCtorEq, if_pos, ↓RS, RG, reduceAdd, reduceMul, reduceLeDiff]
   refine hK _ _ ?_;clear hK K
   refine W.ret ?_
   refine BodyQ.ret rfl ?_
   exact ⟨_, p2, q2, tk, rfl, hs2, hl2, by omega, take_all⟩
theorem tdiv39 {k : Nat} : ((k : Nat) : Int).tdiv 39 = ((k / 39 : Nat) : Int) := (Int.ofNat_tdiv k 39).symm
theorem tdiv59 {k : Nat} : ((k : Nat) : Int).tdiv 59 = ((k / 59 : Nat) : Int) := (Int.ofNat_tdiv k 59).symm
theorem tw39 : ((39 : Int) = 0) = False := by simp
theorem tw59 : ((59 : Int) = 0) = False := by simp
theorem tk_ints {l : List Int} {q : IntKind} : (l.map (PV.int q)).take l.length = l.map (.int q) := List.take_of_length_le (by simp)
theorem tk_i {l : List Int} {q : IntKind} {i : Nat} (h : l.length = i) : (l.map (PV.int q)).take i = l.map (.int q) := List.take_of_length_le (by simp [h])
theorem l92Needs_ev {code : Txt} {q vr t : Nat} (hc : code.length ≤ 1048576) (hq : q ≤ 700000) {p : List Txt} (hs : Sm p) : Ev Tryz.prog 99 [.ref 0 vr 0, eStrs p] ⟨[.arr vr 119 2 [eBy code, .int .i64 (q : Int)]], t⟩ fun v S => ∃ (l : List Int) (q2 t2 v1 : Nat), v = .loc 1 v1 0 l.length ∧ l.length ≤ 400 ∧ q2 ≤ q + 1000 ∧ S = ⟨[.arr vr 119 2 [eBy code, .int .i64 (q2 : Int)], .arr v1 3 1 (l.map (.int .i64))], t2⟩ := by
 have hrb := l1Rooms_bound p
 refine Ev.of ⟨Tryz.func99, by kernel_rfl, rfl, by kernel_rfl⟩ tabOk mixed (by show 2 ≤ Tryz.f99.ntmps; decide) ?_
 refine W.seq_region fun K hK => ?_
 simp (disch := omega) only [↓RU, RV, RH, ↓reduceIte, reduceEqDiff, reduceCtorEq, if_pos, ↓RS, RG, reduceAdd, reduceMul, reduceLeDiff]
 refine hK _ _ ?_;clear hK K
 refine W.seq_region fun K hK => ?_
 simp (disch := omega) only [↓RU, RV, RH, ↓reduceIte, reduceEqDiff, reduceCtorEq, if_pos, ↓RS, RG, reduceAdd, reduceMul, reduceLeDiff, tyLint, tyint]
 refine hK _ _ ?_;clear hK K
 refine W.seq_region fun K hK => ?_
 simp (disch := omega) only [↓RU, RV, RH, ↓reduceIte, reduceEqDiff, reduceCtorEq, if_pos, List.append_nil, w64, ↓RS, RG, reduceAdd, reduceMul, reduceLeDiff, tyint]
 refine CallR.pc (l1Rooms_pc hs) rfl (.inl rfl) ?_
 simp (disch := omega) only [↓RU, RV, RH, ↓reduceIte, reduceEqDiff, reduceCtorEq, if_pos, List.append_nil, w64, ↓RS, RG, reduceAdd, reduceMul, reduceLeDiff, tyint]
 refine CallR.ev (pick_ev (q := q) hc (by omega) 40 (by omega) (by omega)) ?_
 rintro _ _ ⟨k0, rfl, hk0z, hk0, rfl⟩
 have hk0b := hk0 (by omega)
 simp (disch := omega) only [↓RU, RV, RH, ↓reduceIte, reduceEqDiff, reduceCtorEq, if_pos, List.append_nil, w64, ↓RS, RG, reduceAdd, reduceMul, reduceLeDiff, tyint, tdiv39, tw39, tdiv59, tw59]
 refine hK _ _ ?_;clear hK K
 obtain ⟨N, hN⟩ : ∃ N : Nat, l1Rooms p + ((k0 / 39 : Nat) : Int) = N := ⟨(l1Rooms p + ((k0 / 39 : Nat) : Int)).toNat, by omega⟩
 have hN2 : N ≤ 300 := by omega
 simp only [hN]
 refine W.seq ?_
 refine W.seq_region fun K hK => ?_
 simp (disch := omega) only [↓RU, RV, RH, ↓reduceIte, reduceEqDiff, reduceCtorEq, if_pos, ↓RS, RG, reduceAdd, reduceMul, reduceLeDiff]
 refine hK _ _ ?_;clear hK K
 refine W.block ?_
 refine W.loop [0, 1, 5, 6, 7] (fun n vs S => ∃ (i q2 v1 t2 : Nat) (l : List Int), n = N - i ∧ i ≤ N ∧ l.length = i ∧ q2 ≤ q + 1 + 2 * i ∧ vs = [.ref 0 vr 0, eStrs p, .loc 1 v1 0 i, .int .i64 N, .int .i64 i] ∧ S = ⟨[.arr vr 119 2 [eBy code, .int .i64 (q2 : Int)], .arr v1 3 1 (l.map (.int .i64))], t2⟩) N ?_ ?_
 ·refine ⟨2, 0, q + 1, t, t + 1, [], rfl, by omega, rfl, by omega, ?_, rfl⟩
  simp [Env.put, Env.of, argEnv]
 rintro n vs S - ⟨i, q2, v1, t2, l, rfl, h_i, hll, hq2, rfl, rfl⟩
 refine W.seq ?_
 refine W.seq_region fun K hK => ?_
 simp (disch := omega) only [↓RU, RV, RH, ↓reduceIte, reduceEqDiff, reduceCtorEq, if_pos, w64, ↓RS, RG, reduceAdd, reduceMul, reduceLeDiff, tyint]
 refine hK _ _ ?_;clear hK K
 refine W.cond rfl (fun h => ?_) (fun h => ?_)
 ·try simp only [RL] at h
  refine W.skip ?_
  refine XThen.norm ?_
  refine W.seq ?_
  refine W.block ?_
  refine W.region_k fun K hK => ?_
  simp (disch := omega) only [↓RU, RV, RH, ↓reduceIte, reduceEqDiff, reduceCtorEq, if_pos, List.append_nil, w64, ↓RS, RG, reduceAdd, reduceMul, reduceLeDiff, tyLint, tyint, tk_i hll]
  refine CallR.ev (pick_ev (q := q2) hc (by omega) 6 (by omega) (by omega)) ?_
  rintro _ _ ⟨k1, rfl, hk1z, hk1, rfl⟩
  have hk1b := hk1 (by omega)
  simp (disch := omega) only [↓RU, RV, RH, ↓reduceIte, reduceEqDiff, reduceCtorEq, if_pos, List.append_nil, w64, ↓RS, RG, reduceAdd, reduceMul, reduceLeDiff, tyLint, tyint, tk_i hll, tdiv39, tw39, tdiv59, tw59]
  refine CallR.ev (pick_ev (q := q2 + 1) hc (by omega) 60 (by omega) (by omega)) ?_
  rintro _ _ ⟨k2, rfl, hk2z, hk2, rfl⟩
  have hk2b := hk2 (by omega)
  simp (disch := omega) only [↓RU, RV, RH, ↓reduceIte, reduceEqDiff, reduceCtorEq, if_pos, List.append_nil, w64, ↓RS, RG, reduceAdd, reduceMul, reduceLeDiff, tyLint, tyint, tk_i hll, tdiv39, tw39, tdiv59, tw59]
  refine hK _ _ ?_;clear hK K
  refine XBlock.norm ?_
  refine XThen.norm ?_
  refine W.region_k fun K hK => ?_
  simp (disch := omega) only [↓RU, RV, RH, ↓reduceIte, reduceEqDiff, reduceCtorEq, if_pos, w64, ↓RS, RG, reduceAdd, reduceMul, reduceLeDiff, tyint]
  refine hK _ _ ?_;clear hK K
  refine XThen.norm ?_
  refine ⟨N - (i + 1), by omega, 2, i + 1, q2 + 1 + 1, t2 + 1, t2 + 2, l ++ [1 + (k1 : Int) + ((k2 / 59 : Nat) : Int) * 9], rfl, by omega, by simp [hll], by omega, ?_, ?_⟩
  all_goals simp [Env.put, Env.of, take_eq, tk_le, hll, tk_i hll]
 ·try simp only [RL] at h
  obtain rfl : i = N := by omega
  refine W.exit ?_
  refine XThen.exit ?_
  refine XThen.exit ?_
  refine XBlock.hit ?_
  refine XThen.norm ?_
  refine W.seq_region fun K hK => ?_
  simp (disch := omega) only [↓RU, RV, RH, ↓reduceIte, reduceEqDiff, reduceCtorEq, if_pos, ↓RS, RG, reduceAdd, reduceMul, reduceLeDiff]
  refine hK _ _ ?_;clear hK K
  refine W.ret ?_
  refine BodyQ.ret rfl ?_
  exact ⟨_, l, q2, t2, v1, by rw [hll]; rfl, by omega, by omega, take_all⟩
theorem l92Sized_ev {code : Txt} (hc : code.length ≤ 1048576) : Ev Tryz.prog 68 [eBy code] ⟨[], 0⟩ fun v S => ∃ (p : List Txt) (ws : List Int) (t : Nat), Sm p ∧ ws.length ≤ 400 ∧ v = .tup [eStrs p, eInts ws] ∧ S = ⟨[], t⟩ := by
 refine Ev.of ⟨Tryz.func68, by kernel_rfl, rfl, by kernel_rfl⟩ tabOk mixed (by show 1 ≤ Tryz.f68.ntmps; decide) ?_
 refine W.seq_region fun K hK => ?_
 simp (disch := omega) only [↓RU, RV, RH, ↓reduceIte, reduceEqDiff, reduceCtorEq, if_pos, ↓RS, RG, reduceAdd, reduceMul, reduceLeDiff]
 refine hK _ _ ?_;clear hK K
 refine W.seq_region fun K hK => ?_
 simp (disch := omega) only [↓RU, RV, RH, ↓reduceIte, reduceEqDiff, reduceCtorEq, if_pos, List.append_nil, ↓RS, RG, reduceAdd, reduceMul, reduceLeDiff, rdO]
 refine CallR.pn (l6Open_pn hc) rfl (.inr rfl) ?_
 simp (disch := omega) only [↓RU, RV, RH, ↓reduceIte, reduceEqDiff, reduceCtorEq, if_pos, List.append_nil, ↓RS, RG, reduceAdd, reduceMul, reduceLeDiff, rdO, rdO, RN]
 refine hK _ _ ?_;clear hK K
 refine W.seq_region fun K hK => ?_
 have hc2 : (code.take 2000).length ≤ 1048576 := by rw [List.length_take]; omega
 generalize code.take 2000 = code2 at hc2 ⊢
 simp (disch := omega) only [↓RU, RV, RH, ↓reduceIte, reduceEqDiff, reduceCtorEq, if_pos, List.append_nil, ↓RS, RG, reduceAdd, reduceMul, reduceLeDiff]
 refine CallR.ev (l91Plain_ev (q := 0) (code := code2) hc2 (by omega) (rows := 5) (cols := 5) (by omega) (by omega) (by omega) (by omega)) ?_
 rintro _ _ ⟨p, q, t, rfl, hs, hl, hq, rfl⟩
 simp (disch := omega) only [↓RU, RV, RH, ↓reduceIte, reduceEqDiff, reduceCtorEq, if_pos, List.append_nil, ↓RS, RG, reduceAdd, reduceMul, reduceLeDiff]
 refine hK _ _ ?_;clear hK K
 refine W.joinZ [2, 3] (fun vs S => ∃ (ws : List Int) (tk : Nat), ws.length ≤ 400 ∧ vs = [eStrs p, eInts ws] ∧ S = ⟨[], tk⟩) ?_ ?_
 ·
  refine W.region_k fun K hK => ?_
  simp (disch := omega) only [↓RU, RV, RH, ↓reduceIte, reduceEqDiff, reduceCtorEq, if_pos, List.append_nil, ↓RS, RG, reduceAdd, reduceMul, reduceLeDiff]
  refine CallR.ev (l92Needs_ev (q := q) hc2 (by omega) hs) ?_
  rintro _ _ ⟨ws, q2, t2, v1, rfl, hwsl, hq2, rfl⟩
  simp (disch := omega) only [↓RU, RV, RH, ↓reduceIte, reduceEqDiff, reduceCtorEq, if_pos, List.append_nil, ↓RS, RG, reduceAdd, reduceMul, reduceLeDiff]
  refine hK _ _ ?_;clear hK K
  refine XThen.norm ?_
  refine ⟨0, [eStrs p, eInts ws], ⟨[], t2⟩, ?_, ?_, ws, t2, hwsl, rfl, rfl⟩
  ·simp [-List.mapM_map, Store.frz, frzObs, frzOb, frz_eInts, frz_loc, rfz_loc, frz_int, frz_sl, frz_ints, rfz_ints, frz_strs, frz_bytes, rfz_bytes, rfz_str, rfz_bool, frz_str, frz_bool, Env.put, Env.of, argEnv, rfz_int, List.mapM_append, List.mapM_cons, frz_ref0, tk_strs, rfz_tstr, tk_ints, ← frz_eInts]
  ·simp [-List.mapM_map, Store.frz, frzObs, frzOb, frz_eInts, frz_loc, rfz_loc, frz_int, frz_sl, frz_ints, rfz_ints, frz_strs, frz_bytes, rfz_bytes, rfz_str, rfz_bool, frz_str, frz_bool, Env.put, Env.of, argEnv, rfz_int, List.mapM_append, List.mapM_cons, frz_ref0, tk_strs, rfz_tstr, tk_ints]
 rintro vs S - ⟨ws, tk, hwsl, rfl, rfl⟩
 refine W.ret ?_
 refine BodyQ.ret rfl ?_
 exact ⟨0, p, ws, tk, hs, hwsl, rfl, rfl⟩
theorem drawSizeWide_ev {code : Txt} (hc : code.length ≤ 1048576) : Ev Tryz.prog 28 [eBy code] ⟨[], 0⟩ fun v S => ∃ (p : List Txt) (ws : List Int) (t : Nat), Sm p ∧ ws.length ≤ 400 ∧ v = .tup [eStrs p, eInts ws] ∧ S = ⟨[], t⟩ := by
 refine Ev.of ⟨Tryz.func28, by kernel_rfl, rfl, by kernel_rfl⟩ tabOk mixed (by show 1 ≤ Tryz.f28.ntmps; decide) ?_
 refine W.seq_region fun K hK => ?_
 simp (disch := omega) only [↓RU, RV, RH, ↓reduceIte, reduceEqDiff, reduceCtorEq, if_pos, ↓RS, RG, reduceAdd, reduceMul, reduceLeDiff]
 refine hK _ _ ?_;clear hK K
 refine W.seq_region fun K hK => ?_
 simp (disch := omega) only [↓RU, RV, RH, ↓reduceIte, reduceEqDiff, reduceCtorEq, if_pos, List.append_nil, ↓RS, RG, reduceAdd, reduceMul, reduceLeDiff]
 refine CallR.ev (l92Sized_ev hc) ?_
 rintro _ _ ⟨p, ws, t, hs, hwsl, rfl, rfl⟩
 simp (disch := omega) only [↓RU, RV, RH, ↓reduceIte, reduceEqDiff, reduceCtorEq, if_pos, List.append_nil, ↓RS, RG, reduceAdd, reduceMul, reduceLeDiff]
 refine hK _ _ ?_;clear hK K
 refine W.ret ?_
 refine BodyQ.ret rfl ?_
 exact ⟨0, p, ws, _, hs, hwsl, rfl, rfl⟩
def areaOf (p : List Txt) (ws hs : List Int) : Int := if needsB p ws && needsB p hs then least (allS p 0) ws * least (allS p 1) hs else 0
theorem sSizeArea_pc {p : List Txt} (hs : Sm p) {ws ht : List Int} (hw : ws.length ≤ 1048576) (hh : ht.length ≤ 1048576) : PC Tryz.prog 17 [eStrs p, eInts ws, eInts ht] (.tup [.int .i64 (areaOf p ws ht), .bool (needsB p ws && needsB p ht)]) true := by
 refine PC.of ⟨Tryz.func17, by kernel_rfl, rfl, by kernel_rfl⟩ tabOk mixed (by show 3 ≤ Tryz.f17.ntmps; decide) ?_
 refine W.seq_region fun K hK => ?_
 simp (disch := omega) only [↓RU, RV, RH, ↓reduceIte, reduceEqDiff, reduceCtorEq, if_pos]
 refine hK _ _ ?_;clear hK K
 refine W.seq ?_
 refine W.seq_region fun K hK => ?_
 cases hg : needsB p ws
 ·skip
  simp (disch := omega) only [↓RU, RV, RH, ↓reduceIte, reduceEqDiff, reduceCtorEq, if_pos, List.append_nil, hg]
  refine CallR.pc (l7Needs_pc hs hw) rfl (.inl rfl) ?_
  simp (disch := omega) only [↓RU, RV, RH, ↓reduceIte, reduceEqDiff, reduceCtorEq, if_pos, List.append_nil, hg]
  refine hK _ _ ?_;clear hK K
  refine W.cond rfl (fun h0 => ?_) (fun h0 => ?_)
  ·try simp only [RL] at h0
   refine W.seq_region fun K hK => ?_
   simp (disch := omega) only [↓RU, RV, RH, ↓reduceIte, reduceEqDiff, reduceCtorEq, if_pos]
   refine hK _ _ ?_;clear hK K
   refine W.ret ?_
   refine XThen.ret ?_
   refine BodyQ.ret rfl ?_
   rw [show areaOf p ws ht = 0 by simp [areaOf, hg], hg]
   rfl
  ·try simp only [RL] at h0
   exact absurd h0 (by simp)
 ·skip
  simp (disch := omega) only [↓RU, RV, RH, ↓reduceIte, reduceEqDiff, reduceCtorEq, if_pos, List.append_nil, hg]
  refine CallR.pc (l7Needs_pc hs hw) rfl (.inl rfl) ?_
  simp (disch := omega) only [↓RU, RV, RH, ↓reduceIte, reduceEqDiff, reduceCtorEq, if_pos, List.append_nil, hg]
  refine CallR.pc (l7Needs_pc hs hh) rfl (.inl rfl) ?_
  simp (disch := omega) only [↓RU, RV, RH, ↓reduceIte, reduceEqDiff, reduceCtorEq, if_pos, List.append_nil, hg]
  refine hK _ _ ?_;clear hK K
  refine W.cond rfl (fun h1 => ?_) (fun h1 => ?_)
  ·try simp only [RL] at h1
   refine W.seq_region fun K hK => ?_
   simp (disch := omega) only [↓RU, RV, RH, ↓reduceIte, reduceEqDiff, reduceCtorEq, if_pos]
   refine hK _ _ ?_;clear hK K
   refine W.ret ?_
   refine XThen.ret ?_
   refine BodyQ.ret rfl ?_
   rw [show areaOf p ws ht = 0 by simp [areaOf, h1], hg, h1]
   rfl
  ·try simp only [RL] at h1
   obtain ⟨k1, k2, k3, k4, k5, k6⟩ := needsB_ok hg
   obtain ⟨_, _, _, l4, l5, l6⟩ := needsB_ok h1
   have b1 := least_bnd (sets := allS p 0) k6 k5
   have b2 := least_bnd (sets := allS p 1) l6 l5
   have b3 := Int.mul_nonneg b1.1 b2.1
   have b4 := Int.mul_le_mul b1.2 b2.2 b2.1 (by omega)
   refine W.skip ?_
   refine XThen.norm ?_
   refine W.seq_region fun K hK => ?_
   simp (disch := omega) only [↓RU, RV, RH, ↓reduceIte, reduceEqDiff, reduceCtorEq, if_pos, List.append_nil, w64, tyint]
   refine CallR.pc (l7Least_pc hs k2 k3 k4 k6 0) rfl (.inl rfl) ?_
   simp (disch := omega) only [↓RU, RV, RH, ↓reduceIte, reduceEqDiff, reduceCtorEq, if_pos, List.append_nil, w64, tyint]
   refine CallR.pc (l7Least_pc hs k2 k3 l4 l6 1) rfl (.inl rfl) ?_
   simp (disch := omega) only [↓RU, RV, RH, ↓reduceIte, reduceEqDiff, reduceCtorEq, if_pos, List.append_nil, w64, tyint]
   refine hK _ _ ?_;clear hK K
   refine W.ret ?_
   refine BodyQ.ret rfl ?_
   rw [show areaOf p ws ht = least (allS p 0) ws * least (allS p 1) ht by simp [areaOf, hg, h1], hg, h1]
   rfl
theorem sizeWide_pc {p : List Txt} (hs : Sm p) {ws : List Int} (hw : ws.length ≤ 1048576) (hrm : plainI p = true → RmOk (gP p) p.length (w0 (readG p)) (rP p).length) (hup : plainI p = true → ∃ rk, Up (leftG (gP p) p.length (w0 (readG p)) (rP p).length) (rP p).length rk) : PC Tryz.prog 18 [eStrs p, eInts ws] (sizeV (needV p [ws]) (leftG (gP p) p.length (w0 (readG p)) (rP p).length) ws (rP p).length) true := by
 refine PC.of ⟨Tryz.func18, by kernel_rfl, rfl, by kernel_rfl⟩ tabOk mixed (by show 2 ≤ Tryz.f18.ntmps; decide) ?_
 refine W.seq_region fun K hK => ?_
 simp (disch := omega) only [↓RU, RV, RH, ↓reduceIte, reduceEqDiff, reduceCtorEq, if_pos, ↓RS, RG, reduceAdd, reduceMul, reduceLeDiff]
 refine hK _ _ ?_;clear hK K
 refine W.seq_region fun K hK => ?_
 simp (disch := omega) only [↓RU, RV, RH, ↓reduceIte, reduceEqDiff, reduceCtorEq, if_pos, List.append_nil, ↓RS, RG, reduceAdd, reduceMul, reduceLeDiff, ty1, tyLint, tyint]
 refine CallR.ev (needing_ev hs (wss := [ws]) (by simp) (by intro a ha; rw [List.mem_singleton] at ha; subst ha; exact hw)) ?_
 rintro _ _ ⟨x, rfl, hx, rfl⟩
 simp (disch := omega) only [↓RU, RV, RH, ↓reduceIte, reduceEqDiff, reduceCtorEq, if_pos, List.append_nil, ↓RS, RG, reduceAdd, reduceMul, reduceLeDiff, ty1, tyLint, tyint]
 refine hK _ _ ?_;clear hK K
 refine W.seq ?_
 refine W.seq_region fun K hK => ?_
 simp (disch := omega) only [↓RU, RV, RH, ↓reduceIte, reduceEqDiff, reduceCtorEq, if_pos, ↓RS, RG, reduceAdd, reduceMul, reduceLeDiff]
 refine hK _ _ ?_;clear hK K
 refine W.cond rfl (fun h => ?_) (fun h => ?_)
 ·try simp only [RL] at h
  refine W.seq_region fun K hK => ?_
  simp (disch := omega) only [↓RU, RV, RH, ↓reduceIte, reduceEqDiff, reduceCtorEq, if_pos, ↓RS, RG, reduceAdd, reduceMul, reduceLeDiff]
  refine hK _ _ ?_;clear hK K
  refine W.ret ?_
  refine XThen.ret ?_
  refine BodyQ.ret rfl ?_
  rw [h]
  rfl
 ·try simp only [RL] at h
  obtain rfl := hx h
  obtain ⟨hpl, hwl, hwok⟩ := needV_one h
  have hok := (plain_okB hpl).1
  have hg := okB_gw hok
  have hn9 := okB_rooms hok
  have hn1 := okB_rooms1 hok
  obtain ⟨rk, hu⟩ := hup hpl
  have hhl := heaviest_len (M := (leftG (gP p) p.length (w0 (readG p)) (rP p).length)) (ws := ws) (n := (rP p).length)
  obtain ⟨y0, hy0, -⟩ := get_of (show 0 < (heaviest (leftG (gP p) p.length (w0 (readG p)) (rP p).length) ws (rP p).length).length by omega)
  refine W.skip ?_
  refine XThen.norm ?_
  refine W.seq_region fun K hK => ?_
  simp (disch := omega) only [↓RU, RV, RH, ↓reduceIte, reduceEqDiff, reduceCtorEq, if_pos, List.append_nil, ↓RS, RG, reduceAdd, reduceMul, reduceLeDiff, ty0, ty2, tybool, ty12, ty14, ty22]
  refine CallR.pc (orders_pc hg rfl hn9 (hrm hpl)) rfl (.inl rfl) ?_
  simp (disch := omega) only [↓RU, RV, RH, ↓reduceIte, reduceEqDiff, reduceCtorEq, if_pos, List.append_nil, ↓RS, RG, reduceAdd, reduceMul, reduceLeDiff, ty0, ty2, tybool, ty12, ty14, ty22]
  refine CallR.pn (heaviest_pn hu hn9 hwl hwok) rfl (.inl rfl) ?_
  simp (disch := omega) only [↓RU, RV, RH, ↓reduceIte, reduceEqDiff, reduceCtorEq, if_pos, List.append_nil, ↓RS, RG, reduceAdd, reduceMul, reduceLeDiff, ty0, ty2, tybool, ty12, ty14, ty22, RN]
  refine CallR.pc (max_pc hy0 (by omega)) (mapM_one (reify_hv (k := 8) rfl) rfl) (.inl rfl) ?_
  simp (disch := omega) only [↓RU, RV, RH, ↓reduceIte, reduceEqDiff, reduceCtorEq, if_pos, List.append_nil, ↓RS, RG, reduceAdd, reduceMul, reduceLeDiff, ty0, ty2, tybool, ty12, ty14, ty22]
  refine hK _ _ ?_;clear hK K
  refine W.ret ?_
  refine BodyQ.ret rfl ?_
  rw [h]
  rfl
section
theorem foldl_max_ge {l : List Int} : ∀ {m : Int}, m ≤ l.foldl max m ∧ ∀ x ∈ l, x ≤ l.foldl max m := by
 induction l with
 | nil => intro m; simp
 | cons a l ih =>
  intro m
  obtain ⟨h1, h2⟩ := ih (m := max m a)
  refine ⟨by simp only [List.foldl_cons]; omega, fun x hx => ?_⟩
  simp only [List.foldl_cons]
  rcases List.mem_cons.1 hx with rfl | hx
  ·omega
  ·exact h2 x hx
theorem foldl_max_mem {l : List Int} : ∀ {m : Int}, l.foldl max m = m ∨ l.foldl max m ∈ l := by
 induction l with
 | nil => intro m; simp
 | cons a l ih =>
  intro m
  simp only [List.foldl_cons]
  rcases ih (m := max m a) with h | h
  ·rw [h]
   by_cases q : a ≤ m
   ·left; omega
   ·right; rw [show max m a = a by omega]; simp
  ·right; exact List.mem_cons_of_mem _ h
theorem maxL_ge {l : List Int} {x : Int} (h : x ∈ l) : x ≤ maxL l := by
 cases l with
 | nil => simp at h
 | cons a l =>
  obtain ⟨h1, h2⟩ := foldl_max_ge (l := l) (m := a)
  unfold maxL
  rcases List.mem_cons.1 h with rfl | h
  ·exact h1
  ·exact h2 x h
theorem maxL_mem {l : List Int} (h : l ≠ []) : maxL l ∈ l := by
 cases l with
 | nil => exact absurd rfl h
 | cons a l =>
  show l.foldl max a ∈ a :: l
  rcases foldl_max_mem (l := l) (m := a) with h | h
  ·rw [h]; simp
  ·exact List.mem_cons_of_mem _ h
section
variable {M : List (List Bool)} {ws : List Int} {n : Nat} {rk : Nat → Nat}
theorem hb_le {b : Nat} (hb : b < n) : HB M ws n b ≤ maxL (heaviest M ws n) := maxL_ge (List.mem_of_getElem? (hv_at hb))
theorem hb_is (hn : 1 ≤ n) : ∃ b, b < n ∧ HB M ws n b = maxL (heaviest M ws n) := by
 have h := maxL_mem (l := heaviest M ws n) (by intro h; have := congrArg List.length h; rw [heaviest_len] at this; simp at this; omega)
 unfold heaviest at h
 obtain ⟨b, hb, e⟩ := List.mem_map.1 h
 exact ⟨b, by simpa using hb, e⟩
theorem beg_nn (b : Nat) : 0 ≤ beg M ws n b := hvF_pos n
theorem beg_ge {a b : Nat} (ha : a < n) (h : getB M a b = true) : HB M ws n a ≤ beg M ws n b := hvF_ge ha h
theorem hvF_at {g : Nat → Int} {b : Nat} : ∀ i, hvF M g b i = 0 ∨ ∃ a, a < i ∧ getB M a b = true ∧ hvF M g b i = g a
 | 0 => .inl rfl
 | i + 1 => by
  rw [hvF_succ]
  have ih := hvF_at (g := g) (b := b) i
  cases hc : getB M i b with
  | false =>
   simp only [Bool.false_eq_true, if_false]
   rcases ih with h | ⟨a, h1, h2, h3⟩
   ·exact .inl h
   ·exact .inr ⟨a, by omega, h2, h3⟩
  | true =>
   simp only [if_true]
   by_cases q : g i ≤ hvF M g b i
   ·rw [show max (hvF M g b i) (g i) = hvF M g b i by omega]
    rcases ih with h | ⟨a, h1, h2, h3⟩
    ·exact .inl h
    ·exact .inr ⟨a, by omega, h2, h3⟩
   ·rw [show max (hvF M g b i) (g i) = g i by omega]
    exact .inr ⟨i, by omega, hc, rfl⟩
theorem beg_at (b : Nat) : beg M ws n b = 0 ∨ ∃ a, a < n ∧ getB M a b = true ∧ beg M ws n b = HB M ws n a := hvF_at n
theorem need_at (hw : NeedOk ws) {b : Nat} (hb : b < ws.length) : 1 ≤ getI ws b ∧ getI ws b ≤ 9 := by
 obtain ⟨x, hx, hm⟩ := get_of hb
 rw [getI_is hx]; exact hw x hm
theorem hv_mono {vs : List Int} (hv1 : ∀ b, getI vs b ≤ getI ws b) : ∀ f b, hv M vs n f b ≤ hv M ws n f b
 | 0, _ => Int.le_refl _
 | f + 1, b => by
  have : hvF M (hv M vs n f) b n ≤ hvF M (hv M ws n f) b n := hvF_le (hvF_pos n) fun a ha hab => Int.le_trans (hv_mono hv1 f a) (hvF_ge ha hab)
  show hvF M (hv M vs n f) b n + getI vs b ≤ hvF M (hv M ws n f) b n + getI ws b
  have := hv1 b
  omega
theorem max_mono {vs : List Int} (hn : 1 ≤ n) (hv1 : ∀ b, getI vs b ≤ getI ws b) : maxL (heaviest M vs n) ≤ maxL (heaviest M ws n) := by
 obtain ⟨b, hb, e⟩ := hb_is (M := M) (ws := vs) hn
 rw [← e]
 exact Int.le_trans (hv_mono hv1 101 b) (hb_le hb)
def wsum (ws : List Int) (n : Nat) (f : Nat → Bool) : Int := (List.range n).foldl (fun s a => if f a then s + getI ws a else s) 0
theorem wsum_succ {f : Nat → Bool} : wsum ws (n + 1) f = if f n then wsum ws n f + getI ws n else wsum ws n f := by unfold wsum; rw [foldl_rg]
theorem wsum_le {f g : Nat → Bool} (hw : ∀ a, a < n → 0 ≤ getI ws a) (h : ∀ a, a < n → f a = true → g a = true) : wsum ws n f ≤ wsum ws n g := by
 induction n with
 | zero => exact Int.le_refl _
 | succ n ih =>
  rw [wsum_succ, wsum_succ]
  have h1 := ih (fun a ha => hw a (by omega)) fun a ha => h a (by omega)
  have h2 := hw n (by omega)
  cases hf : f n with
  | false => cases hg : g n with
   | false => simpa using h1
   | true => simp; omega
  | true => rw [h n (by omega) hf]; simpa using h1
theorem wsum_add {f g : Nat → Bool} {b : Nat} (hw : ∀ a, a < n → 0 ≤ getI ws a) (hb : b < n) (hf : f b = false) (hg : g b = true) (h : ∀ a, a < n → f a = true → g a = true) : wsum ws n f + getI ws b ≤ wsum ws n g := by
 induction n with
 | zero => omega
 | succ n ih =>
  rw [wsum_succ, wsum_succ]
  by_cases e : b = n
  ·subst e
   have := wsum_le (ws := ws) (n := b) (f := f) (g := g) (fun a ha => hw a (by omega)) (fun a ha => h a (show a < b + 1 by omega))
   rw [hf, hg]; simpa using this
  ·have h1 := ih (fun a ha => hw a (by omega)) (by omega) fun a ha => h a (by omega)
   have h2 := hw n (by omega)
   cases hf2 : f n with
   | false => cases hg2 : g n with
    | false => simpa using h1
    | true => simp; omega
   | true => rw [h n (by omega) hf2]; simp; omega
theorem chain_sum (hu : Up M n rk) (hl : ws.length = n) (hw : NeedOk ws) {P : Nat → Bool} (hP : ∀ a b, a < n → b < n → getB M a b = true → P b = true → beg M ws n b = HB M ws n a → P a = true) :
  ∀ k b, b < n → rk b < k → P b = true → HB M ws n b ≤ wsum ws n (fun a => P a && decide (HB M ws n a ≤ HB M ws n b)) := by
 intro k
 induction k with
 | zero => intro b _ h; omega
 | succ k ih =>
  intro b hb hk hpb
  have hnn : ∀ a, a < n → 0 ≤ getI ws a := fun a ha => by have := (need_at hw (by omega : a < ws.length)).1; omega
  have hwb := (need_at hw (by omega : b < ws.length)).1
  have e := HB_beg (ws := ws) hu hb
  rcases beg_at (M := M) (ws := ws) (n := n) b with h | ⟨a, ha, hab, h⟩
  ·have h1 := wsum_add (ws := ws) (f := fun _ => false) (g := fun a => P a && decide (HB M ws n a ≤ HB M ws n b)) hnn hb rfl (by rw [hpb]; simp) (fun _ _ q => by simp at q)
   have h0 : wsum ws n (fun _ => false) = 0 := by
    clear h1 hnn
    induction n with
    | zero => rfl
    | succ m _ =>
     have : ∀ j, wsum ws j (fun _ => false) = 0 := by
      intro j
      induction j with
      | zero => rfl
      | succ j ihj => rw [wsum_succ, ihj]; rfl
     exact this _
   omega
  ·have hrk := hu.up a b ha hb hab
   have h2 := ih a ha (by omega) (hP a b ha hb hab hpb h)
   have h1 := wsum_add (ws := ws) (f := fun c => P c && decide (HB M ws n c ≤ HB M ws n a)) (g := fun c => P c && decide (HB M ws n c ≤ HB M ws n b)) hnn hb
    (by rw [hpb]; simp; omega) (by rw [hpb]; simp) (fun c _ q => by simp at q ⊢; exact ⟨q.1, by omega⟩)
   omega
theorem max_total (hu : Up M n rk) (hl : ws.length = n) (hw : NeedOk ws) (hn : 1 ≤ n) : maxL (heaviest M ws n) ≤ wsum ws n (fun _ => true) := by
 obtain ⟨b, hb, e⟩ := hb_is (M := M) (ws := ws) hn
 have h1 := chain_sum hu hl hw (P := fun _ => true) (fun _ _ _ _ _ _ _ => rfl) (rk b + 1) b hb (by omega) rfl
 have h2 := wsum_le (ws := ws) (n := n) (f := fun a => true && decide (HB M ws n a ≤ HB M ws n b)) (g := fun _ => true) (fun a ha => by have := (need_at hw (by omega : a < ws.length)).1; omega) fun _ _ _ => rfl
 omega
theorem max_need (hu : Up M n rk) (hl : ws.length = n) {b : Nat} (hb : b < n) : getI ws b ≤ maxL (heaviest M ws n) := by
 have h1 := HB_beg (ws := ws) hu hb
 have h2 := beg_nn (M := M) (ws := ws) (n := n) b
 have h3 := hb_le (M := M) (ws := ws) hb
 omega
theorem both_le (hu : Up M n rk) : ∀ k b, b < n → 100 - rk b < k → HB M ws n b + beg (revM n M) ws n b ≤ maxL (heaviest M ws n) := by
 intro k
 induction k with
 | zero => intro b _ h; omega
 | succ k ih =>
  intro b hb hk
  rcases beg_at (M := revM n M) (ws := ws) (n := n) b with h | ⟨a, ha, hab, h⟩
  ·have := hb_le (M := M) (ws := ws) hb; omega
  ·rw [revM_get ha hb] at hab
   have hrk := hu.up b a hb ha hab
   have hle := hu.le a
   have h1 := ih a ha (by omega)
   have h2 := beg_ge (ws := ws) hb hab
   have h3 := HB_beg (ws := ws) hu ha
   have h4 := HB_beg (ws := ws) (revM_up hu) ha
   omega
end
end
theorem lf_eq {p : List Txt} : leftG (gP p) p.length (w0 (readG p)) (rP p).length = lfM p := by rw [w0_read]; rfl
theorem ab_eq {p : List Txt} : aboveG (gP p) p.length (w0 (readG p)) (rP p).length = abM p := by rw [w0_read]; rfl
theorem needV_all {p : List Txt} {ws : List Int} (h : needV p [ws] = true) : Up (lfM p) (rP p).length (rkL p) ∧ Up (abM p) (rP p).length (rkA p) ∧ ws.length = (rP p).length ∧ 1 ≤ (rP p).length ∧ (rP p).length ≤ 9 ∧ NeedOk ws ∧ plainB p = true := by
 obtain ⟨-, -, h1, h2, h3, h4, h5⟩ := plan_same h
 rw [lf_eq] at h1; rw [ab_eq] at h2
 obtain ⟨k1, -, -⟩ := needV_one h
 have hok : okB p = true := by
  have h9 := k1
  unfold plainI floorI at h9
  simp only [Bool.and_eq_true] at h9
  exact h9.1.1
 have h9 := okB_rooms hok
 rw [plainI_plain] at k1
 exact ⟨h1, h2, h3, h4, h9, h5, k1⟩
theorem ones_ok {n : Nat} : NeedOk (List.replicate n 1) := fun x hx => by rw [(List.mem_replicate.1 hx).2]; omega
theorem ones_at {n b : Nat} : getI (List.replicate n 1) b ≤ 1 := by
 unfold getI
 rw [List.getElem?_replicate]
 split <;> simp
theorem ones_need {p : List Txt} (h : plainI p = true) : needV p [List.replicate (rP p).length 1] = true := by
 unfold needV
 rw [h]
 simp [needW]
 exact .inr rfl
theorem wide_facts {p : List Txt} {ws : List Int} (h : needV p [ws] = true) : (∀ w ∈ ws, w ≤ maxL (heaviest (lfM p) ws (rP p).length)) ∧ maxL (heaviest (lfM p) ws (rP p).length) ≤ wsum ws (rP p).length (fun _ => true) ∧
  maxL (heaviest (lfM p) (List.replicate (rP p).length 1) (rP p).length) ≤ maxL (heaviest (lfM p) ws (rP p).length) := by
 obtain ⟨u1, u2, l1, l2, l3, n1, hp⟩ := needV_all h
 refine ⟨fun w hw => ?_, max_total u1 l1 n1 l2, max_mono l2 fun b => ?_⟩
 ·obtain ⟨i, hi⟩ := List.mem_iff_getElem?.1 hw
  have := max_need (ws := ws) u1 l1 (b := i) (by have := len_of hi; omega)
  rw [getI_is hi] at this; exact this
 ·by_cases hb : b < ws.length
  ·have := need_at n1 hb
   have := ones_at (n := (rP p).length) (b := b)
   omega
  ·unfold getI
   rw [List.getElem?_eq_none (by rw [List.length_replicate]; omega), List.getElem?_eq_none (by omega)]
   exact Int.le_refl _
theorem pEq_bb {S : Store} {a b : Bool} : pEq tab S 4 (.bool a) (.bool b) = some (a == b) := rfl
theorem all_rm {p : List Txt} (h : plainI p = true) : RmOk (gP p) p.length (w0 (readG p)) (rP p).length := (plan_all h).1
theorem all_up0 {p : List Txt} (h : plainI p = true) : ∃ rk, Up (leftG (gP p) p.length (w0 (readG p)) (rP p).length) (rP p).length rk := (plan_all h).2.1



theorem plainI_is {p : List Txt} {b : Bool} (h : plainI p = b) : plainB p = b := by rw [← plainI_plain]; exact h
section
def lgB (sets : List Nat) (a : Nat) (out : List Int) (b : Nat) : List Int := if bitOf sets a b then out.set a (max (getI out a) (1 + getI out b)) else out
def lgC (sets : List Nat) (a k : Nat) (out : List Int) : List Int := (List.range k).foldl (lgB sets a) (out.set a (max (getI out a) 1))
def lgA (sets : List Nat) (s : List Int × Int) (a : Nat) : List Int × Int := (lgC sets a sets.length s.1, max s.2 (getI (lgC sets a sets.length s.1) a))
def lgN (sets : List Nat) (s : List Int × Int) (_ : Nat) : List Int × Int := (List.range sets.length).foldl (lgA sets) s
def lgS (sets : List Nat) (k : Nat) : List Int × Int := (List.range k).foldl (lgN sets) (List.replicate sets.length 0, 0)
def longS (sets : List Nat) : Int := (lgS sets sets.length).2
theorem lgC_succ {sets : List Nat} {a k : Nat} {out : List Int} : lgC sets a (k + 1) out = lgB sets a (lgC sets a k out) k := by unfold lgC; rw [foldl_rg]
theorem lgS_succ {sets : List Nat} {k : Nat} : lgS sets (k + 1) = (List.range sets.length).foldl (lgA sets) (lgS sets k) := by
 unfold lgS; rw [foldl_rg]; rfl
variable {M : List (List Bool)} {ms : List Nat} {n : Nat} {rk : Nat → Nat} {ws out : List Int}
abbrev ones (n : Nat) : List Int := List.replicate n 1
theorem ones_len : (ones n).length = n := by simp
theorem ones_get {b : Nat} (hb : b < n) : getI (ones n) b = 1 := by unfold getI; rw [List.getElem?_replicate, if_pos hb]; rfl
def RB (M : List (List Bool)) (n b : Nat) : Int := HB (revM n M) (ones n) n b
theorem RB_beg (hu : Up M n rk) {b : Nat} (hb : b < n) : RB M n b = beg (revM n M) (ones n) n b + 1 := by
 unfold RB
 rw [HB_beg (revM_up hu) hb, ones_get hb]
theorem RB_ge (hu : Up M n rk) {a b : Nat} (ha : a < n) (hb : b < n) (h : getB M a b = true) : 1 + RB M n b ≤ RB M n a := by
 rw [RB_beg hu ha]
 have h1 := beg_ge (M := revM n M) (ws := ones n) (n := n) hb (by rw [revM_get hb ha]; exact h)
 unfold RB; omega
def LgOk (M : List (List Bool)) (n : Nat) (out : List Int) : Prop := out.length = n ∧ ∀ a, a < n → 0 ≤ getI out a ∧ getI out a ≤ RB M n a
theorem LgOk.set (h : LgOk M n out) {a : Nat} {v : Int} (ha : a < n) (h0 : 0 ≤ v) (h1 : v ≤ RB M n a) : LgOk M n (out.set a v) := by
 refine ⟨by simp [h.1], fun y hy => ?_⟩
 rw [getI_set (by rw [h.1]; exact ha)]
 split
 ·rename_i e; subst e; exact ⟨h0, h1⟩
 ·exact h.2 y hy
theorem lgC_ok (hs : Same n M ms) (hu : Up M n rk) {out : List Int} (h : LgOk M n out) {a : Nat} (ha : a < n) : ∀ k, k ≤ n →
  LgOk M n (lgC ms a k out) ∧ Ge n out (lgC ms a k out) ∧ 1 ≤ getI (lgC ms a k out) a ∧ (∀ b, b < k → getB M a b = true → 1 + getI out b ≤ getI (lgC ms a k out) a) := by
 intro k
 have hR := RB_beg hu ha
 have hb0 := beg_nn (M := revM n M) (ws := ones n) (n := n) a
 induction k with
 | zero =>
  intro _
  have h0 := h.2 a ha
  refine ⟨LgOk.set (M := M) h ha (by omega) (by omega), fun y hy => ?_, ?_, fun b hb => by omega⟩
  ·show getI out y ≤ getI (out.set a _) y
   rw [getI_set (by rw [h.1]; exact ha)]
   split
   ·rename_i e; subst e; omega
   ·exact Int.le_refl _
  ·show 1 ≤ getI (out.set a _) a
   rw [getI_set (by rw [h.1]; exact ha), if_pos rfl]; omega
 | succ k ih =>
  intro hk
  obtain ⟨k1, k2, k3, k4⟩ := ih (by omega)
  rw [lgC_succ]
  generalize lgC ms a k out = X at k1 k2 k3 k4
  unfold lgB
  rw [← hs.2.2 a k ha (by omega)]
  cases hM : getB M a k with
  | false =>
   refine ⟨k1, k2, k3, fun b hb hab => ?_⟩
   by_cases e : b = k
   ·subst e; rw [hM] at hab; cases hab
   ·exact k4 b (by omega) hab
  | true =>
   rw [if_pos rfl]
   have q1 := k1.2 a ha
   have q2 := k1.2 k (by omega)
   have q3 := RB_ge hu ha (show k < n by omega) hM
   have q4 : ∀ y, getI (X.set a (max (getI X a) (1 + getI X k))) y = if y = a then max (getI X a) (1 + getI X k) else getI X y := fun y => getI_set (by rw [k1.1]; exact ha)
   refine ⟨LgOk.set (M := M) k1 ha (by omega) (by omega), fun y hy => ?_, ?_, fun b hb hab => ?_⟩
   ·have := k2 y hy
    rw [q4]
    split
    ·rename_i e; subst e; omega
    ·exact this
   ·rw [q4, if_pos rfl]; omega
   ·rw [q4, if_pos rfl]
    have := k2 k (by omega)
    by_cases e : b = k
    ·subst e; omega
    ·have := k4 b (by omega) hab; omega
theorem lgA_ok (hs : Same n M ms) (hu : Up M n rk) {B : Int} (hB : ∀ a, a < n → RB M n a ≤ B) {s : List Int × Int} (h : LgOk M n s.1) (h0 : 0 ≤ s.2 ∧ s.2 ≤ B) : ∀ k, k ≤ n →
  LgOk M n ((List.range k).foldl (lgA ms) s).1 ∧ Ge n s.1 ((List.range k).foldl (lgA ms) s).1 ∧ s.2 ≤ ((List.range k).foldl (lgA ms) s).2 ∧ ((List.range k).foldl (lgA ms) s).2 ≤ B ∧
   ∀ a, a < k → (∀ b, b < n → getB M a b = true → 1 + getI s.1 b ≤ getI ((List.range k).foldl (lgA ms) s).1 a) ∧ 1 ≤ getI ((List.range k).foldl (lgA ms) s).1 a ∧
    ((∀ b, b < n → getB M a b = true → getI s.1 b = RB M n b) → RB M n a ≤ ((List.range k).foldl (lgA ms) s).2) := by
 intro k
 induction k with
 | zero => intro _; exact ⟨h, Ge.refl _, Int.le_refl _, h0.2, fun a ha => by omega⟩
 | succ k ih =>
  intro hk
  obtain ⟨k1, k2, k3, k4, k5⟩ := ih (by omega)
  rw [foldl_rg]
  generalize (List.range k).foldl (lgA ms) s = X at k1 k2 k3 k4 k5 ⊢
  obtain ⟨c1, c2, c3, c4⟩ := lgC_ok hs hu k1 (show k < n by omega) n (Nat.le_refl _)
  have hl : lgA ms X k = (lgC ms k n X.1, max X.2 (getI (lgC ms k n X.1) k)) := by unfold lgA; rw [hs.2.1]
  rw [hl]
  generalize lgC ms k n X.1 = Y at c1 c2 c3 c4
  have hk2 := (c1.2 k (by omega)).2
  have hk3 := hB k (by omega)
  refine ⟨c1, k2.trans c2, by simp only; omega, by simp only; omega, fun a ha => ?_⟩
  simp only
  by_cases e : a = k
  ·subst e
   refine ⟨fun b hb hab => ?_, c3, fun hall => ?_⟩
   ·have := c4 b hb hab
    have := k2 b hb
    omega
   ·have : RB M n a ≤ getI Y a := by
     rw [RB_beg hu (by omega)]
     rcases beg_at (M := revM n M) (ws := ones n) (n := n) a with q | ⟨b, hb, hab, q⟩
     ·omega
     ·rw [revM_get hb (by omega)] at hab
      have q1 := c4 b hb hab
      have q2 := k2 b hb
      rw [hall b hb hab] at q2
      unfold RB at q2
      omega
    omega
  ·obtain ⟨m1, m2, m3⟩ := k5 a (by omega)
   have m4 := c2 a (by omega)
   refine ⟨fun b hb hab => ?_, by omega, fun hall => ?_⟩
   ·have := m1 b hb hab; omega
   ·have := m3 hall; omega
theorem lgS_done (hs : Same n M ms) (hu : Up M n rk) {B : Int} (hB0 : 0 ≤ B) (hB : ∀ a, a < n → RB M n a ≤ B) : ∀ k, k ≤ n → LgOk M n (lgS ms k).1 ∧ 0 ≤ (lgS ms k).2 ∧ (lgS ms k).2 ≤ B ∧
  ∀ a, a < n → ahead n (fun b => 100 - rk b) a < k → getI (lgS ms k).1 a = RB M n a ∧ RB M n a ≤ (lgS ms k).2 := by
 intro k
 induction k with
 | zero =>
  intro _
  refine ⟨⟨by simp [lgS, hs.2.1], fun a ha => ?_⟩, by simp [lgS], by simpa [lgS] using hB0, fun a _ h => by omega⟩
  have h1 : getI (lgS ms 0).1 a = 0 := by simp [lgS, getI, hs.2.1, ha]
  have h2 := RB_beg hu ha
  have h3 := beg_nn (M := revM n M) (ws := ones n) (n := n) a
  rw [h1]; omega
 | succ k ih =>
  intro hk
  obtain ⟨k1, k2, k3, k4⟩ := ih (by omega)
  rw [lgS_succ, hs.2.1]
  obtain ⟨c1, c2, c3, c4, c5⟩ := lgA_ok hs hu hB k1 ⟨k2, k3⟩ n (Nat.le_refl _)
  refine ⟨c1, by omega, c4, fun a ha hc => ?_⟩
  obtain ⟨m1, m2, m3⟩ := c5 a ha
  have hall : ∀ b, b < n → getB M a b = true → getI (lgS ms k).1 b = RB M n b := fun b hb hab => by
   have hrk := hu.up a b ha hb hab
   have hle := hu.le b
   exact (k4 b hb (by have := ahead_lt (n := n) (rk := fun b => 100 - rk b) hb (show 100 - rk b < 100 - rk a by omega); omega)).1
  refine ⟨?_, m3 hall⟩
  have hup := (c1.2 a ha).2
  have : RB M n a ≤ getI ((List.range n).foldl (lgA ms) (lgS ms k)).1 a := by
   rw [RB_beg hu ha]
   rcases beg_at (M := revM n M) (ws := ones n) (n := n) a with q | ⟨b, hb, hab, q⟩
   ·omega
   ·rw [revM_get hb ha] at hab
    have q1 := m1 b hb hab
    rw [hall b hb hab] at q1
    unfold RB at q1
    omega
  omega
theorem both_le2 (hu : Up M n rk) : ∀ k b, b < n → rk b < k → HB (revM n M) ws n b + beg M ws n b ≤ maxL (heaviest (revM n M) ws n) := by
 intro k
 induction k with
 | zero => intro b _ h; omega
 | succ k ih =>
  intro b hb hk
  rcases beg_at (M := M) (ws := ws) (n := n) b with h | ⟨a, ha, hab, h⟩
  ·have := hb_le (M := revM n M) (ws := ws) hb; omega
  ·have hrk := hu.up a b ha hb hab
   have h1 := ih a ha (by omega)
   have h2 := beg_ge (M := revM n M) (ws := ws) hb (by rw [revM_get hb ha]; exact hab)
   have h3 := HB_beg (ws := ws) hu ha
   have h4 := HB_beg (ws := ws) (revM_up hu) ha
   omega
theorem max_rev (hu : Up M n rk) (hn : 1 ≤ n) (hw : ws.length = n) (hok : NeedOk ws) : maxL (heaviest (revM n M) ws n) = maxL (heaviest M ws n) := by
 apply Int.le_antisymm
 ·obtain ⟨b, hb, e⟩ := hb_is (M := revM n M) (ws := ws) hn
  have h1 := both_le (ws := ws) hu (101 - rk b) b hb (by have := hu.le b; omega)
  have h2 := HB_beg (ws := ws) (revM_up hu) hb
  have h3 := HB_beg (ws := ws) hu hb
  have h4 := beg_nn (M := M) (ws := ws) (n := n) b
  omega
 ·obtain ⟨b, hb, e⟩ := hb_is (M := M) (ws := ws) hn
  have h1 := both_le2 (ws := ws) hu (rk b + 1) b hb (by omega)
  have h2 := HB_beg (ws := ws) (revM_up hu) hb
  have h3 := HB_beg (ws := ws) hu hb
  have h4 := beg_nn (M := revM n M) (ws := ws) (n := n) b
  omega
theorem long_eq (hs : Same n M ms) (hu : Up M n rk) (hn : 1 ≤ n) : longS ms = maxL (heaviest M (ones n) n) := by
 rw [← max_rev hu hn ones_len ones_ok]
 have hB : ∀ a, a < n → RB M n a ≤ maxL (heaviest (revM n M) (ones n) n) := fun a ha => hb_le ha
 obtain ⟨b, hb, e⟩ := hb_is (M := revM n M) (ws := ones n) hn
 have h0 := RB_beg hu hb
 have h1 := beg_nn (M := revM n M) (ws := ones n) (n := n) b
 have h2 := hB b hb
 obtain ⟨-, -, k3, k4⟩ := lgS_done hs hu (by omega) hB n (Nat.le_refl _)
 unfold longS
 rw [hs.2.1]
 have := (k4 b hb (ahead_n hb)).2
 unfold RB at this
 omega
theorem long_plain {p : List Txt} (h : plainI p = true) : longS (allS p 0) = maxL (heaviest (lfM p) (ones (rP p).length) (rP p).length) ∧ longS (allS p 1) = maxL (heaviest (abM p) (ones (rP p).length) (rP p).length) := by
 have hv := ones_need h
 obtain ⟨s0, s1, u0, u1, -, hn, -⟩ := plan_same hv
 rw [lf_eq] at s0 u0
 rw [ab_eq] at s1 u1
 exact ⟨long_eq s0 u0 hn, long_eq s1 u1 hn⟩
end
theorem wu64 {x : Int} (h1 : 0 ≤ x) (h2 : x < 18446744073709551616) : IntKind.u64.wrap x = x := by
 simp [IntKind.wrap, IntKind.bits, IntKind.signed]; omega
theorem shr32 {x : Int} (h1 : 0 ≤ x) (h2 : x < 4294967296) : pShift .shr .u64 x 32 = some (.int .u64 0) := by
 have h3 : x.fdiv 4294967296 = 0 := by rw [Int.fdiv_eq_ediv_of_nonneg _ (by omega)]; omega
 show some (PV.int .u64 (x.fdiv 4294967296)) = _
 rw [h3]
theorem and32 {x : Int} (h1 : 0 ≤ x) (h2 : x < 4294967296) : IntKind.u64.wrap ((BitVec.ofInt IntKind.u64.bits x &&& BitVec.ofInt IntKind.u64.bits 4294967295).toNat : Int) = x := by
 obtain ⟨n, rfl⟩ := Int.eq_ofNat_of_zero_le h1
 have h3 : n &&& 4294967295 = n := by
  have := Nat.and_two_pow_sub_one_eq_mod n 32
  simp only [Nat.reducePow, Nat.reduceSub] at this
  rw [this]; omega
 have h4 : (BitVec.ofInt 64 (n : Int) &&& BitVec.ofInt 64 4294967295).toNat = n := by
  rw [BitVec.toNat_and]
  have e1 : (BitVec.ofInt 64 (n : Int)).toNat = n := by simp [BitVec.toNat_ofInt]; omega
  have e2 : (BitVec.ofInt 64 4294967295).toNat = 4294967295 := by decide
  rw [e1, e2, h3]
 show IntKind.u64.wrap ((BitVec.ofInt 64 (n : Int) &&& BitVec.ofInt 64 4294967295).toNat : Int) = n
 rw [h4, wu64 (by omega) (by omega)]
theorem mul64_pc {n : Nat} (hn : n ≤ 1000) : PC Tryz.prog 133 [.int .u64 1, .int .u64 n] (.tup [.int .u64 0, .int .u64 n]) true := by
 refine PC.of ⟨Tryz.func133, by kernel_rfl, rfl, by kernel_rfl⟩ tabOk mixed (by show 2 ≤ Tryz.f133.ntmps; decide) ?_
 refine W.seq_region fun K hK => ?_
 simp (disch := omega) only [↓RU, RV, RH, ↓reduceIte, reduceEqDiff, reduceCtorEq, if_pos, wu64, shr32, and32, Int.one_mul, Int.zero_mul, Int.mul_zero, Int.zero_add, Int.add_zero, Int.reduceMul, Int.reduceAdd]
 refine hK _ _ ?_;clear hK K
 refine W.seq_region fun K hK => ?_
 simp (disch := omega) only [↓RU, RV, RH, ↓reduceIte, reduceEqDiff, reduceCtorEq, if_pos, w64, ty25, wu64, shr32, and32, Int.one_mul, Int.zero_mul, Int.mul_zero, Int.zero_add, Int.add_zero, Int.reduceMul, Int.reduceAdd]
 refine hK _ _ ?_;clear hK K
 refine W.seq_region fun K hK => ?_
 simp (disch := omega) only [↓RU, RV, RH, ↓reduceIte, reduceEqDiff, reduceCtorEq, if_pos, w64, ty25, wu64, shr32, and32, Int.one_mul, Int.zero_mul, Int.mul_zero, Int.zero_add, Int.add_zero, Int.reduceMul, Int.reduceAdd]
 refine hK _ _ ?_;clear hK K
 refine W.seq_region fun K hK => ?_
 simp (disch := omega) only [↓RU, RV, RH, ↓reduceIte, reduceEqDiff, reduceCtorEq, if_pos, w64, ty25, wu64, shr32, and32, Int.one_mul, Int.zero_mul, Int.mul_zero, Int.zero_add, Int.add_zero, Int.reduceMul, Int.reduceAdd]
 refine hK _ _ ?_;clear hK K
 refine W.seq_region fun K hK => ?_
 simp (disch := omega) only [↓RU, RV, RH, ↓reduceIte, reduceEqDiff, reduceCtorEq, if_pos, w64, ty25, wu64, shr32, and32, Int.one_mul, Int.zero_mul, Int.mul_zero, Int.zero_add, Int.add_zero, Int.reduceMul, Int.reduceAdd]
 refine hK _ _ ?_;clear hK K
 refine W.seq_region fun K hK => ?_
 simp (disch := omega) only [↓RU, RV, RH, ↓reduceIte, reduceEqDiff, reduceCtorEq, if_pos, w64, ty25, wu64, shr32, and32, Int.one_mul, Int.zero_mul, Int.mul_zero, Int.zero_add, Int.add_zero, Int.reduceMul, Int.reduceAdd]
 refine hK _ _ ?_;clear hK K
 refine W.seq_region fun K hK => ?_
 simp (disch := omega) only [↓RU, RV, RH, ↓reduceIte, reduceEqDiff, reduceCtorEq, if_pos, w64, ty25, wu64, shr32, and32, Int.one_mul, Int.zero_mul, Int.mul_zero, Int.zero_add, Int.add_zero, Int.reduceMul, Int.reduceAdd]
 refine hK _ _ ?_;clear hK K
 refine W.seq_region fun K hK => ?_
 simp (disch := omega) only [↓RU, RV, RH, ↓reduceIte, reduceEqDiff, reduceCtorEq, if_pos, w64, ty25, wu64, shr32, and32, Int.one_mul, Int.zero_mul, Int.mul_zero, Int.zero_add, Int.add_zero, Int.reduceMul, Int.reduceAdd]
 refine hK _ _ ?_;clear hK K
 refine W.seq_region fun K hK => ?_
 simp (disch := omega) only [↓RU, RV, RH, ↓reduceIte, reduceEqDiff, reduceCtorEq, if_pos, w64, ty25, wu64, shr32, and32, Int.one_mul, Int.zero_mul, Int.mul_zero, Int.zero_add, Int.add_zero, Int.reduceMul, Int.reduceAdd]
 refine hK _ _ ?_;clear hK K
 refine W.seq_region fun K hK => ?_
 simp (disch := omega) only [↓RU, RV, RH, ↓reduceIte, reduceEqDiff, reduceCtorEq, if_pos, w64, ty25, wu64, shr32, and32, Int.one_mul, Int.zero_mul, Int.mul_zero, Int.zero_add, Int.add_zero, Int.reduceMul, Int.reduceAdd]
 refine hK _ _ ?_;clear hK K
 refine W.seq_region fun K hK => ?_
 simp (disch := omega) only [↓RU, RV, RH, ↓reduceIte, reduceEqDiff, reduceCtorEq, if_pos, w64, ty25, wu64, shr32, and32, Int.one_mul, Int.zero_mul, Int.mul_zero, Int.zero_add, Int.add_zero, Int.reduceMul, Int.reduceAdd]
 refine hK _ _ ?_;clear hK K
 refine W.seq_region fun K hK => ?_
 simp (disch := omega) only [↓RU, RV, RH, ↓reduceIte, reduceEqDiff, reduceCtorEq, if_pos, w64, ty25, wu64, shr32, and32, Int.one_mul, Int.zero_mul, Int.mul_zero, Int.zero_add, Int.add_zero, Int.reduceMul, Int.reduceAdd]
 refine hK _ _ ?_;clear hK K
 refine W.ret ?_
 refine BodyQ.ret rfl ?_
 rfl
theorem mulU_pc {n : Nat} (hn : n ≤ 1000) : PC Tryz.prog 110 [.int .u64 1, .int .u64 n] (.tup [.int .u64 0, .int .u64 n]) true := by
 refine PC.of ⟨Tryz.func110, by kernel_rfl, rfl, by kernel_rfl⟩ tabOk mixed (by show 2 ≤ Tryz.f110.ntmps; decide) ?_
 refine W.seq_region fun K hK => ?_
 simp (disch := omega) only [↓RU, RV, RH, ↓reduceIte, reduceEqDiff, reduceCtorEq, if_pos, wu64, shr32, and32, Int.one_mul, Int.zero_mul, Int.mul_zero, Int.zero_add, Int.add_zero, Int.reduceMul, Int.reduceAdd]
 refine hK _ _ ?_;clear hK K
 refine W.seq ?_
 refine W.cond rfl (fun h => ?_) (fun h => ?_)
 ·skip
  cases h
 ·skip
  refine W.skip ?_
  refine XThen.norm ?_
  refine W.seq_region fun K hK => ?_
  simp (disch := omega) only [↓RU, RV, RH, ↓reduceIte, reduceEqDiff, reduceCtorEq, if_pos, List.append_nil, wu64, shr32, and32, Int.one_mul, Int.zero_mul, Int.mul_zero, Int.zero_add, Int.add_zero, Int.reduceMul, Int.reduceAdd]
  refine CallR.pc (mul64_pc hn) rfl (.inl rfl) ?_
  simp (disch := omega) only [↓RU, RV, RH, ↓reduceIte, reduceEqDiff, reduceCtorEq, if_pos, List.append_nil, wu64, shr32, and32, Int.one_mul, Int.zero_mul, Int.mul_zero, Int.zero_add, Int.add_zero, Int.reduceMul, Int.reduceAdd]
  refine hK _ _ ?_;clear hK K
  refine W.seq_region fun K hK => ?_
  simp (disch := omega) only [↓RU, RV, RH, ↓reduceIte, reduceEqDiff, reduceCtorEq, if_pos, wu64, shr32, and32, Int.one_mul, Int.zero_mul, Int.mul_zero, Int.zero_add, Int.add_zero, Int.reduceMul, Int.reduceAdd]
  refine hK _ _ ?_;clear hK K
  refine W.ret ?_
  refine BodyQ.ret rfl ?_
  rfl
def oz (k m : Nat) : List Int := List.replicate k 1 ++ List.replicate m 0
theorem oz_len {k m : Nat} : (oz k m).length = k + m := by simp [oz]
theorem oz_all {k : Nat} : oz k 0 = ones k := by simp [oz]
theorem oz_pv {k m : Nat} : (oz k m).map (PV.int .i64) = List.replicate k (.int .i64 1) ++ List.replicate m (.int .i64 0) := by simp [oz]
theorem oz_one {n : Nat} (hn : 1 ≤ n) : spl ((oz 0 n).map (PV.int .i64)) 0 [PV.int .i64 1] = (oz 1 (n - 1)).map (PV.int .i64) := by
 obtain ⟨m, rfl⟩ : ∃ m, n = m + 1 := ⟨n - 1, by omega⟩
 simp [spl, oz, List.replicate_succ]
theorem oz_more {k m c : Nat} (hc : c = min m k) : spl ((oz k m).map (PV.int .i64)) k (((oz k m).map (PV.int .i64)).take c) = (oz (k + c) (m - c)).map (PV.int .i64) := by
 rw [oz_pv, oz_pv]
 have h1 : (List.replicate k (PV.int .i64 1) ++ List.replicate m (PV.int .i64 0)).take c = List.replicate c (PV.int .i64 1) := by
  rw [List.take_append_of_le_length (by simp; omega), List.take_replicate]
  congr 1; omega
 rw [h1]
 unfold spl
 rw [List.take_append_of_le_length (by simp), List.take_of_length_le (by simp), List.length_replicate, List.drop_append]
 simp only [List.length_replicate, List.drop_replicate, List.replicate_append_replicate]
 congr 2
 have : k - (k + c) = 0 := by omega
 rw [this, List.replicate_zero, List.nil_append]
 congr 1; omega
theorem repeat_pc {N : Nat} (hn1 : 1 ≤ N) (hn9 : N ≤ 1000) : PC Tryz.prog 75 [eInts [1], .int .i64 N] (eInts (ones N)) true := by
 refine PC.of ⟨Tryz.func75, by kernel_rfl, rfl, by kernel_rfl⟩ tabOk mixed (by show 2 ≤ Tryz.f75.ntmps; decide) ?_
 refine W.seq_region fun K hK => ?_
 simp (disch := omega) only [↓RU, RV, RH, ↓reduceIte, reduceEqDiff, reduceCtorEq, if_pos, ↓RS, RG, reduceAdd, reduceMul, reduceLeDiff]
 refine hK _ _ ?_;clear hK K
 refine W.seq ?_
 refine W.seq_region fun K hK => ?_
 simp (disch := omega) only [↓RU, RV, RH, ↓reduceIte, reduceEqDiff, reduceCtorEq, if_pos, w64, ↓RS, RG, reduceAdd, reduceMul, reduceLeDiff, tyint]
 refine hK _ _ ?_;clear hK K
 refine W.cond rfl (fun h0 => ?_) (fun h0 => ?_)
 ·try simp only [RL] at h0
  exfalso; omega
 ·try simp only [RL] at h0
  refine W.skip ?_
  refine XThen.norm ?_
  refine W.seq_region fun K hK => ?_
  simp (disch := omega) only [↓RU, RV, RH, ↓reduceIte, reduceEqDiff, reduceCtorEq, if_pos, w64, List.append_nil, ↓RS, RG, reduceAdd, reduceMul, reduceLeDiff, tyLint, tyint, tyuint, wu64]
  refine CallR.pc (mulU_pc hn9) rfl (.inl rfl) ?_
  simp (disch := omega) only [↓RU, RV, RH, ↓reduceIte, reduceEqDiff, reduceCtorEq, if_pos, w64, List.append_nil, ↓RS, RG, reduceAdd, reduceMul, reduceLeDiff, tyLint, tyint, tyuint, wu64]
  refine hK _ _ ?_;clear hK K
  refine W.seq ?_
  refine W.seq_region fun K hK => ?_
  have hz0 : decide ((0 : Int) > 0) = false := rfl
  have hz1 : decide ((N : Int) > 9223372036854775807) = false := decide_eq_false (by omega)
  simp (disch := omega) only [↓RU, RV, RH, ↓reduceIte, reduceEqDiff, reduceCtorEq, if_pos, w64, ↓RS, RG, reduceAdd, reduceMul, reduceLeDiff, tyuint, hz0, hz1]
  refine hK _ _ ?_;clear hK K
  refine W.cond rfl (fun h1 => ?_) (fun h1 => ?_)
  ·try simp only [RL] at h1
   exact absurd h1 (by simp)
  ·try simp only [RL] at h1
   have hm1 : min 1 N = 1 := by omega
   refine W.skip ?_
   refine XThen.norm ?_
   refine W.seq_region fun K hK => ?_
   simp (disch := omega) only [↓RU, RV, RH, ↓reduceIte, reduceEqDiff, reduceCtorEq, if_pos, w64, ↓RS, RG, reduceAdd, reduceMul, reduceLeDiff, tyLint, tyint, tyuint, repz_int, ile_true]
   refine hK _ _ ?_;clear hK K
   refine W.seq_region fun K hK => ?_
   simp (disch := omega) only [↓RU, RV, RH, ↓reduceIte, reduceEqDiff, reduceCtorEq, if_pos, ↓RS, RG, reduceAdd, reduceMul, reduceLeDiff, tyLint, tyint, hm1, List.take_succ_cons, List.take_zero, List.length_cons, List.length_nil, List.length_replicate]
   refine hK _ _ ?_;clear hK K
   refine W.seq ?_
   refine W.block ?_
   refine W.loop [7, 8] (fun n vs S => ∃ k tk : Nat, n = N - k ∧ 1 ≤ k ∧ k ≤ N ∧ vs = [.loc 0 0 0 N, .int .i64 k] ∧ S = ⟨[.arr 0 3 1 ((oz k (N - k)).map (.int .i64))], tk⟩) (N - 1) ?_ ?_
   ·refine ⟨1, 1, 1, rfl, Nat.le_refl _, hn1, ?_, ?_⟩
    ·simp [Env.put, Env.of, argEnv]
    ·rw [← oz_one hn1]; simp [take_eq, spl, oz]
   rintro n vs S - ⟨k, tk, rfl, hk1, hk2, rfl, rfl⟩
   refine W.seq ?_
   refine W.seq_region fun K hK => ?_
   simp (disch := omega) only [↓RU, RV, RH, ↓reduceIte, reduceEqDiff, reduceCtorEq, if_pos, w64, ↓RS, RG, reduceAdd, reduceMul, reduceLeDiff, tyLint, tyint]
   refine hK _ _ ?_;clear hK K
   refine W.cond rfl (fun h2 => ?_) (fun h2 => ?_)
   ·try simp only [RL] at h2
    obtain ⟨c, hc⟩ : ∃ c, min k (N - k) = c := ⟨_, rfl⟩
    have hck : min c k = c := by omega
    have hcl : min c (k + (N - k)) = c := by omega
    have hkn : k < N := by omega
    refine W.skip ?_
    refine XThen.norm ?_
    refine W.block ?_
    refine W.draw_k (by kernel_rfl) fun K hK => ?_
    simp (disch := omega) only [↓RU, RV, RH, ↓reduceIte, reduceEqDiff, reduceCtorEq, if_pos, Option.map_none, w64, ↓RS, RG, reduceAdd, reduceMul, reduceLeDiff, tyLint, tyint, oz_len, hc, List.take_take, hck, hcl, List.length_take, Nat.sub_zero]
    refine hK _ _ ?_;clear hK K
    refine XBlock.norm ?_
    refine XThen.norm ?_
    refine ⟨N - (k + c), by omega, 1, k + c, tk, rfl, by omega, by omega, ?_, ?_⟩
    ·simp [Env.put, Env.of]
    ·have e := oz_more (k := k) (m := N - k) (c := c) (by omega)
     rw [show N - k - c = N - (k + c) by omega] at e
     simp only [spl, List.length_take, List.length_map, oz_len, hcl] at e
     simp only [take_eq, List.take_succ_cons, List.take_zero, e]
   ·try simp only [RL] at h2
    obtain rfl : N = k := by omega
    refine W.exit ?_
    refine XThen.exit ?_
    refine XThen.exit ?_
    refine XBlock.hit ?_
    refine XThen.norm ?_
    refine W.seq_region fun K hK => ?_
    simp (disch := omega) only [↓RU, RV, RH, ↓reduceIte, reduceEqDiff, reduceCtorEq, if_pos, ↓RS, RG, reduceAdd, reduceMul, reduceLeDiff]
    refine hK _ _ ?_;clear hK K
    refine W.ret ?_
    refine BodyQ.ret rfl ?_
    rw [Nat.sub_self, oz_all]
    have hol := ones_len (n := N)
    exact (reify_loc (k := 9) (n := N) rfl (by simp) (mapM_int _)).trans (by rw [eInts, hol])
theorem heaviest_pc {M : List (List Bool)} {ws : List Int} {nr : Nat} {rk : Nat → Nat} (hu : Up M nr rk) (hn : nr ≤ 9) (hwl : ws.length = nr) (hw : NeedOk ws) : PC Tryz.prog 67 [eRel M, eInts ws] (eInts (heaviest M ws nr)) true := by
 refine PN.pc (heaviest_pn hu hn hwl hw) rfl ?_
 simp only [List.map_cons, List.map_nil, upOb_arr, up_loc, up_ints, Nat.add_zero]
 exact (reify_loc (k := 9) rfl (by simp [heaviest_len]) (mapM_int _)).trans (by rw [eInts, heaviest_len])
theorem orderLong_no {p : List Txt} (hs : Sm p) (hv : plainI p = false) : PC Tryz.prog 30 [eStrs p] (.tup [.int .i64 0, .int .i64 0, .bool false]) true := by
 refine PC.of ⟨Tryz.func30, by kernel_rfl, rfl, by kernel_rfl⟩ tabOk mixed (by show 1 ≤ Tryz.f30.ntmps; decide) ?_
 refine W.seq_region fun K hK => ?_
 simp (disch := omega) only [↓RU, RV, RH, ↓reduceIte, reduceEqDiff, reduceCtorEq, if_pos, ↓RS, RG, reduceAdd, reduceMul, reduceLeDiff]
 refine hK _ _ ?_;clear hK K
 refine W.seq_region fun K hK => ?_
 simp (disch := omega) only [↓RU, RV, RH, ↓reduceIte, reduceEqDiff, reduceCtorEq, if_pos, List.append_nil, ↓RS, RG, reduceAdd, reduceMul, reduceLeDiff, ty0, ty2, tybool, ty12, ty14, ty22]
 refine CallR.pc (ordersOf_no hs hv) rfl (.inr rfl) ?_
 simp (disch := omega) only [↓RU, RV, RH, ↓reduceIte, reduceEqDiff, reduceCtorEq, if_pos, List.append_nil, ↓RS, RG, reduceAdd, reduceMul, reduceLeDiff, ty0, ty2, tybool, ty12, ty14, ty22]
 refine hK _ _ ?_;clear hK K
 refine W.seq ?_
 refine W.seq_region fun K hK => ?_
 simp (disch := omega) only [↓RU, RV, RH, ↓reduceIte, reduceEqDiff, reduceCtorEq, if_pos, ↓RS, RG, reduceAdd, reduceMul, reduceLeDiff]
 refine hK _ _ ?_;clear hK K
 refine W.cond rfl (fun h => ?_) (fun h => ?_)
 ·try simp only [RL] at h
  refine W.seq_region fun K hK => ?_
  simp (disch := omega) only [↓RU, RV, RH, ↓reduceIte, reduceEqDiff, reduceCtorEq, if_pos, ↓RS, RG, reduceAdd, reduceMul, reduceLeDiff]
  refine hK _ _ ?_;clear hK K
  refine W.ret ?_
  refine XThen.ret ?_
  refine BodyQ.ret rfl ?_
  rfl
 ·try simp only [RL] at h
  exact absurd h (by simp)
theorem orderLong_yes {p : List Txt} (hs : Sm p) (hv : plainI p = true) : PC Tryz.prog 30 [eStrs p] (.tup [.int .i64 (maxL (heaviest (lfM p) (ones (rP p).length) (rP p).length)), .int .i64 (maxL (heaviest (abM p) (ones (rP p).length) (rP p).length)), .bool true]) true := by
 have hnv := ones_need hv
 obtain ⟨u1, u2, l1, l2, l3, n1, hp⟩ := needV_all hnv
 have hlq := u1.sq.1
 obtain ⟨y0, hy0, -⟩ := get_of (show 0 < (heaviest (lfM p) (ones (rP p).length) (rP p).length).length by rw [heaviest_len]; omega)
 obtain ⟨y1, hy1, -⟩ := get_of (show 0 < (heaviest (abM p) (ones (rP p).length) (rP p).length).length by rw [heaviest_len]; omega)
 have hh0 := heaviest_len (M := lfM p) (ws := ones (rP p).length) (n := (rP p).length)
 have hh1 := heaviest_len (M := abM p) (ws := ones (rP p).length) (n := (rP p).length)
 refine PC.of ⟨Tryz.func30, by kernel_rfl, rfl, by kernel_rfl⟩ tabOk mixed (by show 1 ≤ Tryz.f30.ntmps; decide) ?_
 refine W.seq_region fun K hK => ?_
 simp (disch := omega) only [↓RU, RV, RH, ↓reduceIte, reduceEqDiff, reduceCtorEq, if_pos, ↓RS, RG, reduceAdd, reduceMul, reduceLeDiff]
 refine hK _ _ ?_;clear hK K
 refine W.seq_region fun K hK => ?_
 simp (disch := omega) only [↓RU, RV, RH, ↓reduceIte, reduceEqDiff, reduceCtorEq, if_pos, List.append_nil, ↓RS, RG, reduceAdd, reduceMul, reduceLeDiff, ty0, ty2, tybool, ty12, ty14, ty22]
 refine CallR.pc (ordersOf_yes hs hv) rfl (.inr rfl) ?_
 simp (disch := omega) only [↓RU, RV, RH, ↓reduceIte, reduceEqDiff, reduceCtorEq, if_pos, List.append_nil, ↓RS, RG, reduceAdd, reduceMul, reduceLeDiff, ty0, ty2, tybool, ty12, ty14, ty22]
 refine hK _ _ ?_;clear hK K
 refine W.seq ?_
 refine W.seq_region fun K hK => ?_
 simp (disch := omega) only [↓RU, RV, RH, ↓reduceIte, reduceEqDiff, reduceCtorEq, if_pos, ↓RS, RG, reduceAdd, reduceMul, reduceLeDiff]
 refine hK _ _ ?_;clear hK K
 refine W.cond rfl (fun h => ?_) (fun h => ?_)
 ·try simp only [RL] at h
  exact absurd h (by simp)
 ·try simp only [RL] at h
  refine W.skip ?_
  refine XThen.norm ?_
  refine W.seq_region fun K hK => ?_
  simp (disch := omega) only [↓RU, RV, RH, ↓reduceIte, reduceEqDiff, reduceCtorEq, if_pos, List.append_nil, ↓RS, RG, reduceAdd, reduceMul, reduceLeDiff, ty0, ty2, tyLint, tybool, ty12, ty14, tyint, ty22, hlq]
  refine CallR.pc (repeat_pc l2 (by omega)) rfl (.inl rfl) ?_
  simp (disch := omega) only [↓RU, RV, RH, ↓reduceIte, reduceEqDiff, reduceCtorEq, if_pos, List.append_nil, ↓RS, RG, reduceAdd, reduceMul, reduceLeDiff, ty0, ty2, tyLint, tybool, ty12, ty14, tyint, ty22, hlq]
  refine hK _ _ ?_;clear hK K
  refine W.seq_draw (by kernel_rfl) fun K hK => ?_
  simp (disch := omega) only [↓RU, RV, RH, ↓reduceIte, reduceEqDiff, reduceCtorEq, if_pos, List.append_nil, ↓RS, RG, reduceAdd, reduceMul, reduceLeDiff, ty0, ty2, tybool, ty12, ty14, ty22]
  refine CallR.pc (heaviest_pc u1 l3 l1 n1) rfl (.inl rfl) ?_
  simp (disch := omega) only [↓RU, RV, RH, ↓reduceIte, reduceEqDiff, reduceCtorEq, if_pos, List.append_nil, ↓RS, RG, reduceAdd, reduceMul, reduceLeDiff, ty0, ty2, tybool, ty12, ty14, ty22]
  refine CallR.pc (max_pc hy0 (by omega)) rfl (.inl rfl) ?_
  simp (disch := omega) only [↓RU, RV, RH, ↓reduceIte, reduceEqDiff, reduceCtorEq, if_pos, List.append_nil, ↓RS, RG, reduceAdd, reduceMul, reduceLeDiff, ty0, ty2, tybool, ty12, ty14, ty22]
  refine CallR.pc (heaviest_pc u2 l3 l1 n1) rfl (.inl rfl) ?_
  simp (disch := omega) only [↓RU, RV, RH, ↓reduceIte, reduceEqDiff, reduceCtorEq, if_pos, List.append_nil, ↓RS, RG, reduceAdd, reduceMul, reduceLeDiff, ty0, ty2, tybool, ty12, ty14, ty22]
  refine CallR.pc (max_pc hy1 (by omega)) rfl (.inl rfl) ?_
  simp (disch := omega) only [↓RU, RV, RH, ↓reduceIte, reduceEqDiff, reduceCtorEq, if_pos, List.append_nil, ↓RS, RG, reduceAdd, reduceMul, reduceLeDiff, ty0, ty2, tybool, ty12, ty14, ty22]
  refine hK _ _ ?_;clear hK K
  refine W.ret ?_
  refine BodyQ.ret rfl ?_
  rfl
def LgK (n : Nat) (B : Int) (out : List Int) : Prop := out.length = n ∧ ∀ a, a < n → 0 ≤ getI out a ∧ getI out a ≤ B
theorem LgK.set {n : Nat} {B : Int} {out : List Int} (h : LgK n B out) {a : Nat} {v : Int} (ha : a < n) (h0 : 0 ≤ v) (h1 : v ≤ B) : LgK n B (out.set a v) := by
 refine ⟨by simp [h.1], fun y hy => ?_⟩
 rw [getI_set (by rw [h.1]; exact ha)]
 split
 ·exact ⟨h0, h1⟩
 ·exact h.2 y hy
theorem LgK.up {n : Nat} {B C : Int} {out : List Int} (h : LgK n B out) (hBC : B ≤ C) : LgK n C out := ⟨h.1, fun y hy => by have := h.2 y hy; omega⟩
def longV (p : List Txt) (kind : Int) : Int := if plainB p then longS (allS p kind) else 0
theorem longV_yes {p : List Txt} (hv : plainI p = true) : longV p 0 = maxL (heaviest (lfM p) (ones (rP p).length) (rP p).length) ∧ longV p 1 = maxL (heaviest (abM p) (ones (rP p).length) (rP p).length) := by
 have h := long_plain hv
 unfold longV
 rw [plainI_is hv, if_pos rfl, if_pos rfl]; exact h
theorem longV_no {p : List Txt} {kind : Int} (hv : plainB p = false) : longV p kind = 0 := by unfold longV; rw [hv]; rfl
theorem orderLong_pc {p : List Txt} (hs : Sm p) : PC Tryz.prog 30 [eStrs p] (.tup [.int .i64 (longV p 0), .int .i64 (longV p 1), .bool (plainB p)]) true := by
 cases hv : plainI p with
 | false =>
  have h : plainB p = false := by rw [← plainI_plain]; exact hv
  rw [longV_no h, longV_no h, h]; exact orderLong_no hs hv
 | true =>
  rw [(longV_yes hv).1, (longV_yes hv).2, plainI_is hv]; exact orderLong_yes hs hv
def wideV (p : List Txt) (ws : List Int) : Int := if needV p [ws] then maxL (heaviest (lfM p) ws (rP p).length) else 0
theorem wideV_yes {p : List Txt} {ws : List Int} (h : needV p [ws] = true) : wideV p ws = maxL (heaviest (lfM p) ws (rP p).length) := by unfold wideV; rw [h]; rfl
theorem wideV_no {p : List Txt} {ws : List Int} (h : needV p [ws] = false) : wideV p ws = 0 := by unfold wideV; rw [h]; rfl
theorem sizeWide_v {p : List Txt} (hs : Sm p) {ws : List Int} (hw : ws.length ≤ 1048576) : PC Tryz.prog 18 [eStrs p, eInts ws] (.tup [.int .i64 (wideV p ws), .bool (needV p [ws])]) true := by
 have h := sizeWide_pc hs hw all_rm all_up0
 unfold sizeV at h
 cases hv : needV p [ws] with
 | false => rw [hv] at h; rw [wideV_no hv]; exact h
 | true => rw [hv, lf_eq] at h; rw [wideV_yes hv]; exact h
theorem total_is {ws : List Int} {n i : Nat} : wsum ws (i + 1) (fun _ => true) = wsum ws i (fun _ => true) + getI ws i := by rw [wsum_succ]; rfl
theorem total_bnd {ws : List Int} (hw : NeedOk ws) : ∀ i, i ≤ ws.length → 0 ≤ wsum ws i (fun _ => true) ∧ wsum ws i (fun _ => true) ≤ 9 * i := by
 intro i
 induction i with
 | zero => intro _; exact ⟨Int.le_refl _, Int.le_refl _⟩
 | succ i ih =>
  intro hi
  have h1 := ih (by omega)
  have h2 := need_at hw (show i < ws.length by omega)
  rw [total_is (n := i)]
  omega
theorem most_bnd {l : List Int} {B : Int} (hB : 0 ≤ B) (h : ∀ x ∈ l, x ≤ B) : 0 ≤ l.foldl max 0 ∧ l.foldl max 0 ≤ B := by
 refine ⟨foldl_max_ge.1, ?_⟩
 rcases foldl_max_mem (l := l) (m := 0) with e | e
 ·omega
 ·exact h _ e
theorem foldl_max_succ {l : List Int} {i : Nat} {x : Int} (h : l[i]? = some x) : (l.take (i + 1)).foldl max 0 = max ((l.take i).foldl max 0) x := foldl_tk h
theorem sSizeWide_pc {p : List Txt} (hs : Sm p) {needs : List Int} (hw : needs.length ≤ 1048576) : PC Tryz.prog 29 [eStrs p, eInts needs] (.tup [.int .i64 (wideV p needs), .bool (needV p [needs])]) true := by
 refine PC.of ⟨Tryz.func29, by kernel_rfl, rfl, by kernel_rfl⟩ tabOk mixed (by show 2 ≤ Tryz.f29.ntmps; decide) ?_
 refine W.seq_region fun K hK => ?_
 simp (disch := omega) only [↓RU, RV, RH, ↓reduceIte, reduceEqDiff, reduceCtorEq, if_pos, ↓RS, RG, reduceAdd, reduceMul, reduceLeDiff]
 refine hK _ _ ?_;clear hK K
 refine W.seq ?_
 refine W.seq_region fun K hK => ?_
 simp (disch := omega) only [↓RU, RV, RH, ↓reduceIte, reduceEqDiff, reduceCtorEq, if_pos, List.append_nil, ↓RS, RG, reduceAdd, reduceMul, reduceLeDiff]
 refine CallR.pc (l7Needs_pc hs hw) rfl (.inl rfl) ?_
 simp (disch := omega) only [↓RU, RV, RH, ↓reduceIte, reduceEqDiff, reduceCtorEq, if_pos, List.append_nil, ↓RS, RG, reduceAdd, reduceMul, reduceLeDiff]
 refine hK _ _ ?_;clear hK K
 refine W.cond rfl (fun h0 => ?_) (fun h0 => ?_)
 ·try simp only [RL] at h0
  have hv : needV p [needs] = false := by rw [needV_needs]; simpa using h0
  refine W.seq_region fun K hK => ?_
  simp (disch := omega) only [↓RU, RV, RH, ↓reduceIte, reduceEqDiff, reduceCtorEq, if_pos, ↓RS, RG, reduceAdd, reduceMul, reduceLeDiff]
  refine hK _ _ ?_;clear hK K
  refine W.ret ?_
  refine XThen.ret ?_
  refine BodyQ.ret rfl ?_
  rw [wideV_no hv, hv]
  rfl
 ·try simp only [RL] at h0
  have hg : needsB p needs = true := by simpa using h0
  have hv : needV p [needs] = true := by rw [needV_needs]; exact hg
  obtain ⟨k1, k2, k3, k4, k5, k6⟩ := needsB_ok hg
  refine W.skip ?_
  refine XThen.norm ?_
  refine W.seq_region fun K hK => ?_
  simp (disch := omega) only [↓RU, RV, RH, ↓reduceIte, reduceEqDiff, reduceCtorEq, if_pos, List.append_nil, ↓RS, RG, reduceAdd, reduceMul, reduceLeDiff]
  refine CallR.pc (l7Least_pc hs k2 k3 k4 k6 0) rfl (.inl rfl) ?_
  simp (disch := omega) only [↓RU, RV, RH, ↓reduceIte, reduceEqDiff, reduceCtorEq, if_pos, List.append_nil, ↓RS, RG, reduceAdd, reduceMul, reduceLeDiff]
  refine hK _ _ ?_;clear hK K
  refine W.ret ?_
  refine BodyQ.ret rfl ?_
  rw [wideV_yes hv, hv, ← lf_eq, (plan_least hv).1]
  rfl
theorem total_pc {ws : List Int} (hw : NeedOk ws) (hl : ws.length ≤ 1000) : PC Tryz.prog 31 [eInts ws] (.int .i64 (wsum ws ws.length (fun _ => true))) true := by
 refine PC.of ⟨Tryz.func31, by kernel_rfl, rfl, by kernel_rfl⟩ tabOk mixed (by show 1 ≤ Tryz.f31.ntmps; decide) ?_
 refine W.seq_region fun K hK => ?_
 simp (disch := omega) only [↓RU, RV, RH, ↓reduceIte, reduceEqDiff, reduceCtorEq, if_pos, ↓RS, RG, reduceAdd, reduceMul, reduceLeDiff]
 refine hK _ _ ?_;clear hK K
 refine W.seq_region fun K hK => ?_
 simp (disch := omega) only [↓RU, RV, RH, ↓reduceIte, reduceEqDiff, reduceCtorEq, if_pos, ↓RS, RG, reduceAdd, reduceMul, reduceLeDiff]
 refine hK _ _ ?_;clear hK K
 refine W.seq ?_
 refine W.seq_region fun K hK => ?_
 simp (disch := omega) only [↓RU, RV, RH, ↓reduceIte, reduceEqDiff, reduceCtorEq, if_pos, ↓RS, RG, reduceAdd, reduceMul, reduceLeDiff]
 refine hK _ _ ?_;clear hK K
 refine W.block ?_
 refine W.loop [0, 3, 4] (fun n vs S => ∃ i : Nat, n = ws.length - i ∧ i ≤ ws.length ∧ vs = [eInts ws, .int .i64 (wsum ws i (fun _ => true)), .int .i64 i] ∧ S = ⟨[], 0⟩) (ws.length) ?_ ?_
 ·refine ⟨0, 0, rfl, Nat.zero_le _, ?_, rfl⟩
  simp [Env.put, Env.of, argEnv, wsum]
 rintro n vs S - ⟨i, rfl, h_i, rfl, rfl⟩
 refine W.seq ?_
 refine W.seq_region fun K hK => ?_
 simp (disch := omega) only [↓RU, RV, RH, ↓reduceIte, reduceEqDiff, reduceCtorEq, if_pos, w64, ↓RS, RG, reduceAdd, reduceMul, reduceLeDiff, tyLint, tyint]
 refine hK _ _ ?_;clear hK K
 refine W.cond rfl (fun h => ?_) (fun h => ?_)
 ·try simp only [RL] at h
  obtain ⟨x, hx, hxm⟩ := get_of (show i < ws.length by omega)
  have hx9 := hw x hxm
  have hb := total_bnd hw i h_i
  refine W.skip ?_
  refine XThen.norm ?_
  refine W.seq ?_
  refine W.block ?_
  refine W.region_k fun K hK => ?_
  simp (disch := omega) only [↓RU, RV, RH, ↓reduceIte, reduceEqDiff, reduceCtorEq, if_pos, w64, ↓RS, RG, reduceAdd, reduceMul, reduceLeDiff, tyLint, tyint, hx]
  refine hK _ _ ?_;clear hK K
  refine XBlock.norm ?_
  refine XThen.norm ?_
  refine W.region_k fun K hK => ?_
  simp (disch := omega) only [↓RU, RV, RH, ↓reduceIte, reduceEqDiff, reduceCtorEq, if_pos, w64, ↓RS, RG, reduceAdd, reduceMul, reduceLeDiff, tyint]
  refine hK _ _ ?_;clear hK K
  refine XThen.norm ?_
  refine ⟨ws.length - (i + 1), by omega, 0, i + 1, rfl, by omega, ?_, rfl⟩
  simp [Env.put, Env.of, total_is (n := i), getI_is hx]
 ·try simp only [RL] at h
  obtain rfl : i = ws.length := by omega
  refine W.exit ?_
  refine XThen.exit ?_
  refine XThen.exit ?_
  refine XBlock.hit ?_
  refine XThen.norm ?_
  refine W.seq_region fun K hK => ?_
  simp (disch := omega) only [↓RU, RV, RH, ↓reduceIte, reduceEqDiff, reduceCtorEq, if_pos, ↓RS, RG, reduceAdd, reduceMul, reduceLeDiff]
  refine hK _ _ ?_;clear hK K
  refine W.ret ?_
  refine BodyQ.ret rfl ?_
  rfl
theorem wide_law {code : Txt} (hcode : code.length ≤ 9223372036854775807) : PC Tryz.prog 6 [eBy code] (.bool true) true := by
 refine PC.of ⟨Tryz.func6, by kernel_rfl, rfl, by kernel_rfl⟩ tabOk mixed (by show 1 ≤ Tryz.f6.ntmps; decide) ?_
 refine W.seq_region fun K hK => ?_
 simp (disch := omega) only [↓RU, RV, RH, ↓reduceIte, reduceEqDiff, reduceCtorEq, if_pos, ↓RS, RG, reduceAdd, reduceMul, reduceLeDiff]
 refine hK _ _ ?_;clear hK K
 refine W.seq ?_
 refine W.seq_region fun K hK => ?_
 simp (disch := omega) only [↓RU, RV, RH, ↓reduceIte, reduceEqDiff, reduceCtorEq, if_pos, w64, ↓RS, RG, reduceAdd, reduceMul, reduceLeDiff, ty6, tyint, ty26]
 refine hK _ _ ?_;clear hK K
 refine W.cond rfl (fun h0 => ?_) (fun h0 => ?_)
 ·try simp only [RL] at h0
  refine W.seq_region fun K hK => ?_
  simp (disch := omega) only [↓RU, RV, RH, ↓reduceIte, reduceEqDiff, reduceCtorEq, if_pos, ↓RS, RG, reduceAdd, reduceMul, reduceLeDiff]
  refine hK _ _ ?_;clear hK K
  refine W.ret ?_
  refine XThen.ret ?_
  refine BodyQ.ret rfl ?_
  rfl
 ·try simp only [RL] at h0
  have hcl : code.length ≤ 1048576 := by omega
  refine W.skip ?_
  refine XThen.norm ?_
  refine W.seq_region fun K hK => ?_
  simp (disch := omega) only [↓RU, RV, RH, ↓reduceIte, reduceEqDiff, reduceCtorEq, if_pos, List.append_nil, ↓RS, RG, reduceAdd, reduceMul, reduceLeDiff]
  refine CallR.ev (drawSizeWide_ev hcl) ?_
  rintro _ _ ⟨p, ws, t, hs, hwl, rfl, rfl⟩
  simp (disch := omega) only [↓RU, RV, RH, ↓reduceIte, reduceEqDiff, reduceCtorEq, if_pos, List.append_nil, ↓RS, RG, reduceAdd, reduceMul, reduceLeDiff]
  refine hK _ _ ?_;clear hK K
  refine W.seq_region fun K hK => ?_
  simp (disch := omega) only [↓RU, RV, RH, ↓reduceIte, reduceEqDiff, reduceCtorEq, if_pos, List.append_nil, ↓RS, RG, reduceAdd, reduceMul, reduceLeDiff]
  refine CallR.pc (sizeWide_v hs (by omega)) rfl (.inl rfl) ?_
  simp (disch := omega) only [↓RU, RV, RH, ↓reduceIte, reduceEqDiff, reduceCtorEq, if_pos, List.append_nil, ↓RS, RG, reduceAdd, reduceMul, reduceLeDiff]
  refine hK _ _ ?_;clear hK K
  refine W.seq_region fun K hK => ?_
  simp (disch := omega) only [↓RU, RV, RH, ↓reduceIte, reduceEqDiff, reduceCtorEq, if_pos, List.append_nil, ↓RS, RG, reduceAdd, reduceMul, reduceLeDiff]
  refine CallR.pc (sSizeWide_pc hs (by omega)) rfl (.inl rfl) ?_
  simp (disch := omega) only [↓RU, RV, RH, ↓reduceIte, reduceEqDiff, reduceCtorEq, if_pos, List.append_nil, ↓RS, RG, reduceAdd, reduceMul, reduceLeDiff]
  refine hK _ _ ?_;clear hK K
  refine W.seq ?_
  refine W.seq_region fun K hK => ?_
  cases hv : needV p [ws]
  ·skip
   simp (disch := omega) only [↓RU, RV, RH, ↓reduceIte, reduceEqDiff, reduceCtorEq, if_pos, w64, ↓RS, RG, reduceAdd, reduceMul, reduceLeDiff, tybool, tyint, pEq_bb, Option.map_some, bne_self_eq_false, beq_self_eq_true, Bool.not_true, Bool.not_false, decide_true, hv]
   refine hK _ _ ?_;clear hK K
   refine W.cond rfl (fun h1 => ?_) (fun h1 => ?_)
   ·try simp only [RL] at h1
    refine W.seq_region fun K hK => ?_
    simp (disch := omega) only [↓RU, RV, RH, ↓reduceIte, reduceEqDiff, reduceCtorEq, if_pos, w64, ↓RS, RG, reduceAdd, reduceMul, reduceLeDiff, tybool, tyint, pEq_bb, Option.map_some, bne_self_eq_false, beq_self_eq_true, Bool.not_true, Bool.not_false, decide_true]
    refine hK _ _ ?_;clear hK K
    refine W.ret ?_
    refine XThen.ret ?_
    refine BodyQ.ret rfl ?_
    rfl
   ·try simp only [RL] at h1
    exact absurd h1 (by simp)
  ·skip
   simp (disch := omega) only [↓RU, RV, RH, ↓reduceIte, reduceEqDiff, reduceCtorEq, if_pos, w64, ↓RS, RG, reduceAdd, reduceMul, reduceLeDiff, tybool, tyint, pEq_bb, Option.map_some, bne_self_eq_false, beq_self_eq_true, Bool.not_true, Bool.not_false, decide_true, hv]
   refine hK _ _ ?_;clear hK K
   refine W.cond rfl (fun h1 => ?_) (fun h1 => ?_)
   ·try simp only [RL] at h1
    exact absurd h1 (by simp)
   ·try simp only [RL] at h1
    obtain ⟨u1, -, q1, q2, q3, q4, -⟩ := needV_all hv
    obtain ⟨w1, w2, w3⟩ := wide_facts hv
    obtain ⟨hpl, -, -⟩ := needV_one hv
    have hno := ones_need hpl
    have hwo := wideV_yes hno
    have hlv := (longV_yes hpl).1
    have hpb := plainI_is hpl
    have hol := ones_len (n := (rP p).length)
    rw [← wideV_yes hv] at w1 w2 w3
    rw [← hlv] at w3
    skip
    have hwl2 : wideV p (ones (rP p).length) = longV p 0 := by rw [hlv]; exact hwo
    refine W.skip ?_
    refine XThen.norm ?_
    refine W.seq_region fun K hK => ?_
    simp (disch := omega) only [↓RU, RV, RH, ↓reduceIte, reduceEqDiff, reduceCtorEq, if_pos, ↓RS, RG, reduceAdd, reduceMul, reduceLeDiff, tyLint, tyint]
    refine hK _ _ ?_;clear hK K
    refine W.seq_region fun K hK => ?_
    simp (disch := omega) only [↓RU, RV, RH, ↓reduceIte, reduceEqDiff, reduceCtorEq, if_pos, ↓RS, RG, reduceAdd, reduceMul, reduceLeDiff]
    refine hK _ _ ?_;clear hK K
    refine W.seq ?_
    refine W.seq_region fun K hK => ?_
    simp (disch := omega) only [↓RU, RV, RH, ↓reduceIte, reduceEqDiff, reduceCtorEq, if_pos, ↓RS, RG, reduceAdd, reduceMul, reduceLeDiff]
    refine hK _ _ ?_;clear hK K
    refine W.block ?_
    refine W.loop [3, 4, 5, 9, 10, 11] (fun n vs S => ∃ i v0 tk : Nat, n = (rP p).length - i ∧ i ≤ (rP p).length ∧ vs = [eStrs p, eInts ws, .int .i64 (wideV p ws), .loc 0 v0 0 i, .int .i64 ((ws.take i).foldl max 0), .int .i64 i] ∧ S = ⟨[.arr v0 3 1 ((ones i).map (.int .i64))], tk⟩) (rP p).length ?_ ?_
    ·refine ⟨1, 0, t, t + 1, rfl, by omega, ?_, ?_⟩
     ·simp [Env.put, Env.of, argEnv]
     ·simp [take_eq]
    rintro n vs S - ⟨i, v0, tk, rfl, h_i, rfl, rfl⟩
    refine W.seq ?_
    refine W.seq_region fun K hK => ?_
    simp (disch := omega) only [↓RU, RV, RH, ↓reduceIte, reduceEqDiff, reduceCtorEq, if_pos, w64, ↓RS, RG, reduceAdd, reduceMul, reduceLeDiff, tyLint, tyint]
    refine hK _ _ ?_;clear hK K
    refine W.cond rfl (fun h2 => ?_) (fun h2 => ?_)
    ·try simp only [RL] at h2
     obtain ⟨x, hx, hxm⟩ := get_of (show i < ws.length by omega)
     have hx9 := q4 x hxm
     have hmb := most_bnd (l := ws.take i) (B := 9) (by omega) fun x hx => (q4 x (List.mem_of_mem_take hx)).2
     have hil := ones_len (n := i)
     refine W.skip ?_
     refine XThen.norm ?_
     refine W.seq ?_
     refine W.block ?_
     refine W.seq_region fun K hK => ?_
     simp (disch := omega) only [↓RU, RV, RH, ↓reduceIte, reduceEqDiff, reduceCtorEq, if_pos, ↓RS, RG, reduceAdd, reduceMul, reduceLeDiff, tyLint, tyint, hil, repz_int]
     refine hK _ _ ?_;clear hK K
     refine W.region_k fun K hK => ?_
     simp (disch := omega) only [↓RU, RV, RH, ↓reduceIte, reduceEqDiff, reduceCtorEq, if_pos, ite_max, ↓RS, RG, reduceAdd, reduceMul, reduceLeDiff, tyLint, tyint, hx]
     refine hK _ _ ?_;clear hK K
     refine XBlock.norm ?_
     refine XThen.norm ?_
     refine W.region_k fun K hK => ?_
     simp (disch := omega) only [↓RU, RV, RH, ↓reduceIte, reduceEqDiff, reduceCtorEq, if_pos, w64, ↓RS, RG, reduceAdd, reduceMul, reduceLeDiff, tyint]
     refine hK _ _ ?_;clear hK K
     refine XThen.norm ?_
     refine ⟨(rP p).length - (i + 1), by omega, 1, i + 1, tk + 1, tk + 2, rfl, by omega, ?_, ?_⟩
     ·simp [Env.put, Env.of, foldl_max_succ hx]
     ·simp [take_eq, List.replicate_succ']
    ·try simp only [RL] at h2
     obtain rfl : i = (rP p).length := by omega
     have hmb := most_bnd (l := ws.take (rP p).length) (B := (wideV p ws)) (by have := total_bnd q4 0 (by omega); have h5 := maxH_bound (M := lfM p) (ws := ws) (n := (rP p).length) q4; rw [wideV_yes hv]; exact h5.1) fun x hx => w1 x (List.mem_of_mem_take hx)
     have g1 : decide ((wideV p ws) ≥ (ws.take (rP p).length).foldl max 0) = true := decide_eq_true hmb.2
     have g2 : decide ((wideV p ws) ≤ wsum ws ws.length (fun _ => true)) = true := decide_eq_true (by rw [q1]; exact w2)
     have g3 : decide ((wideV p ws) ≥ longV p 0) = true := decide_eq_true w3
     refine W.exit ?_
     refine XThen.exit ?_
     refine XThen.exit ?_
     refine XBlock.hit ?_
     refine XThen.norm ?_
     refine W.seq_region fun K hK => ?_
     simp (disch := omega) only [↓RU, RV, RH, ↓reduceIte, reduceEqDiff, reduceCtorEq, if_pos, List.append_nil, ↓RS, RG, reduceAdd, reduceMul, reduceLeDiff, hno, hwl2]
     refine CallR.pc (sizeWide_v hs (ws := (ones (rP p).length)) (by rw [hol]; omega)) (mapM_one rfl (mapM_one ((reify_loc (k := 9) (n := (rP p).length) rfl (by simp) (mapM_int _)).trans (by rw [eInts, hol])) rfl)) (.inl rfl) ?_
     simp (disch := omega) only [↓RU, RV, RH, ↓reduceIte, reduceEqDiff, reduceCtorEq, if_pos, List.append_nil, ↓RS, RG, reduceAdd, reduceMul, reduceLeDiff, hno, hwl2]
     refine hK _ _ ?_;clear hK K
     refine W.seq_region fun K hK => ?_
     simp (disch := omega) only [↓RU, RV, RH, ↓reduceIte, reduceEqDiff, reduceCtorEq, if_pos, List.append_nil, ↓RS, RG, reduceAdd, reduceMul, reduceLeDiff, hpb]
     refine CallR.pc (orderLong_pc hs) rfl (.inl rfl) ?_
     simp (disch := omega) only [↓RU, RV, RH, ↓reduceIte, reduceEqDiff, reduceCtorEq, if_pos, List.append_nil, ↓RS, RG, reduceAdd, reduceMul, reduceLeDiff, hpb]
     refine hK _ _ ?_;clear hK K
     refine W.seq_region fun K hK => ?_
     simp (disch := omega) only [↓RU, RV, RH, ↓reduceIte, reduceEqDiff, reduceCtorEq, if_pos, w64, List.append_nil, ↓RS, RG, reduceAdd, reduceMul, reduceLeDiff, tyint, pEq_bb, Option.map_some, bne_self_eq_false, beq_self_eq_true, Bool.not_true, Bool.not_false, decide_true, beq_self_eq_true, g1, g2, g3]
     refine CallR.pc (total_pc q4 (by omega)) rfl (.inl rfl) ?_
     simp (disch := omega) only [↓RU, RV, RH, ↓reduceIte, reduceEqDiff, reduceCtorEq, if_pos, w64, List.append_nil, ↓RS, RG, reduceAdd, reduceMul, reduceLeDiff, tyint, pEq_bb, Option.map_some, bne_self_eq_false, beq_self_eq_true, Bool.not_true, Bool.not_false, decide_true, beq_self_eq_true, g1, g2, g3]
     refine hK _ _ ?_;clear hK K
     refine W.ret ?_
     refine BodyQ.ret rfl ?_
     rfl
end Fw
end Go.Proofs.YtcglmbijpjhbmaaGreat
namespace Go.Proofs.YtcglmbijpjhbmaaGreat
open Go Go.ChangeShapes Go.WideShapes Go.ChangeAt Go.RowKit Fw
theorem Tryz.ownRw : ownKnob Tryz.prog.godebug = none := by kernel_rfl
theorem Tryz.laidOutRw : laidOutB Tryz.prog = true := by kernel_rfl
set_option maxRecDepth 100000 in
theorem rw_lifted (os : Os) (started : os.Started) (H : Type) (enc : TypeId × Value → H) :
  ReturnsInHanded {} Tryz.checked os 6 .any (Rows.fnWideNeedsSpec.pre6 enc Tryz.prog Tryz.f6 Rows.fnWideNeedsRow.domain false) (Rows.fnWideNeedsSpec.post enc Tryz.prog Tryz.f6 false true false false) := by
 refine returnsInHanded_of_change (C := Tryz.checked) Tryz.ownRw started (by kernel_rfl) Tryz.func6
  (ChangeSpec.witness6 (enc := enc) (C := Tryz.checked) false ⟨#[], #[.slice none 0 0], []⟩ 8 (by kernel_rfl) (by kernel_rfl) (by kernel_rfl) (by kernel_rfl)) ?_
 intro W base args ds gs before hval0 hW hcnd _
 have hval : ∀ (j : Nat) t v, Tryz.f6.params[j]? = some t → args[j]? = some v → Value.okWide Tryz.prog W .any base t v := hval0
 have hW' := hW
 obtain ⟨p, q, hA0, hV, rfl, hfz, hnd⟩ := hW
 have hA : DataW.TrodAll enc Tryz.prog W 0 (fun _ => true) true Tryz.f6.params.toList args.toList ds p := hA0
 rw [Tryz.params6] at hA hval
 obtain ⟨v0, d0, rfl, rfl, h0⟩ := trodAll_one hA
 obtain ⟨rfl, rfl⟩ := trodVars_none hV
 obtain ⟨l0, i0, b0⟩ := vi_bytes (hval 0 _ v0 rfl rfl) h0
 have hlt : ∀ x ∈ p, x.block < W.heap.size := fun x hx => hW'.lt x (by simp [hx])
 refine ((wide_law b0).run (fun b => b < W.heap.size) W #[v0] (fun _ h => h) rfl ?_).mono ?_
 ·rintro (_ | i) p c hp hc
  ·cases hp; cases hc; exact i0
  ·simp at hp
 ·rintro e W' ⟨cv, rfl, hB, hr⟩
  have hcv : cv = .bool true := by cases hr; rfl
  subst hcv
  have t0 := Below.trod Tryz.laidOutRw (by kernel_rfl) (of_decide_eq_true (by kernel_rfl)) h0 hB fun x hx => hlt x (by simp [hx])
  refine ⟨_, rfl, _, _, _, [], p, [], hW', ?_, ?_, ?_, hB.frame _, fun h => by cases h⟩
  ·exact trodAll_mk1 (shut_bool Tryz.underlying4 true)
  ·rw [Tryz.params6]; exact trodAll_mk1 t0
  ·trivial
theorem rw_holds : Rows.FnWideNeedsSaid :=
 OpenClaim.holds_of_wide 6 Tryz.f6 rfl rfl rfl rfl rfl rfl rfl ⟨rfl, rfl, rfl, rfl, rfl⟩ rfl rfl rfl rfl rfl (by kernel_rfl) Tryz.func6 (by kernel_rfl)
  (of_decide_eq_true (by kernel_rfl)) (by unfold Func.isWrapper; first | (rw [if_pos (by decide +kernel)]; kernel_rfl) | (rw [if_neg (by decide +kernel)]; exact ⟨rfl, rfl⟩))
  (fun os started H enc _ => rw_lifted os started H enc)
end Go.Proofs.YtcglmbijpjhbmaaGreat
