/- Longest rows of rooms need as many columns: the law FnOrderLong answers true for all codes. No condition. -/
import Derived.Test.YtclmfemhboogpaaJ4
set_option linter.all false
namespace Go.Proofs.Ytclmfemhboogpaa
namespace Fw
open Go
open Nat (reduceEqDiff reduceLeDiff reduceAdd reduceMul)
theorem set_eB {l : Txt} {a : Nat} {c : UInt8} : (l.map eB).set a (.int .u8 (c.toNat : Int)) = (l.set a c).map eB := by rw [List.map_set]
theorem bytesOf_eB (l : Txt) : bytesOf (l.map eB) = some l := bytesOf_map l
theorem l1None_pc  : PC Try.prog 112 [] (.tup [eStrs [], .bool false]) true := by
 refine PC.of ⟨Try.func112, by kernel_rfl, rfl, by kernel_rfl⟩ tabOk mixed (by show 0 ≤ Try.f112.ntmps; decide) ?_
 refine W.seq_region fun K hK => ?_
 simp (disch := omega) only [↓RU, RV, RH, ↓reduceIte, reduceEqDiff, reduceCtorEq, if_pos, ↓RS, RG, reduceAdd, reduceMul, reduceLeDiff]
 refine hK _ _ ?_;clear hK K
 refine W.seq_region fun K hK => ?_
 simp (disch := omega) only [↓RU, RV, RH, ↓reduceIte, reduceEqDiff, reduceCtorEq, if_pos, ↓RS, RG, reduceAdd, reduceMul, reduceLeDiff, ty5, tystring]
 refine hK _ _ ?_;clear hK K
 refine W.ret ?_
 refine BodyQ.ret rfl ?_
 exact reify_tup2 (k := 9) (reify_loc (k := 8) (n := 0) rfl rfl rfl) rfl
theorem l1Put_pc {p : List Txt} (hs : Sm p) {tp lf hg wd : Nat} {c : UInt8} (h1 : tp + hg ≤ p.length) (h2 : ∀ row ∈ p, lf + wd ≤ row.length) : PC Try.prog 114 [eStrs p, .int .i64 tp, .int .i64 lf, .int .i64 hg, .int .i64 wd, eB c] (eStrs (putTo p tp lf wd c (tp + hg))) true := by
 obtain ⟨hs1, hs2⟩ := hs
 refine PC.of ⟨Try.func114, by kernel_rfl, rfl, by kernel_rfl⟩ tabOk mixed (by show 6 ≤ Try.f114.ntmps; decide) ?_
 refine W.seq_region fun K hK => ?_
 simp (disch := omega) only [↓RU, RV, RH, ↓reduceIte, reduceEqDiff, reduceCtorEq, if_pos, ↓RS, RG, reduceAdd, reduceMul, reduceLeDiff]
 refine hK _ _ ?_;clear hK K
 refine W.seq_region fun K hK => ?_
 simp (disch := omega) only [↓RU, RV, RH, ↓reduceIte, reduceEqDiff, reduceCtorEq, if_pos, ↓RS, RG, reduceAdd, reduceMul, reduceLeDiff, ty5, tystring]
 refine hK _ _ ?_;clear hK K
 refine W.seq ?_
 refine W.seq_region fun K hK => ?_
 simp (disch := omega) only [↓RU, RV, RH, ↓reduceIte, reduceEqDiff, reduceCtorEq, if_pos, ↓RS, RG, reduceAdd, reduceMul, reduceLeDiff]
 refine hK _ _ ?_;clear hK K
 refine W.block ?_
 refine W.loop [0, 1, 2, 3, 4, 5, 13, 14] (fun n vs S => ∃ j t v : Nat, n = hg - j ∧ j ≤ hg ∧ vs = [eStrs p, .int .i64 tp, .int .i64 lf, .int .i64 hg, .int .i64 wd, eB c, .loc 0 v 0 p.length, .int .i64 ((tp + j : Nat) : Int)] ∧ S = ⟨[.arr v 9 1 ((putTo p tp lf wd c (tp + j)).map .str)], t⟩) hg ?_ ?_
 ·refine ⟨1, 0, 2, 1, rfl, by omega, ?_, ?_⟩
  ·simp [Env.put, Env.of, argEnv]
  ·simp [take_eq, putTo_zero]
 rintro n vs S - ⟨j, t, v, rfl, h_j, rfl, rfl⟩
 refine W.seq ?_
 refine W.seq_region fun K hK => ?_
 simp (disch := omega) only [↓RU, RV, RH, ↓reduceIte, reduceEqDiff, reduceCtorEq, if_pos, w64, ↓RS, RG, reduceAdd, reduceMul, reduceLeDiff, tyint]
 refine hK _ _ ?_;clear hK K
 refine W.cond rfl (fun h => ?_) (fun h => ?_)
 ·try simp only [RL] at h
  obtain ⟨i, hi⟩ : ∃ i, tp + j = i := ⟨_, rfl⟩
  simp only [hi]
  obtain ⟨row, hrow0, hrm⟩ := get_of (show i < p.length by omega)
  have hrow := putTo_at (t := tp) (l := lf) (w := wd) (c := c) hrow0
  have hlen := putTo_len (p := p) (t := tp) (l := lf) (w := wd) (c := c) (i := i)
  have hr1 := hs2 row hrm
  have hr2 := h2 row hrm
  refine W.skip ?_
  refine XThen.norm ?_
  refine W.seq ?_
  refine W.block ?_
  refine W.seq_thaw (l1 := [_, _, _, _]) (o := _) (l2 := [_]) rfl fun K hK => ?_
  simp (disch := omega) only [↓RU, RV, RH, ↓reduceIte, reduceEqDiff, reduceCtorEq, if_pos, w64, ↓RS, RG, reduceAdd, reduceMul, reduceLeDiff, ty5, ty6, tystring, ty26, hrow, hlen]
  refine ⟨_, _, _, _, _, rfl, rfl, rfl, rfl, rfl, rfl, by omega, ?_⟩
  simp (disch := omega) only [↓RU, RV, RH, ↓reduceIte, reduceEqDiff, reduceCtorEq, if_pos, w64, ↓RS, RG, reduceAdd, reduceMul, reduceLeDiff, ty5, ty6, tystring, ty26, hrow, hlen]
  refine hK _ _ ?_;clear hK K
  refine W.seq ?_
  refine W.seq_region fun K hK => ?_
  simp (disch := omega) only [↓RU, RV, RH, ↓reduceIte, reduceEqDiff, reduceCtorEq, if_pos, ↓RS, RG, reduceAdd, reduceMul, reduceLeDiff]
  refine hK _ _ ?_;clear hK K
  refine W.block ?_
  refine W.loop [0, 1, 2, 3, 4, 5, 13, 14, 15, 16] (fun n vs S => ∃ k t2 : Nat, n = wd - k ∧ k ≤ wd ∧ vs = [eStrs p, .int .i64 tp, .int .i64 lf, .int .i64 hg, .int .i64 wd, eB c, .loc 0 v 0 p.length, .int .i64 (i : Int), .loc 1 t 0 row.length, .int .i64 ((lf + k : Nat) : Int)] ∧ S = ⟨[.arr v 9 1 ((putTo p tp lf wd c i).map .str), .arr t 5 1 ((rowPut row lf c (lf + k)).map eB)], t2⟩) wd ?_ ?_
  ·refine ⟨2, 0, t + 1, rfl, by omega, ?_, ?_⟩
   ·simp [Env.put, Env.of]
   ·simp [take_eq, rowPut_zero]
  rintro n vs S - ⟨k, t2, rfl, h_k, rfl, rfl⟩
  refine W.seq ?_
  refine W.seq_region fun K hK => ?_
  simp (disch := omega) only [↓RU, RV, RH, ↓reduceIte, reduceEqDiff, reduceCtorEq, if_pos, w64, ↓RS, RG, reduceAdd, reduceMul, reduceLeDiff, tyint]
  refine hK _ _ ?_;clear hK K
  refine W.cond rfl (fun h3 => ?_) (fun h3 => ?_)
  ·try simp only [RL] at h3
   have hrl := rowPut_len (row := row) (l := lf) (k := lf + k) (c := c)
   refine W.skip ?_
   refine XThen.norm ?_
   refine W.seq ?_
   refine W.block ?_
   refine W.region_k fun K hK => ?_
   simp (disch := omega) only [↓RU, RV, RH, ↓reduceIte, reduceEqDiff, reduceCtorEq, if_pos, ↓RS, RG, reduceAdd, reduceMul, reduceLeDiff, ty6, ty26, hrl, set_spl, set_eB]
   refine hK _ _ ?_;clear hK K
   refine XBlock.norm ?_
   refine XThen.norm ?_
   refine W.region_k fun K hK => ?_
   simp (disch := omega) only [↓RU, RV, RH, ↓reduceIte, reduceEqDiff, reduceCtorEq, if_pos, w64, ↓RS, RG, reduceAdd, reduceMul, reduceLeDiff, tyint]
   refine hK _ _ ?_;clear hK K
   refine XThen.norm ?_
   refine ⟨wd - (k + 1), by omega, 2, k + 1, t2, rfl, by omega, ?_, ?_⟩
   ·simp [Env.put, Env.of]; omega
   ·simp only [take_eq]; rw [rowPut_succ (by omega) (by omega)]; rfl
  ·try simp only [RL] at h3
   obtain rfl : k = wd := by omega
   have hrl := rowPut_len (row := row) (l := lf) (k := lf + k) (c := c)
   have htk : ((rowPut row lf c (lf + k)).map eB).take row.length = (rowPut row lf c (lf + k)).map eB := List.take_of_length_le (by simp [hrl])
   refine W.exit ?_
   refine XThen.exit ?_
   refine XThen.exit ?_
   refine XBlock.hit ?_
   refine XThen.norm ?_
   refine W.region_k fun K hK => ?_
   simp (disch := omega) only [↓RU, RV, RH, ↓reduceIte, reduceEqDiff, reduceCtorEq, if_pos, w64, ↓RS, RG, reduceAdd, reduceMul, reduceLeDiff, ty5, ty6, tystring, ty26, hrl, htk, bytesOf_eB, hlen, set_spl, set_str, cells_str, List.length_cons, List.length_nil, Option.map_some]
   refine hK _ _ ?_;clear hK K
   refine XBlock.norm ?_
   refine XThen.norm ?_
   refine W.region_k fun K hK => ?_
   simp (disch := omega) only [↓RU, RV, RH, ↓reduceIte, reduceEqDiff, reduceCtorEq, if_pos, w64, ↓RS, RG, reduceAdd, reduceMul, reduceLeDiff, tyint]
   refine hK _ _ ?_;clear hK K
   refine XThen.norm ?_
   refine ⟨hg - (j + 1), by omega, 1, j + 1, t2, v, rfl, by omega, ?_, ?_⟩
   ·subst hi; simp [Env.put, Env.of]; omega
   ·subst hi; simp only [take_eq, List.take_succ_cons, List.take_zero]; rw [putTo_succ (by omega) hrow0]; rfl
 ·try simp only [RL] at h
  refine W.exit ?_
  refine XThen.exit ?_
  refine XThen.exit ?_
  refine XBlock.hit ?_
  refine XThen.norm ?_
  refine W.seq_region fun K hK => ?_
  simp (disch := omega) only [↓RU, RV, RH, ↓reduceIte, reduceEqDiff, reduceCtorEq, if_pos, ↓RS, RG, reduceAdd, reduceMul, reduceLeDiff]
  refine hK _ _ ?_;clear hK K
  refine W.ret ?_
  refine BodyQ.ret rfl ?_
  obtain rfl : j = hg := by omega
  exact (reify_loc (k := 9) rfl (by simp [putTo_len]) (mapM_str _)).trans (by simp [putTo_len])
theorem l1Done_pc {p : List Txt} (hs : Sm p) : PC Try.prog 113 [eStrs p] (.tup [eStrs (doneP p).1, .bool (doneP p).2]) false := by
 refine PC.of ⟨Try.func113, by kernel_rfl, rfl, by kernel_rfl⟩ tabOk mixed (by show 1 ≤ Try.f113.ntmps; decide) ?_
 refine W.seq_region fun K hK => ?_
 simp (disch := omega) only [↓RU, RV, RH, ↓reduceIte, reduceEqDiff, reduceCtorEq, if_pos, ↓RS, RG, reduceAdd, reduceMul, reduceLeDiff]
 refine hK _ _ ?_;clear hK K
 refine W.seq ?_
 refine W.seq_region fun K hK => ?_
 rcases hgg : (gridB p, planB (names p)) with ⟨_ | _, _ | _⟩
 ·skip
  simp only [Prod.mk.injEq] at hgg
  obtain ⟨hg1, hg2⟩ := hgg
  simp (disch := omega) only [↓RU, RV, RH, ↓reduceIte, reduceEqDiff, reduceCtorEq, if_pos, List.append_nil, ↓RS, RG, reduceAdd, reduceMul, reduceLeDiff, hg1, hg2]
  refine CallR.pc (l1Grid_pc hs) rfl (.inl rfl) ?_
  simp (disch := omega) only [↓RU, RV, RH, ↓reduceIte, reduceEqDiff, reduceCtorEq, if_pos, List.append_nil, ↓RS, RG, reduceAdd, reduceMul, reduceLeDiff, hg1, hg2]
  refine hK _ _ ?_;clear hK K
  refine W.cond rfl (fun h => ?_) (fun h => ?_)
  ·try simp only [RL] at h
   refine W.seq_region fun K hK => ?_
   simp (disch := omega) only [↓RU, RV, RH, ↓reduceIte, reduceEqDiff, reduceCtorEq, if_pos, List.append_nil, ↓RS, RG, reduceAdd, reduceMul, reduceLeDiff]
   refine CallR.pc (l1None_pc) rfl (.inl rfl) ?_
   simp (disch := omega) only [↓RU, RV, RH, ↓reduceIte, reduceEqDiff, reduceCtorEq, if_pos, List.append_nil, ↓RS, RG, reduceAdd, reduceMul, reduceLeDiff]
   refine hK _ _ ?_;clear hK K
   refine W.ret ?_
   refine XThen.ret ?_
   refine BodyQ.ret rfl ?_
   rw [show doneP p = ([], false) by unfold doneP; rw [hg1]; rfl]
   rfl
  ·try simp only [RL] at h
   exact absurd h (by simp)
 ·skip
  simp only [Prod.mk.injEq] at hgg
  obtain ⟨hg1, hg2⟩ := hgg
  simp (disch := omega) only [↓RU, RV, RH, ↓reduceIte, reduceEqDiff, reduceCtorEq, if_pos, List.append_nil, ↓RS, RG, reduceAdd, reduceMul, reduceLeDiff, hg1, hg2]
  refine CallR.pc (l1Grid_pc hs) rfl (.inl rfl) ?_
  simp (disch := omega) only [↓RU, RV, RH, ↓reduceIte, reduceEqDiff, reduceCtorEq, if_pos, List.append_nil, ↓RS, RG, reduceAdd, reduceMul, reduceLeDiff, hg1, hg2]
  refine hK _ _ ?_;clear hK K
  refine W.cond rfl (fun h => ?_) (fun h => ?_)
  ·try simp only [RL] at h
   refine W.seq_region fun K hK => ?_
   simp (disch := omega) only [↓RU, RV, RH, ↓reduceIte, reduceEqDiff, reduceCtorEq, if_pos, List.append_nil, ↓RS, RG, reduceAdd, reduceMul, reduceLeDiff]
   refine CallR.pc (l1None_pc) rfl (.inl rfl) ?_
   simp (disch := omega) only [↓RU, RV, RH, ↓reduceIte, reduceEqDiff, reduceCtorEq, if_pos, List.append_nil, ↓RS, RG, reduceAdd, reduceMul, reduceLeDiff]
   refine hK _ _ ?_;clear hK K
   refine W.ret ?_
   refine XThen.ret ?_
   refine BodyQ.ret rfl ?_
   rw [show doneP p = ([], false) by unfold doneP; rw [hg1]; rfl]
   rfl
  ·try simp only [RL] at h
   exact absurd h (by simp)
 ·skip
  simp only [Prod.mk.injEq] at hgg
  obtain ⟨hg1, hg2⟩ := hgg
  simp (disch := omega) only [↓RU, RV, RH, ↓reduceIte, reduceEqDiff, reduceCtorEq, if_pos, List.append_nil, ↓RS, RG, reduceAdd, reduceMul, reduceLeDiff, hg1, hg2]
  refine CallR.pc (l1Grid_pc hs) rfl (.inl rfl) ?_
  simp (disch := omega) only [↓RU, RV, RH, ↓reduceIte, reduceEqDiff, reduceCtorEq, if_pos, List.append_nil, ↓RS, RG, reduceAdd, reduceMul, reduceLeDiff, hg1, hg2]
  refine CallR.pc (l1Names_pc hs) rfl (.inl rfl) ?_
  simp (disch := omega) only [↓RU, RV, RH, ↓reduceIte, reduceEqDiff, reduceCtorEq, if_pos, List.append_nil, ↓RS, RG, reduceAdd, reduceMul, reduceLeDiff, hg1, hg2]
  refine CallR.pc (sPlanIn_pc hs.names) rfl (.inl rfl) ?_
  simp (disch := omega) only [↓RU, RV, RH, ↓reduceIte, reduceEqDiff, reduceCtorEq, if_pos, List.append_nil, ↓RS, RG, reduceAdd, reduceMul, reduceLeDiff, hg1, hg2]
  refine hK _ _ ?_;clear hK K
  refine W.cond rfl (fun h => ?_) (fun h => ?_)
  ·try simp only [RL] at h
   refine W.seq_region fun K hK => ?_
   simp (disch := omega) only [↓RU, RV, RH, ↓reduceIte, reduceEqDiff, reduceCtorEq, if_pos, List.append_nil, ↓RS, RG, reduceAdd, reduceMul, reduceLeDiff]
   refine CallR.pc (l1None_pc) rfl (.inl rfl) ?_
   simp (disch := omega) only [↓RU, RV, RH, ↓reduceIte, reduceEqDiff, reduceCtorEq, if_pos, List.append_nil, ↓RS, RG, reduceAdd, reduceMul, reduceLeDiff]
   refine hK _ _ ?_;clear hK K
   refine W.ret ?_
   refine XThen.ret ?_
   refine BodyQ.ret rfl ?_
   rw [show doneP p = ([], false) by unfold doneP; rw [hg1, hg2]; rfl]
   rfl
  ·try simp only [RL] at h
   exact absurd h (by simp)
 ·skip
  simp only [Prod.mk.injEq] at hgg
  obtain ⟨hg1, hg2⟩ := hgg
  simp (disch := omega) only [↓RU, RV, RH, ↓reduceIte, reduceEqDiff, reduceCtorEq, if_pos, List.append_nil, ↓RS, RG, reduceAdd, reduceMul, reduceLeDiff, hg1, hg2]
  refine CallR.pc (l1Grid_pc hs) rfl (.inl rfl) ?_
  simp (disch := omega) only [↓RU, RV, RH, ↓reduceIte, reduceEqDiff, reduceCtorEq, if_pos, List.append_nil, ↓RS, RG, reduceAdd, reduceMul, reduceLeDiff, hg1, hg2]
  refine CallR.pc (l1Names_pc hs) rfl (.inl rfl) ?_
  simp (disch := omega) only [↓RU, RV, RH, ↓reduceIte, reduceEqDiff, reduceCtorEq, if_pos, List.append_nil, ↓RS, RG, reduceAdd, reduceMul, reduceLeDiff, hg1, hg2]
  refine CallR.pc (sPlanIn_pc hs.names) rfl (.inl rfl) ?_
  simp (disch := omega) only [↓RU, RV, RH, ↓reduceIte, reduceEqDiff, reduceCtorEq, if_pos, List.append_nil, ↓RS, RG, reduceAdd, reduceMul, reduceLeDiff, hg1, hg2]
  refine hK _ _ ?_;clear hK K
  refine W.cond rfl (fun h => ?_) (fun h => ?_)
  ·try simp only [RL] at h
   exact absurd h (by simp)
  ·try simp only [RL] at h
   refine W.skip ?_
   refine XThen.norm ?_
   refine W.seq_region fun K hK => ?_
   simp (disch := omega) only [↓RU, RV, RH, ↓reduceIte, reduceEqDiff, reduceCtorEq, if_pos, List.append_nil, ↓RS, RG, reduceAdd, reduceMul, reduceLeDiff]
   refine CallR.pc (l1Names_pc hs) rfl (.inl rfl) ?_
   simp (disch := omega) only [↓RU, RV, RH, ↓reduceIte, reduceEqDiff, reduceCtorEq, if_pos, List.append_nil, ↓RS, RG, reduceAdd, reduceMul, reduceLeDiff]
   refine hK _ _ ?_;clear hK K
   refine W.ret ?_
   refine BodyQ.ret rfl ?_
   rw [show doneP p = (names p, true) by unfold doneP; rw [hg1, hg2]; rfl]
   rfl
theorem planSplit_pc {p : List Txt} (hs : Sm p) (room : Int) {s : Txt} (hsl : s.length ≤ 1048576) (k : Int) : PC Try.prog 107 [eStrs p, .int .i64 room, .str s, .int .i64 k] (.tup [eStrs (splitP p room s k).1, .bool (splitP p room s k).2]) false := by
 have hrb := l1Rooms_bound p
 refine PC.of ⟨Try.func107, by kernel_rfl, rfl, by kernel_rfl⟩ tabOk mixed (by show 4 ≤ Try.f107.ntmps; decide) ?_
 refine W.seq_region fun K hK => ?_
 simp (disch := omega) only [↓RU, RV, RH, ↓reduceIte, reduceEqDiff, reduceCtorEq, if_pos, ↓RS, RG, reduceAdd, reduceMul, reduceLeDiff]
 refine hK _ _ ?_;clear hK K
 refine W.seq ?_
 refine W.seq_region fun K hK => ?_
 simp (disch := omega) only [↓RU, RV, RH, ↓reduceIte, reduceEqDiff, reduceCtorEq, if_pos, List.append_nil, ↓RS, RG, reduceAdd, reduceMul, reduceLeDiff]
 refine CallR.pc (l1Given_pc hs room) rfl (.inl rfl) ?_
 simp (disch := omega) only [↓RU, RV, RH, ↓reduceIte, reduceEqDiff, reduceCtorEq, if_pos, List.append_nil, ↓RS, RG, reduceAdd, reduceMul, reduceLeDiff]
 refine hK _ _ ?_;clear hK K
 refine W.cond rfl (fun h0 => ?_) (fun h0 => ?_)
 ·try simp only [RL] at h0
  have hgv : (planB p && (decide (0 ≤ room) && decide (room ≤ l1Rooms p - 1))) = false := by simpa using h0
  refine W.seq_region fun K hK => ?_
  simp (disch := omega) only [↓RU, RV, RH, ↓reduceIte, reduceEqDiff, reduceCtorEq, if_pos, List.append_nil, ↓RS, RG, reduceAdd, reduceMul, reduceLeDiff]
  refine CallR.pc (l1None_pc) rfl (.inl rfl) ?_
  simp (disch := omega) only [↓RU, RV, RH, ↓reduceIte, reduceEqDiff, reduceCtorEq, if_pos, List.append_nil, ↓RS, RG, reduceAdd, reduceMul, reduceLeDiff]
  refine hK _ _ ?_;clear hK K
  refine W.ret ?_
  refine XThen.ret ?_
  refine BodyQ.ret rfl ?_
  first | (rw [splitP_g hgv]; rfl) | (rw [splitP_h hgv e1 e2 e3 e4 hB1]; rfl) | (rw [splitP_v hgv e1 e2 e3 e4 hB1 hB2]; rfl) | (rw [splitP_no hB1 hB2]; rfl)
 ·try simp only [RL] at h0
  have hgv : (planB p && (decide (0 ≤ room) && decide (room ≤ l1Rooms p - 1))) = true := by simpa using h0
  have hgv2 := hgv
  simp only [Bool.and_eq_true, decide_eq_true_eq] at hgv2
  obtain ⟨hp, hr0, hr1⟩ := hgv2
  obtain ⟨t, l, h, w, e1, e2, e3, e4, q1, q2, q3, q4⟩ := plan_box hp hr0 hr1
  obtain ⟨ps1, ps2, ps3⟩ := plan_small hp
  have hrw : ∀ row ∈ p, row.length = (hdRow p).length := fun row hr => by obtain ⟨i, hi, rfl⟩ := List.getElem_of_mem hr; exact rows_wide hp (List.getElem?_eq_getElem hi)
  have hw6 : (hdRow p).length ≤ 6 := by obtain ⟨row, hrow, hrm⟩ := get_of ps2; rw [← hrw row hrm]; exact (ps3 row hrm).2
  refine W.skip ?_
  refine XThen.norm ?_
  refine W.seq_region fun K hK => ?_
  simp (disch := omega) only [↓RU, RV, RH, ↓reduceIte, reduceEqDiff, reduceCtorEq, if_pos, List.append_nil, ↓RS, RG, reduceAdd, reduceMul, reduceLeDiff, e1, e2, e3, e4]
  refine CallR.pc (l1Room_pc hs (by omega) room) rfl (.inl rfl) ?_
  simp (disch := omega) only [↓RU, RV, RH, ↓reduceIte, reduceEqDiff, reduceCtorEq, if_pos, List.append_nil, ↓RS, RG, reduceAdd, reduceMul, reduceLeDiff, e1, e2, e3, e4]
  refine hK _ _ ?_;clear hK K
  refine W.seq ?_
  refine W.block ?_
  refine W.seq_region fun K hK => ?_
  cases hb1 : (s == ([104] : Txt))
  ·skip
   have hB1 : ((s == [104]) && (decide (1 ≤ k) && decide (k ≤ highOf p room - 1))) = false := by rw [hb1]; rfl
   simp (disch := omega) only [↓RU, RV, RH, ↓reduceIte, reduceEqDiff, reduceCtorEq, if_pos, w64, List.append_nil, ↓RS, RG, reduceAdd, reduceMul, reduceLeDiff, tyint, tystring, hb1, pStr]
   refine hK _ _ ?_;clear hK K
   refine W.cond rfl (fun h1 => ?_) (fun h1 => ?_)
   ·try simp only [RL] at h1
    exact absurd h1 (by simp)
   ·try simp only [RL] at h1
    refine W.seq_region fun K hK => ?_
    cases hb2 : (s == ([118] : Txt))
    ·skip
     have hB2 : ((s == [118]) && (decide (1 ≤ k) && decide (k ≤ wideOf p room - 1))) = false := by rw [hb2]; rfl
     simp (disch := omega) only [↓RU, RV, RH, ↓reduceIte, reduceEqDiff, reduceCtorEq, if_pos, w64, List.append_nil, ↓RS, RG, reduceAdd, reduceMul, reduceLeDiff, tyint, tystring, hb2, pStr]
     refine hK _ _ ?_;clear hK K
     refine W.cond rfl (fun h2 => ?_) (fun h2 => ?_)
     ·try simp only [RL] at h2
      exact absurd h2 (by simp)
     ·try simp only [RL] at h2
      refine W.skip ?_
      refine XBlock.norm ?_
      refine XThen.norm ?_
      refine W.seq_region fun K hK => ?_
      simp (disch := omega) only [↓RU, RV, RH, ↓reduceIte, reduceEqDiff, reduceCtorEq, if_pos, List.append_nil, ↓RS, RG, reduceAdd, reduceMul, reduceLeDiff]
      refine CallR.pc (l1None_pc) rfl (.inl rfl) ?_
      simp (disch := omega) only [↓RU, RV, RH, ↓reduceIte, reduceEqDiff, reduceCtorEq, if_pos, List.append_nil, ↓RS, RG, reduceAdd, reduceMul, reduceLeDiff]
      refine hK _ _ ?_;clear hK K
      refine W.ret ?_
      refine BodyQ.ret rfl ?_
      first | (rw [splitP_g hgv]; rfl) | (rw [splitP_h hgv e1 e2 e3 e4 hB1]; rfl) | (rw [splitP_v hgv e1 e2 e3 e4 hB1 hB2]; rfl) | (rw [splitP_no hB1 hB2]; rfl)
    ·skip
     simp (disch := omega) only [↓RU, RV, RH, ↓reduceIte, reduceEqDiff, reduceCtorEq, if_pos, w64, List.append_nil, ↓RS, RG, reduceAdd, reduceMul, reduceLeDiff, tyint, tystring, hb2, pStr]
     refine CallR.pc (l6In_pc _ _ _) rfl (.inl rfl) ?_
     simp (disch := omega) only [↓RU, RV, RH, ↓reduceIte, reduceEqDiff, reduceCtorEq, if_pos, w64, List.append_nil, ↓RS, RG, reduceAdd, reduceMul, reduceLeDiff, tyint, tystring, hb2, pStr]
     refine hK _ _ ?_;clear hK K
     refine W.cond rfl (fun h2 => ?_) (fun h2 => ?_)
     ·try simp only [RL] at h2
      have hB2 : ((s == [118]) && (decide (1 ≤ k) && decide (k ≤ wideOf p room - 1))) = true := by rw [hb2, e4]; exact h2
      have hk := h2
      simp only [Bool.and_eq_true, decide_eq_true_eq] at hk
      obtain ⟨kn, rfl⟩ : ∃ kn : Nat, k = kn := ⟨k.toNat, by omega⟩
      refine W.seq_region fun K hK => ?_
      simp (disch := omega) only [↓RU, RV, RH, ↓reduceIte, reduceEqDiff, reduceCtorEq, if_pos, w64, List.append_nil, ↓RS, RG, reduceAdd, reduceMul, reduceLeDiff, tyint, show ((l : Int) + (kn : Int)) = ((l + kn : Nat) : Int) from by omega, show ((w : Int) - (kn : Int)) = ((w - kn : Nat) : Int) from by omega]
      refine CallR.pc (l1Put_pc hs (tp := t) (lf := l + kn) (hg := h) (wd := w - kn) (c := 122) (by omega) (fun row hr => by rw [hrw row hr]; omega)) rfl (.inl rfl) ?_
      simp (disch := omega) only [↓RU, RV, RH, ↓reduceIte, reduceEqDiff, reduceCtorEq, if_pos, w64, List.append_nil, ↓RS, RG, reduceAdd, reduceMul, reduceLeDiff, tyint, show ((l : Int) + (kn : Int)) = ((l + kn : Nat) : Int) from by omega, show ((w : Int) - (kn : Int)) = ((w - kn : Nat) : Int) from by omega]
      refine CallR.pc (l1Done_pc (putTo_sm hs)) rfl (.inr rfl) ?_
      simp (disch := omega) only [↓RU, RV, RH, ↓reduceIte, reduceEqDiff, reduceCtorEq, if_pos, w64, List.append_nil, ↓RS, RG, reduceAdd, reduceMul, reduceLeDiff, tyint, show ((l : Int) + (kn : Int)) = ((l + kn : Nat) : Int) from by omega, show ((w : Int) - (kn : Int)) = ((w - kn : Nat) : Int) from by omega]
      refine hK _ _ ?_;clear hK K
      refine W.ret ?_
      refine XBlock.ret ?_
      refine XThen.ret ?_
      refine BodyQ.ret rfl ?_
      first | (rw [splitP_g hgv]; rfl) | (rw [splitP_h hgv e1 e2 e3 e4 hB1]; rfl) | (rw [splitP_v hgv e1 e2 e3 e4 hB1 hB2]; rfl) | (rw [splitP_no hB1 hB2]; rfl)
     ·try simp only [RL] at h2
      have hB2 : ((s == [118]) && (decide (1 ≤ k) && decide (k ≤ wideOf p room - 1))) = false := by rw [hb2, e4]; exact h2
      refine W.skip ?_
      refine XBlock.norm ?_
      refine XThen.norm ?_
      refine W.seq_region fun K hK => ?_
      simp (disch := omega) only [↓RU, RV, RH, ↓reduceIte, reduceEqDiff, reduceCtorEq, if_pos, List.append_nil, ↓RS, RG, reduceAdd, reduceMul, reduceLeDiff]
      refine CallR.pc (l1None_pc) rfl (.inl rfl) ?_
      simp (disch := omega) only [↓RU, RV, RH, ↓reduceIte, reduceEqDiff, reduceCtorEq, if_pos, List.append_nil, ↓RS, RG, reduceAdd, reduceMul, reduceLeDiff]
      refine hK _ _ ?_;clear hK K
      refine W.ret ?_
      refine BodyQ.ret rfl ?_
      first | (rw [splitP_g hgv]; rfl) | (rw [splitP_h hgv e1 e2 e3 e4 hB1]; rfl) | (rw [splitP_v hgv e1 e2 e3 e4 hB1 hB2]; rfl) | (rw [splitP_no hB1 hB2]; rfl)
  ·skip
   simp (disch := omega) only [↓RU, RV, RH, ↓reduceIte, reduceEqDiff, reduceCtorEq, if_pos, w64, List.append_nil, ↓RS, RG, reduceAdd, reduceMul, reduceLeDiff, tyint, tystring, hb1, pStr]
   refine CallR.pc (l6In_pc _ _ _) rfl (.inl rfl) ?_
   simp (disch := omega) only [↓RU, RV, RH, ↓reduceIte, reduceEqDiff, reduceCtorEq, if_pos, w64, List.append_nil, ↓RS, RG, reduceAdd, reduceMul, reduceLeDiff, tyint, tystring, hb1, pStr]
   refine hK _ _ ?_;clear hK K
   refine W.cond rfl (fun h1 => ?_) (fun h1 => ?_)
   ·try simp only [RL] at h1
    have hB1 : ((s == [104]) && (decide (1 ≤ k) && decide (k ≤ highOf p room - 1))) = true := by rw [hb1, e3]; exact h1
    have hk := h1
    simp only [Bool.and_eq_true, decide_eq_true_eq] at hk
    obtain ⟨kn, rfl⟩ : ∃ kn : Nat, k = kn := ⟨k.toNat, by omega⟩
    refine W.seq_region fun K hK => ?_
    simp (disch := omega) only [↓RU, RV, RH, ↓reduceIte, reduceEqDiff, reduceCtorEq, if_pos, w64, List.append_nil, ↓RS, RG, reduceAdd, reduceMul, reduceLeDiff, tyint, show ((t : Int) + (kn : Int)) = ((t + kn : Nat) : Int) from by omega, show ((h : Int) - (kn : Int)) = ((h - kn : Nat) : Int) from by omega]
    refine CallR.pc (l1Put_pc hs (tp := t + kn) (lf := l) (hg := h - kn) (wd := w) (c := 122) (by omega) (fun row hr => by rw [hrw row hr]; omega)) rfl (.inl rfl) ?_
    simp (disch := omega) only [↓RU, RV, RH, ↓reduceIte, reduceEqDiff, reduceCtorEq, if_pos, w64, List.append_nil, ↓RS, RG, reduceAdd, reduceMul, reduceLeDiff, tyint, show ((t : Int) + (kn : Int)) = ((t + kn : Nat) : Int) from by omega, show ((h : Int) - (kn : Int)) = ((h - kn : Nat) : Int) from by omega]
    refine CallR.pc (l1Done_pc (putTo_sm hs)) rfl (.inr rfl) ?_
    simp (disch := omega) only [↓RU, RV, RH, ↓reduceIte, reduceEqDiff, reduceCtorEq, if_pos, w64, List.append_nil, ↓RS, RG, reduceAdd, reduceMul, reduceLeDiff, tyint, show ((t : Int) + (kn : Int)) = ((t + kn : Nat) : Int) from by omega, show ((h : Int) - (kn : Int)) = ((h - kn : Nat) : Int) from by omega]
    refine hK _ _ ?_;clear hK K
    refine W.ret ?_
    refine XBlock.ret ?_
    refine XThen.ret ?_
    refine BodyQ.ret rfl ?_
    first | (rw [splitP_g hgv]; rfl) | (rw [splitP_h hgv e1 e2 e3 e4 hB1]; rfl) | (rw [splitP_v hgv e1 e2 e3 e4 hB1 hB2]; rfl) | (rw [splitP_no hB1 hB2]; rfl)
   ·try simp only [RL] at h1
    have hB1 : ((s == [104]) && (decide (1 ≤ k) && decide (k ≤ highOf p room - 1))) = false := by rw [hb1, e3]; exact h1
    refine W.seq_region fun K hK => ?_
    cases hb2 : (s == ([118] : Txt))
    ·skip
     have hB2 : ((s == [118]) && (decide (1 ≤ k) && decide (k ≤ wideOf p room - 1))) = false := by rw [hb2]; rfl
     simp (disch := omega) only [↓RU, RV, RH, ↓reduceIte, reduceEqDiff, reduceCtorEq, if_pos, w64, List.append_nil, ↓RS, RG, reduceAdd, reduceMul, reduceLeDiff, tyint, tystring, hb2, pStr]
     refine hK _ _ ?_;clear hK K
     refine W.cond rfl (fun h2 => ?_) (fun h2 => ?_)
     ·try simp only [RL] at h2
      exact absurd h2 (by simp)
     ·try simp only [RL] at h2
      refine W.skip ?_
      refine XBlock.norm ?_
      refine XThen.norm ?_
      refine W.seq_region fun K hK => ?_
      simp (disch := omega) only [↓RU, RV, RH, ↓reduceIte, reduceEqDiff, reduceCtorEq, if_pos, List.append_nil, ↓RS, RG, reduceAdd, reduceMul, reduceLeDiff]
      refine CallR.pc (l1None_pc) rfl (.inl rfl) ?_
      simp (disch := omega) only [↓RU, RV, RH, ↓reduceIte, reduceEqDiff, reduceCtorEq, if_pos, List.append_nil, ↓RS, RG, reduceAdd, reduceMul, reduceLeDiff]
      refine hK _ _ ?_;clear hK K
      refine W.ret ?_
      refine BodyQ.ret rfl ?_
      first | (rw [splitP_g hgv]; rfl) | (rw [splitP_h hgv e1 e2 e3 e4 hB1]; rfl) | (rw [splitP_v hgv e1 e2 e3 e4 hB1 hB2]; rfl) | (rw [splitP_no hB1 hB2]; rfl)
    ·skip
     simp (disch := omega) only [↓RU, RV, RH, ↓reduceIte, reduceEqDiff, reduceCtorEq, if_pos, w64, List.append_nil, ↓RS, RG, reduceAdd, reduceMul, reduceLeDiff, tyint, tystring, hb2, pStr]
     refine CallR.pc (l6In_pc _ _ _) rfl (.inl rfl) ?_
     simp (disch := omega) only [↓RU, RV, RH, ↓reduceIte, reduceEqDiff, reduceCtorEq, if_pos, w64, List.append_nil, ↓RS, RG, reduceAdd, reduceMul, reduceLeDiff, tyint, tystring, hb2, pStr]
     refine hK _ _ ?_;clear hK K
     refine W.cond rfl (fun h2 => ?_) (fun h2 => ?_)
     ·try simp only [RL] at h2
      have hB2 : ((s == [118]) && (decide (1 ≤ k) && decide (k ≤ wideOf p room - 1))) = true := by rw [hb2, e4]; exact h2
      have hk := h2
      simp only [Bool.and_eq_true, decide_eq_true_eq] at hk
      obtain ⟨kn, rfl⟩ : ∃ kn : Nat, k = kn := ⟨k.toNat, by omega⟩
      refine W.seq_region fun K hK => ?_
      simp (disch := omega) only [↓RU, RV, RH, ↓reduceIte, reduceEqDiff, reduceCtorEq, if_pos, w64, List.append_nil, ↓RS, RG, reduceAdd, reduceMul, reduceLeDiff, tyint, show ((l : Int) + (kn : Int)) = ((l + kn : Nat) : Int) from by omega, show ((w : Int) - (kn : Int)) = ((w - kn : Nat) : Int) from by omega]
      refine CallR.pc (l1Put_pc hs (tp := t) (lf := l + kn) (hg := h) (wd := w - kn) (c := 122) (by omega) (fun row hr => by rw [hrw row hr]; omega)) rfl (.inl rfl) ?_
      simp (disch := omega) only [↓RU, RV, RH, ↓reduceIte, reduceEqDiff, reduceCtorEq, if_pos, w64, List.append_nil, ↓RS, RG, reduceAdd, reduceMul, reduceLeDiff, tyint, show ((l : Int) + (kn : Int)) = ((l + kn : Nat) : Int) from by omega, show ((w : Int) - (kn : Int)) = ((w - kn : Nat) : Int) from by omega]
      refine CallR.pc (l1Done_pc (putTo_sm hs)) rfl (.inr rfl) ?_
      simp (disch := omega) only [↓RU, RV, RH, ↓reduceIte, reduceEqDiff, reduceCtorEq, if_pos, w64, List.append_nil, ↓RS, RG, reduceAdd, reduceMul, reduceLeDiff, tyint, show ((l : Int) + (kn : Int)) = ((l + kn : Nat) : Int) from by omega, show ((w : Int) - (kn : Int)) = ((w - kn : Nat) : Int) from by omega]
      refine hK _ _ ?_;clear hK K
      refine W.ret ?_
      refine XBlock.ret ?_
      refine XThen.ret ?_
      refine BodyQ.ret rfl ?_
      first | (rw [splitP_g hgv]; rfl) | (rw [splitP_h hgv e1 e2 e3 e4 hB1]; rfl) | (rw [splitP_v hgv e1 e2 e3 e4 hB1 hB2]; rfl) | (rw [splitP_no hB1 hB2]; rfl)
     ·try simp only [RL] at h2
      have hB2 : ((s == [118]) && (decide (1 ≤ k) && decide (k ≤ wideOf p room - 1))) = false := by rw [hb2, e4]; exact h2
      refine W.skip ?_
      refine XBlock.norm ?_
      refine XThen.norm ?_
      refine W.seq_region fun K hK => ?_
      simp (disch := omega) only [↓RU, RV, RH, ↓reduceIte, reduceEqDiff, reduceCtorEq, if_pos, List.append_nil, ↓RS, RG, reduceAdd, reduceMul, reduceLeDiff]
      refine CallR.pc (l1None_pc) rfl (.inl rfl) ?_
      simp (disch := omega) only [↓RU, RV, RH, ↓reduceIte, reduceEqDiff, reduceCtorEq, if_pos, List.append_nil, ↓RS, RG, reduceAdd, reduceMul, reduceLeDiff]
      refine hK _ _ ?_;clear hK K
      refine W.ret ?_
      refine BodyQ.ret rfl ?_
      first | (rw [splitP_g hgv]; rfl) | (rw [splitP_h hgv e1 e2 e3 e4 hB1]; rfl) | (rw [splitP_v hgv e1 e2 e3 e4 hB1 hB2]; rfl) | (rw [splitP_no hB1 hB2]; rfl)
theorem pick_ev {code : Txt} {q vr t : Nat} {R : List Ob} (hc : code.length ≤ 1048576) (hq : q ≤ 1000000) (n : Int) (hn : n ≤ 1000000) (hn0 : -1000000 ≤ n) :
  Ev Try.prog 63 [.ref 0 vr 0, .int .i64 n] ⟨.arr vr 74 2 [eBy code, .int .i64 (q : Int)] :: R, t⟩ fun v S => ∃ k : Nat, v = .int .i64 (k : Int) ∧ (n < 1 → k = 0) ∧ (1 ≤ n → (k : Int) < n) ∧ S = ⟨.arr vr 74 2 [eBy code, .int .i64 ((q + 1 : Nat) : Int)] :: R, t⟩ :=
 pick_ev0 hc hq n hn hn0
theorem of_ev {code : Txt} {q vr t v1 : Nat} {R : List Ob} {l : List Txt} (hc : code.length ≤ 1048576) (hq : q ≤ 1000000) (hl : 1 ≤ l.length) (hl2 : l.length ≤ 1000) : Ev Try.prog 108 [.ref 0 vr 0, .loc 1 v1 0 l.length] ⟨.arr vr 74 2 [eBy code, .int .i64 (q : Int)] :: .arr v1 9 1 (l.map .str) :: R, t⟩ fun v S => ∃ s, s ∈ l ∧ v = .str s ∧ S = ⟨.arr vr 74 2 [eBy code, .int .i64 ((q + 1 : Nat) : Int)] :: .arr v1 9 1 (l.map .str) :: R, t⟩ := by
 refine Ev.of ⟨Try.func108, by kernel_rfl, rfl, by kernel_rfl⟩ tabOk mixed (by show 2 ≤ Try.f108.ntmps; decide) ?_
 refine W.seq_region fun K hK => ?_
 simp (disch := omega) only [↓RU, RV, RH, ↓reduceIte, reduceEqDiff, reduceCtorEq, if_pos, ↓RS, RG, reduceAdd, reduceMul, reduceLeDiff]
 refine hK _ _ ?_;clear hK K
 refine W.seq_region fun K hK => ?_
 simp (disch := omega) only [↓RU, RV, RH, ↓reduceIte, reduceEqDiff, reduceCtorEq, if_pos, List.append_nil, ↓RS, RG, reduceAdd, reduceMul, reduceLeDiff, ty5, tystring]
 refine CallR.ev (pick_ev hc hq (l.length : Int) (by omega) (by omega)) ?_
 rintro _ _ ⟨k, rfl, -, hk, rfl⟩
 have hk2 := hk (by omega)
 obtain ⟨s, hsk, hsm⟩ := get_of (show k < l.length by omega)
 simp (disch := omega) only [↓RU, RV, RH, ↓reduceIte, reduceEqDiff, reduceCtorEq, if_pos, List.append_nil, ↓RS, RG, reduceAdd, reduceMul, reduceLeDiff, ty5, tystring, hsk]
 refine hK _ _ ?_;clear hK K
 refine W.ret ?_
 refine BodyQ.ret rfl ?_
 exact ⟨_, s, hsm, rfl, take_all⟩
theorem l91Empty_pc {nh nw : Nat} (hn : nh ≤ 100) (hm : nw ≤ 100) : PC Try.prog 97 [.int .i64 nh, .int .i64 nw] (eStrs (List.replicate nh (List.replicate nw (97 : UInt8)))) true := by
 refine PC.of ⟨Try.func97, by kernel_rfl, rfl, by kernel_rfl⟩ tabOk mixed (by show 2 ≤ Try.f97.ntmps; decide) ?_
 refine W.seq_region fun K hK => ?_
 simp (disch := omega) only [↓RU, RV, RH, ↓reduceIte, reduceEqDiff, reduceCtorEq, if_pos, ↓RS, RG, reduceAdd, reduceMul, reduceLeDiff]
 refine hK _ _ ?_;clear hK K
 refine W.seq_region fun K hK => ?_
 simp (disch := omega) only [↓RU, RV, RH, ↓reduceIte, reduceEqDiff, reduceCtorEq, if_pos, ↓RS, RG, reduceAdd, reduceMul, reduceLeDiff, ty5, tystring]
 refine hK _ _ ?_;clear hK K
 refine W.seq ?_
 refine W.seq_region fun K hK => ?_
 simp (disch := omega) only [↓RU, RV, RH, ↓reduceIte, reduceEqDiff, reduceCtorEq, if_pos, ↓RS, RG, reduceAdd, reduceMul, reduceLeDiff]
 refine hK _ _ ?_;clear hK K
 refine W.block ?_
 refine W.loop [0, 1, 5, 6] (fun n vs S => ∃ i v0 tk : Nat, n = nh - i ∧ i ≤ nh ∧ vs = [.int .i64 nh, .int .i64 nw, .loc 0 v0 0 i, .int .i64 i] ∧ S = ⟨[.arr v0 9 1 ((List.replicate i (List.replicate nw (97 : UInt8))).map .str)], tk⟩) (nh) ?_ ?_
 ·refine ⟨1, 0, 0, 1, rfl, Nat.zero_le _, ?_, rfl⟩
  simp [Env.put, Env.of, argEnv]
 rintro n vs S - ⟨i, v0, tk, rfl, h_i, rfl, rfl⟩
 refine W.seq ?_
 refine W.seq_region fun K hK => ?_
 simp (disch := omega) only [↓RU, RV, RH, ↓reduceIte, reduceEqDiff, reduceCtorEq, if_pos, w64, ↓RS, RG, reduceAdd, reduceMul, reduceLeDiff, tyint]
 refine hK _ _ ?_;clear hK K
 refine W.cond rfl (fun h => ?_) (fun h => ?_)
 ·try simp only [RL] at h
  refine W.skip ?_
  refine XThen.norm ?_
  refine W.seq ?_
  refine W.block ?_
  refine W.seq_region fun K hK => ?_
  simp (disch := omega) only [↓RU, RV, RH, ↓reduceIte, reduceEqDiff, reduceCtorEq, if_pos, ↓RS, RG, reduceAdd, reduceMul, reduceLeDiff, ty6, ty26]
  refine hK _ _ ?_;clear hK K
  refine W.seq ?_
  refine W.seq_region fun K hK => ?_
  simp (disch := omega) only [↓RU, RV, RH, ↓reduceIte, reduceEqDiff, reduceCtorEq, if_pos, ↓RS, RG, reduceAdd, reduceMul, reduceLeDiff]
  refine hK _ _ ?_;clear hK K
  refine W.block ?_
  refine W.loop [0, 1, 5, 6, 7, 8] (fun n vs S => ∃ k v1 tk : Nat, n = nw - k ∧ k ≤ nw ∧ vs = [.int .i64 nh, .int .i64 nw, .loc 0 v0 0 i, .int .i64 i, .loc 1 v1 0 k, .int .i64 k] ∧ S = ⟨[.arr v0 9 1 ((List.replicate i (List.replicate nw (97 : UInt8))).map .str), .arr v1 5 1 ((List.replicate k (97 : UInt8)).map eB)], tk⟩) (nw) ?_ ?_
  ·refine ⟨2, 0, tk, tk + 1, rfl, Nat.zero_le _, ?_, rfl⟩
   simp [Env.put, Env.of]
  rintro n vs S - ⟨k, v1, tk, rfl, h_k, rfl, rfl⟩
  refine W.seq ?_
  refine W.seq_region fun K hK => ?_
  simp (disch := omega) only [↓RU, RV, RH, ↓reduceIte, reduceEqDiff, reduceCtorEq, if_pos, w64, ↓RS, RG, reduceAdd, reduceMul, reduceLeDiff, tyint]
  refine hK _ _ ?_;clear hK K
  refine W.cond rfl (fun h1 => ?_) (fun h1 => ?_)
  ·try simp only [RL] at h1
   refine W.skip ?_
   refine XThen.norm ?_
   refine W.seq ?_
   refine W.block ?_
   refine W.region_k fun K hK => ?_
   simp (disch := omega) only [↓RU, RV, RH, ↓reduceIte, reduceEqDiff, reduceCtorEq, if_pos, ↓RS, RG, reduceAdd, reduceMul, reduceLeDiff, ty6, ty26, List.length_replicate]
   refine hK _ _ ?_;clear hK K
   refine XBlock.norm ?_
   refine XThen.norm ?_
   refine W.region_k fun K hK => ?_
   simp (disch := omega) only [↓RU, RV, RH, ↓reduceIte, reduceEqDiff, reduceCtorEq, if_pos, w64, ↓RS, RG, reduceAdd, reduceMul, reduceLeDiff, tyint]
   refine hK _ _ ?_;clear hK K
   refine XThen.norm ?_
   refine ⟨nw - (k + 1), by omega, 2, k + 1, tk + 1, tk + 2, rfl, by omega, ?_, ?_⟩
   all_goals simp [Env.put, Env.of, take_eq, tk_le, List.replicate_succ', List.map_append]
  ·try simp only [RL] at h1
   obtain rfl : k = nw := by omega
   have hbo := bytesOf_eB (List.replicate k (97 : UInt8))
   have htk : ((List.replicate k (97 : UInt8)).map eB).take k = (List.replicate k (97 : UInt8)).map eB := List.take_of_length_le (by simp)
   refine W.exit ?_
   refine XThen.exit ?_
   refine XThen.exit ?_
   refine XBlock.hit ?_
   refine XThen.norm ?_
   refine W.region_k fun K hK => ?_
   simp (disch := omega) only [↓RU, RV, RH, ↓reduceIte, reduceEqDiff, reduceCtorEq, if_pos, w64, ↓RS, RG, reduceAdd, reduceMul, reduceLeDiff, ty5, ty6, tystring, ty26, List.length_replicate, htk, hbo]
   refine hK _ _ ?_;clear hK K
   refine XBlock.norm ?_
   refine XThen.norm ?_
   refine W.region_k fun K hK => ?_
   simp (disch := omega) only [↓RU, RV, RH, ↓reduceIte, reduceEqDiff, reduceCtorEq, if_pos, w64, ↓RS, RG, reduceAdd, reduceMul, reduceLeDiff, tyint]
   refine hK _ _ ?_;clear hK K
   refine XThen.norm ?_
   refine ⟨nh - (i + 1), by omega, 1, i + 1, tk + 1, tk + 2, rfl, by omega, ?_, ?_⟩
   all_goals simp [Env.put, Env.of, take_eq, tk_le, List.replicate_succ', List.map_append]
 ·try simp only [RL] at h
  obtain rfl : i = nh := by omega
  refine W.exit ?_
  refine XThen.exit ?_
  refine XThen.exit ?_
  refine XBlock.hit ?_
  refine XThen.norm ?_
  refine W.seq_region fun K hK => ?_
  simp (disch := omega) only [↓RU, RV, RH, ↓reduceIte, reduceEqDiff, reduceCtorEq, if_pos, ↓RS, RG, reduceAdd, reduceMul, reduceLeDiff]
  refine hK _ _ ?_;clear hK K
  refine W.ret ?_
  refine BodyQ.ret rfl ?_
  exact (reify_loc (k := 9) rfl (by simp) (mapM_str _)).trans (by simp)
theorem frz_ref0 {S : Store} {k ver off : Nat} : frz S 1 (k + 1) (.ref 0 ver off) = some (.ref 0 ver off) := by simp [frz]
theorem tk_strs (p : List Txt) : List.take p.length (p.map PV.str) = p.map .str := List.take_of_length_le (by simp)
theorem rfz_tstr {S : Store} {lo k : Nat} (l : List Txt) : (l.map PV.str).mapM (rfz S lo (k + 1)) = some (l.map PV.str) := rfz_map (fun _ => rfl) l
theorem plan_sm {p : List Txt} (h : planB p = true) : Sm p := by
 obtain ⟨h1, -, h3⟩ := plan_small h
 exact ⟨by omega, fun r hr => by have := (h3 r hr).2; omega⟩
theorem plan_rooms9 {p : List Txt} (h : planB p = true) : l1Rooms p ≤ 9 := by
 unfold planB at h; simp only [Bool.and_eq_true, decide_eq_true_eq] at h; omega
theorem hv_len {s : Txt} (h : s ∈ ([[104], [118]] : List Txt)) : s.length ≤ 1048576 := by
 simp only [List.mem_cons, List.not_mem_nil, or_false] at h
 rcases h with rfl | rfl <;> simp
theorem l91Cut_ev {code : Txt} {q vr t : Nat} {R : List Ob} (hc : code.length ≤ 1048576) (hq : q ≤ 900000) {p : List Txt} (hp : planB p = true) {many : Nat} (hm : many ≤ 1000) : Ev Try.prog 96 [.ref 0 vr 0, eStrs p, .int .i64 many] ⟨.arr vr 74 2 [eBy code, .int .i64 (q : Int)] :: R, t⟩ fun v S => ∃ (p2 : List Txt) (q2 t2 : Nat), v = eStrs p2 ∧ planB p2 = true ∧ p2.length = p.length ∧ q2 ≤ q + 3 * many ∧ S = ⟨[.arr vr 74 2 [eBy code, .int .i64 (q2 : Int)]], t2⟩ := by
 refine Ev.of ⟨Try.func96, by kernel_rfl, rfl, by kernel_rfl⟩ tabOk mixed (by show 3 ≤ Try.f96.ntmps; decide) ?_
 refine W.seq_region fun K hK => ?_
 simp (disch := omega) only [↓RU, RV, RH, ↓reduceIte, reduceEqDiff, reduceCtorEq, if_pos, ↓RS, RG, reduceAdd, reduceMul, reduceLeDiff]
 refine hK _ _ ?_;clear hK K
 refine W.seq ?_
 refine W.seq_region fun K hK => ?_
 simp (disch := omega) only [↓RU, RV, RH, ↓reduceIte, reduceEqDiff, reduceCtorEq, if_pos, ↓RS, RG, reduceAdd, reduceMul, reduceLeDiff]
 refine hK _ _ ?_;clear hK K
 refine W.block ?_
 refine W.loopZ [0, 1, 2, 7] (fun n vs S => ∃ (i : Nat) (p2 : List Txt) (q2 tk : Nat), n = many - i ∧ i ≤ many ∧ planB p2 = true ∧ p2.length = p.length ∧ q2 ≤ q + 3 * i ∧ vs = [.ref 0 vr 0, eStrs p2, .int .i64 many, .int .i64 i] ∧ S = ⟨[.arr vr 74 2 [eBy code, .int .i64 (q2 : Int)]], tk⟩) many ?_ ?_
 ·refine ⟨1, [.ref 0 vr 0, eStrs p, .int .i64 many, .int .i64 (0 : Nat)], ⟨[.arr vr 74 2 [eBy code, .int .i64 (q : Int)]], t⟩, ?_, ?_, 0, p, q, t, rfl, by omega, hp, rfl, by omega, rfl, rfl⟩
  ·simp [-List.mapM_map, Store.frz, frzObs, frzOb, frz_eInts, frz_loc, rfz_loc, frz_int, frz_sl, frz_ints, rfz_ints, frz_strs, frz_bytes, rfz_bytes, rfz_str, rfz_bool, frz_str, frz_bool, Env.put, Env.of, argEnv, rfz_int, List.mapM_append, List.mapM_cons, frz_ref0, tk_strs, rfz_tstr]
  ·simp [-List.mapM_map, Store.frz, frzObs, frzOb, frz_eInts, frz_loc, rfz_loc, frz_int, frz_sl, frz_ints, rfz_ints, frz_strs, frz_bytes, rfz_bytes, rfz_str, rfz_bool, frz_str, frz_bool, Env.put, Env.of, argEnv, rfz_int, List.mapM_append, List.mapM_cons, frz_ref0, tk_strs, rfz_tstr]
 rintro n vs S - ⟨i, p2, q2, tk, rfl, h_i, hp2, hl2, hq2, rfl, rfl⟩
 refine W.seq ?_
 refine W.seq_region fun K hK => ?_
 simp (disch := omega) only [↓RU, RV, RH, ↓reduceIte, reduceEqDiff, reduceCtorEq, if_pos, w64, ↓RS, RG, reduceAdd, reduceMul, reduceLeDiff, tyint]
 refine hK _ _ ?_;clear hK K
 refine W.cond rfl (fun h => ?_) (fun h => ?_)
 ·try simp only [RL] at h
  have hs2 := plan_sm hp2
  have hr9 := plan_rooms9 hp2
  have hrb := l1Rooms_bound p2
  refine W.skip ?_
  refine XThen.norm ?_
  refine W.seq ?_
  refine W.block ?_
  refine W.seq_region fun K hK => ?_
  simp (disch := omega) only [↓RU, RV, RH, ↓reduceIte, reduceEqDiff, reduceCtorEq, if_pos, List.append_nil, ↓RS, RG, reduceAdd, reduceMul, reduceLeDiff]
  refine CallR.pc (l1Rooms_pc hs2) rfl (.inl rfl) ?_
  simp (disch := omega) only [↓RU, RV, RH, ↓reduceIte, reduceEqDiff, reduceCtorEq, if_pos, List.append_nil, ↓RS, RG, reduceAdd, reduceMul, reduceLeDiff]
  refine CallR.ev (pick_ev hc (by omega) (l1Rooms p2) (by omega) (by omega)) ?_
  rintro _ _ ⟨k1, rfl, -, -, rfl⟩
  simp (disch := omega) only [↓RU, RV, RH, ↓reduceIte, reduceEqDiff, reduceCtorEq, if_pos, List.append_nil, ↓RS, RG, reduceAdd, reduceMul, reduceLeDiff]
  refine hK _ _ ?_;clear hK K
  refine W.seq_region fun K hK => ?_
  simp (disch := omega) only [↓RU, RV, RH, ↓reduceIte, reduceEqDiff, reduceCtorEq, if_pos, List.append_nil, w64, ↓RS, RG, reduceAdd, reduceMul, reduceLeDiff, ty5, tyint, tystring]
  refine CallR.ev (of_ev (R := []) (l := [[104], [118]]) hc (by omega) (by simp) (by simp)) ?_
  rintro _ _ ⟨s, hsm, rfl, rfl⟩
  have hsl := hv_len hsm
  simp (disch := omega) only [↓RU, RV, RH, ↓reduceIte, reduceEqDiff, reduceCtorEq, if_pos, List.append_nil, w64, ↓RS, RG, reduceAdd, reduceMul, reduceLeDiff, ty5, tyint, tystring]
  refine CallR.ev (pick_ev (q := q2 + 1 + 1) hc (by omega) 3 (by omega) (by omega)) ?_
  rintro _ _ ⟨k2, rfl, -, hk2, rfl⟩
  have hk3 := hk2 (by omega)
  simp (disch := omega) only [↓RU, RV, RH, ↓reduceIte, reduceEqDiff, reduceCtorEq, if_pos, List.append_nil, w64, ↓RS, RG, reduceAdd, reduceMul, reduceLeDiff, ty5, tyint, tystring]
  refine CallR.pc (planSplit_pc hs2 k1 hsl (1 + k2)) rfl (.inr rfl) ?_
  simp (disch := omega) only [↓RU, RV, RH, ↓reduceIte, reduceEqDiff, reduceCtorEq, if_pos, List.append_nil, w64, ↓RS, RG, reduceAdd, reduceMul, reduceLeDiff, ty5, tyint, tystring]
  refine hK _ _ ?_;clear hK K
  refine W.seq_region fun K hK => ?_
  simp (disch := omega) only [↓RU, RV, RH, ↓reduceIte, reduceEqDiff, reduceCtorEq, if_pos, ↓RS, RG, reduceAdd, reduceMul, reduceLeDiff]
  refine hK _ _ ?_;clear hK K
  refine W.cond rfl (fun h1 => ?_) (fun h1 => ?_)
  ·try simp only [RL] at h1
   obtain ⟨ho1, ho2⟩ := splitP_ok h1
   refine W.region_k fun K hK => ?_
   simp (disch := omega) only [↓RU, RV, RH, ↓reduceIte, reduceEqDiff, reduceCtorEq, if_pos, ↓RS, RG, reduceAdd, reduceMul, reduceLeDiff]
   refine hK _ _ ?_;clear hK K
   refine XBlock.norm ?_
   refine XThen.norm ?_
   refine W.region_k fun K hK => ?_
   simp (disch := omega) only [↓RU, RV, RH, ↓reduceIte, reduceEqDiff, reduceCtorEq, if_pos, w64, ↓RS, RG, reduceAdd, reduceMul, reduceLeDiff, tyint]
   refine hK _ _ ?_;clear hK K
   refine XThen.norm ?_
   refine ⟨many - (i + 1), by omega, 1, [.ref 0 vr 0, eStrs (splitP p2 k1 s (1 + k2)).1, .int .i64 many, .int .i64 ((i + 1 : Nat) : Int)], ⟨[.arr vr 74 2 [eBy code, .int .i64 ((q2 + 1 + 1 + 1 : Nat) : Int)]], tk + 1⟩, ?_, ?_, i + 1, (splitP p2 k1 s (1 + k2)).1, q2 + 1 + 1 + 1, tk + 1, rfl, by omega, ho1, ho2.trans hl2, by omega, rfl, rfl⟩
   ·simp [-List.mapM_map, Store.frz, frzObs, frzOb, frz_eInts, frz_loc, rfz_loc, frz_int, frz_sl, frz_ints, rfz_ints, frz_strs, frz_bytes, rfz_bytes, rfz_str, rfz_bool, frz_str, frz_bool, Env.put, Env.of, argEnv, rfz_int, List.mapM_append, List.mapM_cons, frz_ref0, tk_strs, rfz_tstr]
   ·simp [-List.mapM_map, Store.frz, frzObs, frzOb, frz_eInts, frz_loc, rfz_loc, frz_int, frz_sl, frz_ints, rfz_ints, frz_strs, frz_bytes, rfz_bytes, rfz_str, rfz_bool, frz_str, frz_bool, Env.put, Env.of, argEnv, rfz_int, List.mapM_append, List.mapM_cons, frz_ref0, tk_strs, rfz_tstr]
  ·try simp only [RL] at h1
   refine W.skip ?_
   refine XBlock.norm ?_
   refine XThen.norm ?_
   refine W.region_k fun K hK => ?_
   simp (disch := omega) only [↓RU, RV, RH, ↓reduceIte, reduceEqDiff, reduceCtorEq, if_pos, w64, ↓RS, RG, reduceAdd, reduceMul, reduceLeDiff, tyint]
   refine hK _ _ ?_;clear hK K
   refine XThen.norm ?_
   refine ⟨many - (i + 1), by omega, 1, [.ref 0 vr 0, eStrs p2, .int .i64 many, .int .i64 ((i + 1 : Nat) : Int)], ⟨[.arr vr 74 2 [eBy code, .int .i64 ((q2 + 1 + 1 + 1 : Nat) : Int)]], tk + 1⟩, ?_, ?_, i + 1, p2, q2 + 1 + 1 + 1, tk + 1, rfl, by omega, hp2, hl2, by omega, rfl, rfl⟩
   ·simp [-List.mapM_map, Store.frz, frzObs, frzOb, frz_eInts, frz_loc, rfz_loc, frz_int, frz_sl, frz_ints, rfz_ints, frz_strs, frz_bytes, rfz_bytes, rfz_str, rfz_bool, frz_str, frz_bool, Env.put, Env.of, argEnv, rfz_int, List.mapM_append, List.mapM_cons, frz_ref0, tk_strs, rfz_tstr]
   ·simp [-List.mapM_map, Store.frz, frzObs, frzOb, frz_eInts, frz_loc, rfz_loc, frz_int, frz_sl, frz_ints, rfz_ints, frz_strs, frz_bytes, rfz_bytes, rfz_str, rfz_bool, frz_str, frz_bool, Env.put, Env.of, argEnv, rfz_int, List.mapM_append, List.mapM_cons, frz_ref0, tk_strs, rfz_tstr]
 ·try simp only [RL] at h
  obtain rfl : i = many := by omega
  refine W.exit ?_
  refine XThen.exit ?_
  refine XThen.exit ?_
  refine XBlock.hit ?_
  refine XThen.norm ?_
  refine W.seq_region fun K hK => ?_
  simp (disch := omega) only [↓RU, RV, RH, ↓reduceIte, reduceEqDiff, reduceCtorEq, if_pos, ↓RS, RG, reduceAdd, reduceMul, reduceLeDiff]
  refine hK _ _ ?_;clear hK K
  refine W.ret ?_
  refine BodyQ.ret rfl ?_
  exact ⟨_, p2, q2, tk, rfl, hp2, hl2, by omega, take_all⟩
theorem l91Cut_loc {code : Txt} {q vr t v1 : Nat} {R : List Ob} (hc : code.length ≤ 1048576) (hq : q ≤ 900000) {p : List Txt} (hp : planB p = true) {many : Nat} (hm : many ≤ 1000) : Ev Try.prog 96 [.ref 0 vr 0, .loc 1 v1 0 p.length, .int .i64 many] ⟨.arr vr 74 2 [eBy code, .int .i64 (q : Int)] :: .arr v1 9 1 (p.map .str) :: R, t⟩ fun v S => ∃ (p2 : List Txt) (q2 t2 : Nat), v = eStrs p2 ∧ planB p2 = true ∧ p2.length = p.length ∧ q2 ≤ q + 3 * many ∧ S = ⟨[.arr vr 74 2 [eBy code, .int .i64 (q2 : Int)]], t2⟩ := by
 refine Ev.of ⟨Try.func96, by kernel_rfl, rfl, by kernel_rfl⟩ tabOk mixed (by show 3 ≤ Try.f96.ntmps; decide) ?_
 refine W.seq_region fun K hK => ?_
 simp (disch := omega) only [↓RU, RV, RH, ↓reduceIte, reduceEqDiff, reduceCtorEq, if_pos, ↓RS, RG, reduceAdd, reduceMul, reduceLeDiff]
 refine hK _ _ ?_;clear hK K
 refine W.seq ?_
 refine W.seq_region fun K hK => ?_
 simp (disch := omega) only [↓RU, RV, RH, ↓reduceIte, reduceEqDiff, reduceCtorEq, if_pos, ↓RS, RG, reduceAdd, reduceMul, reduceLeDiff]
 refine hK _ _ ?_;clear hK K
 refine W.block ?_
 refine W.loopZ [0, 1, 2, 7] (fun n vs S => ∃ (i : Nat) (p2 : List Txt) (q2 tk : Nat), n = many - i ∧ i ≤ many ∧ planB p2 = true ∧ p2.length = p.length ∧ q2 ≤ q + 3 * i ∧ vs = [.ref 0 vr 0, eStrs p2, .int .i64 many, .int .i64 i] ∧ S = ⟨[.arr vr 74 2 [eBy code, .int .i64 (q2 : Int)]], tk⟩) many ?_ ?_
 ·refine ⟨1, [.ref 0 vr 0, eStrs p, .int .i64 many, .int .i64 (0 : Nat)], ⟨[.arr vr 74 2 [eBy code, .int .i64 (q : Int)]], t⟩, ?_, ?_, 0, p, q, t, rfl, by omega, hp, rfl, by omega, rfl, rfl⟩
  ·simp [-List.mapM_map, Store.frz, frzObs, frzOb, frz_eInts, frz_loc, rfz_loc, frz_int, frz_sl, frz_ints, rfz_ints, frz_strs, frz_bytes, rfz_bytes, rfz_str, rfz_bool, frz_str, frz_bool, Env.put, Env.of, argEnv, rfz_int, List.mapM_append, List.mapM_cons, frz_ref0, tk_strs, rfz_tstr]
  ·simp [-List.mapM_map, Store.frz, frzObs, frzOb, frz_eInts, frz_loc, rfz_loc, frz_int, frz_sl, frz_ints, rfz_ints, frz_strs, frz_bytes, rfz_bytes, rfz_str, rfz_bool, frz_str, frz_bool, Env.put, Env.of, argEnv, rfz_int, List.mapM_append, List.mapM_cons, frz_ref0, tk_strs, rfz_tstr]
 rintro n vs S - ⟨i, p2, q2, tk, rfl, h_i, hp2, hl2, hq2, rfl, rfl⟩
 refine W.seq ?_
 refine W.seq_region fun K hK => ?_
 simp (disch := omega) only [↓RU, RV, RH, ↓reduceIte, reduceEqDiff, reduceCtorEq, if_pos, w64, ↓RS, RG, reduceAdd, reduceMul, reduceLeDiff, tyint]
 refine hK _ _ ?_;clear hK K
 refine W.cond rfl (fun h => ?_) (fun h => ?_)
 ·try simp only [RL] at h
  have hs2 := plan_sm hp2
  have hr9 := plan_rooms9 hp2
  have hrb := l1Rooms_bound p2
  refine W.skip ?_
  refine XThen.norm ?_
  refine W.seq ?_
  refine W.block ?_
  refine W.seq_region fun K hK => ?_
  simp (disch := omega) only [↓RU, RV, RH, ↓reduceIte, reduceEqDiff, reduceCtorEq, if_pos, List.append_nil, ↓RS, RG, reduceAdd, reduceMul, reduceLeDiff]
  refine CallR.pc (l1Rooms_pc hs2) rfl (.inl rfl) ?_
  simp (disch := omega) only [↓RU, RV, RH, ↓reduceIte, reduceEqDiff, reduceCtorEq, if_pos, List.append_nil, ↓RS, RG, reduceAdd, reduceMul, reduceLeDiff]
  refine CallR.ev (pick_ev hc (by omega) (l1Rooms p2) (by omega) (by omega)) ?_
  rintro _ _ ⟨k1, rfl, -, -, rfl⟩
  simp (disch := omega) only [↓RU, RV, RH, ↓reduceIte, reduceEqDiff, reduceCtorEq, if_pos, List.append_nil, ↓RS, RG, reduceAdd, reduceMul, reduceLeDiff]
  refine hK _ _ ?_;clear hK K
  refine W.seq_region fun K hK => ?_
  simp (disch := omega) only [↓RU, RV, RH, ↓reduceIte, reduceEqDiff, reduceCtorEq, if_pos, List.append_nil, w64, ↓RS, RG, reduceAdd, reduceMul, reduceLeDiff, ty5, tyint, tystring]
  refine CallR.ev (of_ev (R := []) (l := [[104], [118]]) hc (by omega) (by simp) (by simp)) ?_
  rintro _ _ ⟨s, hsm, rfl, rfl⟩
  have hsl := hv_len hsm
  simp (disch := omega) only [↓RU, RV, RH, ↓reduceIte, reduceEqDiff, reduceCtorEq, if_pos, List.append_nil, w64, ↓RS, RG, reduceAdd, reduceMul, reduceLeDiff, ty5, tyint, tystring]
  refine CallR.ev (pick_ev (q := q2 + 1 + 1) hc (by omega) 3 (by omega) (by omega)) ?_
  rintro _ _ ⟨k2, rfl, -, hk2, rfl⟩
  have hk3 := hk2 (by omega)
  simp (disch := omega) only [↓RU, RV, RH, ↓reduceIte, reduceEqDiff, reduceCtorEq, if_pos, List.append_nil, w64, ↓RS, RG, reduceAdd, reduceMul, reduceLeDiff, ty5, tyint, tystring]
  refine CallR.pc (planSplit_pc hs2 k1 hsl (1 + k2)) rfl (.inr rfl) ?_
  simp (disch := omega) only [↓RU, RV, RH, ↓reduceIte, reduceEqDiff, reduceCtorEq, if_pos, List.append_nil, w64, ↓RS, RG, reduceAdd, reduceMul, reduceLeDiff, ty5, tyint, tystring]
  refine hK _ _ ?_;clear hK K
  refine W.seq_region fun K hK => ?_
  simp (disch := omega) only [↓RU, RV, RH, ↓reduceIte, reduceEqDiff, reduceCtorEq, if_pos, ↓RS, RG, reduceAdd, reduceMul, reduceLeDiff]
  refine hK _ _ ?_;clear hK K
  refine W.cond rfl (fun h1 => ?_) (fun h1 => ?_)
  ·try simp only [RL] at h1
   obtain ⟨ho1, ho2⟩ := splitP_ok h1
   refine W.region_k fun K hK => ?_
   simp (disch := omega) only [↓RU, RV, RH, ↓reduceIte, reduceEqDiff, reduceCtorEq, if_pos, ↓RS, RG, reduceAdd, reduceMul, reduceLeDiff]
   refine hK _ _ ?_;clear hK K
   refine XBlock.norm ?_
   refine XThen.norm ?_
   refine W.region_k fun K hK => ?_
   simp (disch := omega) only [↓RU, RV, RH, ↓reduceIte, reduceEqDiff, reduceCtorEq, if_pos, w64, ↓RS, RG, reduceAdd, reduceMul, reduceLeDiff, tyint]
   refine hK _ _ ?_;clear hK K
   refine XThen.norm ?_
   refine ⟨many - (i + 1), by omega, 1, [.ref 0 vr 0, eStrs (splitP p2 k1 s (1 + k2)).1, .int .i64 many, .int .i64 ((i + 1 : Nat) : Int)], ⟨[.arr vr 74 2 [eBy code, .int .i64 ((q2 + 1 + 1 + 1 : Nat) : Int)]], tk + 1⟩, ?_, ?_, i + 1, (splitP p2 k1 s (1 + k2)).1, q2 + 1 + 1 + 1, tk + 1, rfl, by omega, ho1, ho2.trans hl2, by omega, rfl, rfl⟩
   ·simp [-List.mapM_map, Store.frz, frzObs, frzOb, frz_eInts, frz_loc, rfz_loc, frz_int, frz_sl, frz_ints, rfz_ints, frz_strs, frz_bytes, rfz_bytes, rfz_str, rfz_bool, frz_str, frz_bool, Env.put, Env.of, argEnv, rfz_int, List.mapM_append, List.mapM_cons, frz_ref0, tk_strs, rfz_tstr]
   ·simp [-List.mapM_map, Store.frz, frzObs, frzOb, frz_eInts, frz_loc, rfz_loc, frz_int, frz_sl, frz_ints, rfz_ints, frz_strs, frz_bytes, rfz_bytes, rfz_str, rfz_bool, frz_str, frz_bool, Env.put, Env.of, argEnv, rfz_int, List.mapM_append, List.mapM_cons, frz_ref0, tk_strs, rfz_tstr]
  ·try simp only [RL] at h1
   refine W.skip ?_
   refine XBlock.norm ?_
   refine XThen.norm ?_
   refine W.region_k fun K hK => ?_
   simp (disch := omega) only [↓RU, RV, RH, ↓reduceIte, reduceEqDiff, reduceCtorEq, if_pos, w64, ↓RS, RG, reduceAdd, reduceMul, reduceLeDiff, tyint]
   refine hK _ _ ?_;clear hK K
   refine XThen.norm ?_
   refine ⟨many - (i + 1), by omega, 1, [.ref 0 vr 0, eStrs p2, .int .i64 many, .int .i64 ((i + 1 : Nat) : Int)], ⟨[.arr vr 74 2 [eBy code, .int .i64 ((q2 + 1 + 1 + 1 : Nat) : Int)]], tk + 1⟩, ?_, ?_, i + 1, p2, q2 + 1 + 1 + 1, tk + 1, rfl, by omega, hp2, hl2, by omega, rfl, rfl⟩
   ·simp [-List.mapM_map, Store.frz, frzObs, frzOb, frz_eInts, frz_loc, rfz_loc, frz_int, frz_sl, frz_ints, rfz_ints, frz_strs, frz_bytes, rfz_bytes, rfz_str, rfz_bool, frz_str, frz_bool, Env.put, Env.of, argEnv, rfz_int, List.mapM_append, List.mapM_cons, frz_ref0, tk_strs, rfz_tstr]
   ·simp [-List.mapM_map, Store.frz, frzObs, frzOb, frz_eInts, frz_loc, rfz_loc, frz_int, frz_sl, frz_ints, rfz_ints, frz_strs, frz_bytes, rfz_bytes, rfz_str, rfz_bool, frz_str, frz_bool, Env.put, Env.of, argEnv, rfz_int, List.mapM_append, List.mapM_cons, frz_ref0, tk_strs, rfz_tstr]
 ·try simp only [RL] at h
  obtain rfl : i = many := by omega
  refine W.exit ?_
  refine XThen.exit ?_
  refine XThen.exit ?_
  refine XBlock.hit ?_
  refine XThen.norm ?_
  refine W.seq_region fun K hK => ?_
  simp (disch := omega) only [↓RU, RV, RH, ↓reduceIte, reduceEqDiff, reduceCtorEq, if_pos, ↓RS, RG, reduceAdd, reduceMul, reduceLeDiff]
  refine hK _ _ ?_;clear hK K
  refine W.ret ?_
  refine BodyQ.ret rfl ?_
  exact ⟨_, p2, q2, tk, rfl, hp2, hl2, by omega, take_all⟩
theorem empty_plan {nh nw : Nat} (h1 : 1 ≤ nh) (h2 : nh ≤ 6) (w1 : 1 ≤ nw) (w2 : nw ≤ 6) : planB (List.replicate nh (List.replicate nw (97 : UInt8))) = true := by
 rcases (show nh = 1 ∨ nh = 2 ∨ nh = 3 ∨ nh = 4 ∨ nh = 5 ∨ nh = 6 by omega) with rfl | rfl | rfl | rfl | rfl | rfl <;>
 rcases (show nw = 1 ∨ nw = 2 ∨ nw = 3 ∨ nw = 4 ∨ nw = 5 ∨ nw = 6 by omega) with rfl | rfl | rfl | rfl | rfl | rfl <;> decide +kernel
def wheel3 : List Txt := [[97, 97, 98], [99, 100, 98], [99, 101, 101]]
def wheel4 : List Txt := [[97, 97, 97, 98], [99, 100, 100, 98], [99, 100, 100, 98], [99, 101, 101, 101]]
theorem wheel3_plan : planB wheel3 = true := by decide +kernel
theorem wheel4_plan : planB wheel4 = true := by decide +kernel
theorem l91Plan_ev {code : Txt} {q vr t : Nat} (hc : code.length ≤ 1048576) (hq : q ≤ 800000) {nh nw : Nat} (h1 : 1 ≤ nh) (h2 : nh ≤ 6) (w1 : 1 ≤ nw) (w2 : nw ≤ 6) : Ev Try.prog 64 [.ref 0 vr 0, .int .i64 nh, .int .i64 nw] ⟨[.arr vr 74 2 [eBy code, .int .i64 (q : Int)]], t⟩ fun v S => ∃ (p2 : List Txt) (q2 t2 : Nat), v = eStrs p2 ∧ planB p2 = true ∧ p2.length = nh ∧ q2 ≤ q + 100 ∧ S = ⟨[.arr vr 74 2 [eBy code, .int .i64 (q2 : Int)]], t2⟩ := by
 refine Ev.of ⟨Try.func64, by kernel_rfl, rfl, by kernel_rfl⟩ tabOk mixed (by show 3 ≤ Try.f64.ntmps; decide) ?_
 refine W.seq_region fun K hK => ?_
 simp (disch := omega) only [↓RU, RV, RH, ↓reduceIte, reduceEqDiff, reduceCtorEq, if_pos, ↓RS, RG, reduceAdd, reduceMul, reduceLeDiff]
 refine hK _ _ ?_;clear hK K
 refine W.seq ?_
 refine W.join [0, 1, 2, 17] (fun vs S => ∃ (q2 : Nat) (b : Bool), q2 ≤ q + 1 ∧ (b = true → nh = 3) ∧ vs = [.ref 0 vr 0, .int .i64 nh, .int .i64 nw, .bool b] ∧ S = ⟨[.arr vr 74 2 [eBy code, .int .i64 (q2 : Int)]], t⟩) ?_ ?_
 ·
  refine W.region_k fun K hK => ?_
  rcases hd : (((nh : Int) == 3), ((nw : Int) == 3)) with ⟨_ | _, _ | _⟩
  ·skip
   simp only [Prod.mk.injEq] at hd
   obtain ⟨hd1, hd2⟩ := hd
   simp (disch := omega) only [↓RU, RV, RH, ↓reduceIte, reduceEqDiff, reduceCtorEq, if_pos, w64, List.append_nil, ↓RS, RG, reduceAdd, reduceMul, reduceLeDiff, tyint, hd1, hd2]
   refine hK _ _ ?_;clear hK K
   refine XThen.norm ?_
   refine ⟨_, q, false, by omega, fun h9 => (by cases h9), ?_, take_all⟩
   simp [Env.put, Env.of, argEnv]
  ·skip
   simp only [Prod.mk.injEq] at hd
   obtain ⟨hd1, hd2⟩ := hd
   simp (disch := omega) only [↓RU, RV, RH, ↓reduceIte, reduceEqDiff, reduceCtorEq, if_pos, w64, List.append_nil, ↓RS, RG, reduceAdd, reduceMul, reduceLeDiff, tyint, hd1, hd2]
   refine hK _ _ ?_;clear hK K
   refine XThen.norm ?_
   refine ⟨_, q, false, by omega, fun h9 => (by cases h9), ?_, take_all⟩
   simp [Env.put, Env.of, argEnv]
  ·skip
   simp only [Prod.mk.injEq] at hd
   obtain ⟨hd1, hd2⟩ := hd
   simp (disch := omega) only [↓RU, RV, RH, ↓reduceIte, reduceEqDiff, reduceCtorEq, if_pos, w64, List.append_nil, ↓RS, RG, reduceAdd, reduceMul, reduceLeDiff, tyint, hd1, hd2]
   refine hK _ _ ?_;clear hK K
   refine XThen.norm ?_
   refine ⟨_, q, false, by omega, fun h9 => (by cases h9), ?_, take_all⟩
   simp [Env.put, Env.of, argEnv]
  ·skip
   simp only [Prod.mk.injEq] at hd
   obtain ⟨hd1, hd2⟩ := hd
   simp (disch := omega) only [↓RU, RV, RH, ↓reduceIte, reduceEqDiff, reduceCtorEq, if_pos, w64, List.append_nil, ↓RS, RG, reduceAdd, reduceMul, reduceLeDiff, tyint, hd1, hd2]
   refine CallR.ev (pick_ev (q := q) hc (by omega) 2 (by omega) (by omega)) ?_
   rintro _ _ ⟨k1, rfl, -, hk1, rfl⟩
   have hk1b := hk1 (by omega)
   simp (disch := omega) only [↓RU, RV, RH, ↓reduceIte, reduceEqDiff, reduceCtorEq, if_pos, w64, List.append_nil, ↓RS, RG, reduceAdd, reduceMul, reduceLeDiff, tyint, hd1, hd2]
   refine hK _ _ ?_;clear hK K
   refine XThen.norm ?_
   refine ⟨_, q + 1, ((k1 : Int) == 0), by omega, fun _ => (by have := beq_iff_eq.1 hd1; omega), ?_, take_all⟩
   simp [Env.put, Env.of, argEnv]
 rintro vs S - ⟨qa, b3, hqa, hb3, rfl, rfl⟩
 refine W.cond rfl (fun h3 => ?_) (fun h3 => ?_)
 ·try simp only [RL] at h3
  refine W.seq_region fun K hK => ?_
  simp (disch := omega) only [↓RU, RV, RH, ↓reduceIte, reduceEqDiff, reduceCtorEq, if_pos, List.append_nil, ↓RS, RG, reduceAdd, reduceMul, reduceLeDiff, ty5, tystring]
  refine CallR.ev (pick_ev (q := qa) hc (by omega) 2 (by omega) (by omega)) ?_
  rintro _ _ ⟨k1, rfl, -, hk1, rfl⟩
  have hk1b := hk1 (by omega)
  simp (disch := omega) only [↓RU, RV, RH, ↓reduceIte, reduceEqDiff, reduceCtorEq, if_pos, List.append_nil, ↓RS, RG, reduceAdd, reduceMul, reduceLeDiff, ty5, tystring]
  refine CallR.ev (l91Cut_loc (q := qa + 1) (R := []) hc (by omega) wheel3_plan (many := k1) (by omega)) ?_
  rintro _ _ ⟨p2, q2, t2, rfl, hp2, hl2, hq2, rfl⟩
  simp (disch := omega) only [↓RU, RV, RH, ↓reduceIte, reduceEqDiff, reduceCtorEq, if_pos, List.append_nil, ↓RS, RG, reduceAdd, reduceMul, reduceLeDiff, ty5, tystring]
  refine hK _ _ ?_;clear hK K
  refine W.ret ?_
  refine XThen.ret ?_
  refine BodyQ.ret rfl ?_
  exact ⟨_, p2, q2, t2, rfl, hp2, hl2.trans (hb3 h3).symm, by omega, take_all⟩
 ·try simp only [RL] at h3
  refine W.skip ?_
  refine XThen.norm ?_
  refine W.seq ?_
  refine W.join [0, 1, 2, 33] (fun vs S => ∃ (q2 : Nat) (b : Bool), q2 ≤ q + 2 ∧ (b = true → nh = 4) ∧ vs = [.ref 0 vr 0, .int .i64 nh, .int .i64 nw, .bool b] ∧ S = ⟨[.arr vr 74 2 [eBy code, .int .i64 (q2 : Int)]], t⟩) ?_ ?_
  ·
   refine W.region_k fun K hK => ?_
   rcases hd : (((nh : Int) == 4), ((nw : Int) == 4)) with ⟨_ | _, _ | _⟩
   ·skip
    simp only [Prod.mk.injEq] at hd
    obtain ⟨hd1, hd2⟩ := hd
    simp (disch := omega) only [↓RU, RV, RH, ↓reduceIte, reduceEqDiff, reduceCtorEq, if_pos, w64, List.append_nil, ↓RS, RG, reduceAdd, reduceMul, reduceLeDiff, tyint, hd1, hd2]
    refine hK _ _ ?_;clear hK K
    refine XThen.norm ?_
    refine ⟨_, qa, false, by omega, fun h9 => (by cases h9), ?_, take_all⟩
    simp [Env.put, Env.of, argEnv]
   ·skip
    simp only [Prod.mk.injEq] at hd
    obtain ⟨hd1, hd2⟩ := hd
    simp (disch := omega) only [↓RU, RV, RH, ↓reduceIte, reduceEqDiff, reduceCtorEq, if_pos, w64, List.append_nil, ↓RS, RG, reduceAdd, reduceMul, reduceLeDiff, tyint, hd1, hd2]
    refine hK _ _ ?_;clear hK K
    refine XThen.norm ?_
    refine ⟨_, qa, false, by omega, fun h9 => (by cases h9), ?_, take_all⟩
    simp [Env.put, Env.of, argEnv]
   ·skip
    simp only [Prod.mk.injEq] at hd
    obtain ⟨hd1, hd2⟩ := hd
    simp (disch := omega) only [↓RU, RV, RH, ↓reduceIte, reduceEqDiff, reduceCtorEq, if_pos, w64, List.append_nil, ↓RS, RG, reduceAdd, reduceMul, reduceLeDiff, tyint, hd1, hd2]
    refine hK _ _ ?_;clear hK K
    refine XThen.norm ?_
    refine ⟨_, qa, false, by omega, fun h9 => (by cases h9), ?_, take_all⟩
    simp [Env.put, Env.of, argEnv]
   ·skip
    simp only [Prod.mk.injEq] at hd
    obtain ⟨hd1, hd2⟩ := hd
    simp (disch := omega) only [↓RU, RV, RH, ↓reduceIte, reduceEqDiff, reduceCtorEq, if_pos, w64, List.append_nil, ↓RS, RG, reduceAdd, reduceMul, reduceLeDiff, tyint, hd1, hd2]
    refine CallR.ev (pick_ev (q := qa) hc (by omega) 2 (by omega) (by omega)) ?_
    rintro _ _ ⟨k1, rfl, -, hk1, rfl⟩
    have hk1b := hk1 (by omega)
    simp (disch := omega) only [↓RU, RV, RH, ↓reduceIte, reduceEqDiff, reduceCtorEq, if_pos, w64, List.append_nil, ↓RS, RG, reduceAdd, reduceMul, reduceLeDiff, tyint, hd1, hd2]
    refine hK _ _ ?_;clear hK K
    refine XThen.norm ?_
    refine ⟨_, qa + 1, ((k1 : Int) == 0), by omega, fun _ => (by have := beq_iff_eq.1 hd1; omega), ?_, take_all⟩
    simp [Env.put, Env.of, argEnv]
  rintro vs S - ⟨qb, b4, hqb, hb4, rfl, rfl⟩
  refine W.cond rfl (fun h4 => ?_) (fun h4 => ?_)
  ·try simp only [RL] at h4
   refine W.seq_region fun K hK => ?_
   simp (disch := omega) only [↓RU, RV, RH, ↓reduceIte, reduceEqDiff, reduceCtorEq, if_pos, List.append_nil, ↓RS, RG, reduceAdd, reduceMul, reduceLeDiff, ty5, tystring]
   refine CallR.ev (pick_ev (q := qb) hc (by omega) 4 (by omega) (by omega)) ?_
   rintro _ _ ⟨k2, rfl, -, hk2, rfl⟩
   have hk2b := hk2 (by omega)
   simp (disch := omega) only [↓RU, RV, RH, ↓reduceIte, reduceEqDiff, reduceCtorEq, if_pos, List.append_nil, ↓RS, RG, reduceAdd, reduceMul, reduceLeDiff, ty5, tystring]
   refine CallR.ev (l91Cut_loc (q := qb + 1) (R := []) hc (by omega) wheel4_plan (many := k2) (by omega)) ?_
   rintro _ _ ⟨p2, q2, t2, rfl, hp2, hl2, hq2, rfl⟩
   simp (disch := omega) only [↓RU, RV, RH, ↓reduceIte, reduceEqDiff, reduceCtorEq, if_pos, List.append_nil, ↓RS, RG, reduceAdd, reduceMul, reduceLeDiff, ty5, tystring]
   refine hK _ _ ?_;clear hK K
   refine W.ret ?_
   refine XThen.ret ?_
   refine BodyQ.ret rfl ?_
   exact ⟨_, p2, q2, t2, rfl, hp2, hl2.trans (hb4 h4).symm, by omega, take_all⟩
  ·try simp only [RL] at h4
   refine W.skip ?_
   refine XThen.norm ?_
   refine W.seq_region fun K hK => ?_
   simp (disch := omega) only [↓RU, RV, RH, ↓reduceIte, reduceEqDiff, reduceCtorEq, if_pos, List.append_nil, ↓RS, RG, reduceAdd, reduceMul, reduceLeDiff]
   refine CallR.pc (l91Empty_pc (nh := nh) (nw := nw) (by omega) (by omega)) rfl (.inl rfl) ?_
   simp (disch := omega) only [↓RU, RV, RH, ↓reduceIte, reduceEqDiff, reduceCtorEq, if_pos, List.append_nil, ↓RS, RG, reduceAdd, reduceMul, reduceLeDiff]
   refine CallR.ev (pick_ev (q := qb) hc (by omega) 9 (by omega) (by omega)) ?_
   rintro _ _ ⟨k3, rfl, -, hk3, rfl⟩
   have hk3b := hk3 (by omega)
   simp (disch := omega) only [↓RU, RV, RH, ↓reduceIte, reduceEqDiff, reduceCtorEq, if_pos, List.append_nil, ↓RS, RG, reduceAdd, reduceMul, reduceLeDiff]
   refine CallR.ev (l91Cut_ev (q := qb + 1) (R := []) hc (by omega) (empty_plan h1 h2 w1 w2) (many := k3) (by omega)) ?_
   rintro _ _ ⟨p2, q2, t2, rfl, hp2, hl2, hq2, rfl⟩
   simp (disch := omega) only [↓RU, RV, RH, ↓reduceIte, reduceEqDiff, reduceCtorEq, if_pos, List.append_nil, ↓RS, RG, reduceAdd, reduceMul, reduceLeDiff]
   refine hK _ _ ?_;clear hK K
   refine W.ret ?_
   refine BodyQ.ret rfl ?_
   exact ⟨_, p2, q2, t2, rfl, hp2, by simpa using hl2, by omega, take_all⟩
theorem sm_set {p : List Txt} (h : Sm p) {i : Nat} {r : Txt} (hr : r.length ≤ 1048576) : Sm (p.set i r) := by
 refine ⟨by rw [List.length_set]; exact h.1, fun x hx => ?_⟩
 rcases List.mem_or_eq_of_mem_set hx with k | rfl
 ·exact h.2 x k
 ·exact hr
theorem set_hd {p : List Txt} {x : Txt} (h : 0 < p.length) : PV.str x :: List.drop 1 (p.map PV.str) = (p.set 0 x).map .str := by cases p with | nil => simp at h | cons a p => simp
theorem one_add {k : Nat} : (1 : Int) + (k : Int) = ((1 + k : Nat) : Int) := by omega
theorem l91Some_ev {code : Txt} {q vr t : Nat} (hc : code.length ≤ 1048576) (hq : q ≤ 700000) {rows cols : Nat} (h1 : 1 ≤ rows) (h2 : rows ≤ 6) (w1 : 1 ≤ cols) (w2 : cols ≤ 6) : Ev Try.prog 44 [.ref 0 vr 0, .int .i64 rows, .int .i64 cols] ⟨[.arr vr 74 2 [eBy code, .int .i64 (q : Int)]], t⟩ fun v S => ∃ (p2 : List Txt) (q2 t2 : Nat), v = eStrs p2 ∧ Sm p2 ∧ p2.length ≤ 6 ∧ q2 ≤ q + 200 ∧ S = ⟨[.arr vr 74 2 [eBy code, .int .i64 (q2 : Int)]], t2⟩ := by
 refine Ev.of ⟨Try.func44, by kernel_rfl, rfl, by kernel_rfl⟩ tabOk mixed (by show 3 ≤ Try.f44.ntmps; decide) ?_
 refine W.seq_region fun K hK => ?_
 simp (disch := omega) only [↓RU, RV, RH, ↓reduceIte, reduceEqDiff, reduceCtorEq, if_pos, ↓RS, RG, reduceAdd, reduceMul, reduceLeDiff]
 refine hK _ _ ?_;clear hK K
 refine W.seq_region fun K hK => ?_
 simp (disch := omega) only [↓RU, RV, RH, ↓reduceIte, reduceEqDiff, reduceCtorEq, if_pos, List.append_nil, w64, ↓RS, RG, reduceAdd, reduceMul, reduceLeDiff, tyint]
 refine CallR.ev (pick_ev hc (by omega) (rows : Int) (by omega) (by omega)) ?_
 rintro _ _ ⟨k1, rfl, -, hk1, rfl⟩
 have hk1b := hk1 (by omega)
 simp (disch := omega) only [↓RU, RV, RH, ↓reduceIte, reduceEqDiff, reduceCtorEq, if_pos, List.append_nil, w64, ↓RS, RG, reduceAdd, reduceMul, reduceLeDiff, tyint, one_add]
 refine hK _ _ ?_;clear hK K
 refine W.seq_region fun K hK => ?_
 simp (disch := omega) only [↓RU, RV, RH, ↓reduceIte, reduceEqDiff, reduceCtorEq, if_pos, List.append_nil, w64, ↓RS, RG, reduceAdd, reduceMul, reduceLeDiff, tyint]
 refine CallR.ev (pick_ev hc (by omega) (cols : Int) (by omega) (by omega)) ?_
 rintro _ _ ⟨k2, rfl, -, hk2, rfl⟩
 have hk2b := hk2 (by omega)
 simp (disch := omega) only [↓RU, RV, RH, ↓reduceIte, reduceEqDiff, reduceCtorEq, if_pos, List.append_nil, w64, ↓RS, RG, reduceAdd, reduceMul, reduceLeDiff, tyint, one_add]
 refine CallR.ev (l91Plan_ev (q := q + 1 + 1) hc (by omega) (nh := 1 + k1) (nw := 1 + k2) (by omega) (by omega) (by omega) (by omega)) ?_
 rintro _ _ ⟨p2, q2, t2, rfl, hp2, hl2, hq2, rfl⟩
 simp (disch := omega) only [↓RU, RV, RH, ↓reduceIte, reduceEqDiff, reduceCtorEq, if_pos, List.append_nil, w64, ↓RS, RG, reduceAdd, reduceMul, reduceLeDiff, tyint]
 refine hK _ _ ?_;clear hK K
 obtain ⟨ps1, ps2, ps3⟩ := plan_small hp2
 have hsm := plan_sm hp2
 obtain ⟨nh, hnh⟩ : ∃ nh : Nat, 1 + k1 = nh := ⟨_, rfl⟩
 simp only [hnh] at hl2 ⊢
 refine W.joinZ [8] (fun vs S => ∃ (p3 : List Txt) (q3 tk : Nat), Sm p3 ∧ p3.length ≤ 6 ∧ q3 ≤ q + 200 ∧ vs = [eStrs p3] ∧ S = ⟨[.arr vr 74 2 [eBy code, .int .i64 (q3 : Int)]], tk⟩) ?_ ?_
 ·
  refine W.seq_region fun K hK => ?_
  simp (disch := omega) only [↓RU, RV, RH, ↓reduceIte, reduceEqDiff, reduceCtorEq, if_pos, List.append_nil, ↓RS, RG, reduceAdd, reduceMul, reduceLeDiff]
  refine CallR.ev (pick_ev hc (by omega) 50 (by omega) (by omega)) ?_
  rintro _ _ ⟨k3, rfl, -, hk3, rfl⟩
  simp (disch := omega) only [↓RU, RV, RH, ↓reduceIte, reduceEqDiff, reduceCtorEq, if_pos, List.append_nil, ↓RS, RG, reduceAdd, reduceMul, reduceLeDiff]
  refine hK _ _ ?_;clear hK K
  refine W.block ?_
  refine W.seq_region fun K hK => ?_
  simp (disch := omega) only [↓RU, RV, RH, ↓reduceIte, reduceEqDiff, reduceCtorEq, if_pos, w64, ↓RS, RG, reduceAdd, reduceMul, reduceLeDiff, tyint]
  refine hK _ _ ?_;clear hK K
  refine W.cond rfl (fun h0 => ?_) (fun h0 => ?_)
  ·try simp only [RL] at h0
   obtain ⟨row, hrow, hrm⟩ := get_of (show nh - 1 < p2.length by omega)
   have hr6 := (ps3 row hrm).2
   refine W.seq_region fun K hK => ?_
   simp (disch := omega) only [↓RU, RV, RH, ↓reduceIte, reduceEqDiff, reduceCtorEq, if_pos, ↓RS, RG, reduceAdd, reduceMul, reduceLeDiff, ty5, tystring]
   refine hK _ _ ?_;clear hK K
   refine W.region_k fun K hK => ?_
   simp (disch := omega) only [↓RU, RV, RH, ↓reduceIte, reduceEqDiff, reduceCtorEq, if_pos, w64, ↓RS, RG, reduceAdd, reduceMul, reduceLeDiff, ty5, tyint, tystring, toNat_pred, hrow, pStr, set_spl, set_str, cells_str, List.length_cons, List.length_nil]
   refine hK _ _ ?_;clear hK K
   refine XBlock.norm ?_
   refine XThen.norm ?_
   have hPs : Sm (p2.set (nh - 1) (row ++ [97])) := sm_set hsm (by simp; omega)
   have hPl : (p2.set (nh - 1) (row ++ [97])).length = p2.length := by simp
   generalize p2.set (nh - 1) (row ++ [97]) = P at hPs hPl ⊢
   have htk : (P.map PV.str).take p2.length = P.map .str := List.take_of_length_le (by simp [hPl])
   refine ⟨1, [eStrs P], ⟨[.arr vr 74 2 [eBy code, .int .i64 ((q2 + 1 : Nat) : Int)]], t2 + 1 + 1⟩, ?_, ?_, P, q2 + 1, t2 + 1 + 1, hPs, by omega, by omega, rfl, rfl⟩
   ·simp [-List.mapM_map, Store.frz, frzObs, frzOb, frz_eInts, frz_loc, rfz_loc, frz_int, frz_sl, frz_ints, rfz_ints, frz_strs, frz_bytes, rfz_bytes, rfz_str, rfz_bool, frz_str, frz_bool, Env.put, Env.of, argEnv, rfz_int, List.mapM_append, List.mapM_cons, frz_ref0, tk_strs, rfz_tstr, htk, hPl]
   ·simp [-List.mapM_map, Store.frz, frzObs, frzOb, frz_eInts, frz_loc, rfz_loc, frz_int, frz_sl, frz_ints, rfz_ints, frz_strs, frz_bytes, rfz_bytes, rfz_str, rfz_bool, frz_str, frz_bool, Env.put, Env.of, argEnv, rfz_int, List.mapM_append, List.mapM_cons, frz_ref0, tk_strs, rfz_tstr]
  ·try simp only [RL] at h0
   refine W.seq_region fun K hK => ?_
   simp (disch := omega) only [↓RU, RV, RH, ↓reduceIte, reduceEqDiff, reduceCtorEq, if_pos, w64, ↓RS, RG, reduceAdd, reduceMul, reduceLeDiff, tyint]
   refine hK _ _ ?_;clear hK K
   refine W.cond rfl (fun h1 => ?_) (fun h1 => ?_)
   ·try simp only [RL] at h1
    obtain ⟨row, hrow, hrm⟩ := get_of (show 0 < p2.length by omega)
    have hr6 := ps3 row hrm
    have hdl : (row.drop 1).length ≤ 6 := by rw [List.length_drop]; omega
    refine W.seq_region fun K hK => ?_
    simp (disch := omega) only [↓RU, RV, RH, ↓reduceIte, reduceEqDiff, reduceCtorEq, if_pos, ↓RS, RG, reduceAdd, reduceMul, reduceLeDiff, ty5, tystring]
    refine hK _ _ ?_;clear hK K
    refine W.region_k fun K hK => ?_
    simp (disch := omega) only [↓RU, RV, RH, ↓reduceIte, reduceEqDiff, reduceCtorEq, if_pos, Option.map_none, w64, ↓RS, RG, reduceAdd, reduceMul, reduceLeDiff, ty5, tystring, hrow, pStr, set_spl, set_str, cells_str, List.length_cons, List.length_nil, Int.toNat_zero, Int.reduceToNat, List.take_length, Nat.zero_mul, Nat.zero_add]
    refine hK _ _ ?_;clear hK K
    rw [set_hd (show 0 < p2.length by omega)]
    refine XBlock.norm ?_
    refine XThen.norm ?_
    have hPs : Sm (p2.set 0 (122 :: row.drop 1)) := sm_set hsm (by simp; omega)
    have hPl : (p2.set 0 (122 :: row.drop 1)).length = p2.length := by simp
    generalize p2.set 0 (122 :: row.drop 1) = P at hPs hPl ⊢
    have htk : (P.map PV.str).take p2.length = P.map .str := List.take_of_length_le (by simp [hPl])
    refine ⟨1, [eStrs P], ⟨[.arr vr 74 2 [eBy code, .int .i64 ((q2 + 1 : Nat) : Int)]], t2 + 1 + 1⟩, ?_, ?_, P, q2 + 1, t2 + 1 + 1, hPs, by omega, by omega, rfl, rfl⟩
    ·simp [-List.mapM_map, Store.frz, frzObs, frzOb, frz_eInts, frz_loc, rfz_loc, frz_int, frz_sl, frz_ints, rfz_ints, frz_strs, frz_bytes, rfz_bytes, rfz_str, rfz_bool, frz_str, frz_bool, Env.put, Env.of, argEnv, rfz_int, List.mapM_append, List.mapM_cons, frz_ref0, tk_strs, rfz_tstr, htk, hPl]
    ·simp [-List.mapM_map, Store.frz, frzObs, frzOb, frz_eInts, frz_loc, rfz_loc, frz_int, frz_sl, frz_ints, rfz_ints, frz_strs, frz_bytes, rfz_bytes, rfz_str, rfz_bool, frz_str, frz_bool, Env.put, Env.of, argEnv, rfz_int, List.mapM_append, List.mapM_cons, frz_ref0, tk_strs, rfz_tstr]
   ·try simp only [RL] at h1
    refine W.skip ?_
    refine XBlock.norm ?_
    refine XThen.norm ?_
    have hPs := hsm
    have hPl : p2.length = p2.length := rfl
    have htk : True := trivial
    refine ⟨1, [eStrs p2], ⟨[.arr vr 74 2 [eBy code, .int .i64 ((q2 + 1 : Nat) : Int)]], t2⟩, ?_, ?_, p2, q2 + 1, t2, hPs, by omega, by omega, rfl, rfl⟩
    ·simp [-List.mapM_map, Store.frz, frzObs, frzOb, frz_eInts, frz_loc, rfz_loc, frz_int, frz_sl, frz_ints, rfz_ints, frz_strs, frz_bytes, rfz_bytes, rfz_str, rfz_bool, frz_str, frz_bool, Env.put, Env.of, argEnv, rfz_int, List.mapM_append, List.mapM_cons, frz_ref0, tk_strs, rfz_tstr, htk, hPl]
    ·simp [-List.mapM_map, Store.frz, frzObs, frzOb, frz_eInts, frz_loc, rfz_loc, frz_int, frz_sl, frz_ints, rfz_ints, frz_strs, frz_bytes, rfz_bytes, rfz_str, rfz_bool, frz_str, frz_bool, Env.put, Env.of, argEnv, rfz_int, List.mapM_append, List.mapM_cons, frz_ref0, tk_strs, rfz_tstr]
 rintro vs S - ⟨p3, q3, tk, hs3, hl3, hq3, rfl, rfl⟩
 refine W.seq_region fun K hK => ?_
 simp (disch := omega) only [↓RU, RV, RH, ↓reduceIte, reduceEqDiff, reduceCtorEq, if_pos, ↓RS, RG, reduceAdd, reduceMul, reduceLeDiff]
 refine hK _ _ ?_;clear hK K
 refine W.ret ?_
 refine BodyQ.ret rfl ?_
 exact ⟨_, p3, q3, tk, rfl, hs3, hl3, hq3, take_all⟩
theorem l91Plain_ev {code : Txt} {q vr t : Nat} (hc : code.length ≤ 1048576) (hq : q ≤ 600000) {rows cols : Nat} (h1 : 1 ≤ rows) (h2 : rows ≤ 6) (w1 : 1 ≤ cols) (w2 : cols ≤ 6) : Ev Try.prog 31 [.ref 0 vr 0, .int .i64 rows, .int .i64 cols] ⟨[.arr vr 74 2 [eBy code, .int .i64 (q : Int)]], t⟩ fun v S => ∃ (p2 : List Txt) (q2 t2 : Nat), v = eStrs p2 ∧ Sm p2 ∧ p2.length ≤ 6 ∧ q2 ≤ q + 1000 ∧ S = ⟨[.arr vr 74 2 [eBy code, .int .i64 (q2 : Int)]], t2⟩ := by
 refine Ev.of ⟨Try.func31, by kernel_rfl, rfl, by kernel_rfl⟩ tabOk mixed (by show 3 ≤ Try.f31.ntmps; decide) ?_
 refine W.seq_region fun K hK => ?_
 simp (disch := omega) only [↓RU, RV, RH, ↓reduceIte, reduceEqDiff, reduceCtorEq, if_pos, ↓RS, RG, reduceAdd, reduceMul, reduceLeDiff]
 refine hK _ _ ?_;clear hK K
 refine W.seq_region fun K hK => ?_
 simp (disch := omega) only [↓RU, RV, RH, ↓reduceIte, reduceEqDiff, reduceCtorEq, if_pos, List.append_nil, ↓RS, RG, reduceAdd, reduceMul, reduceLeDiff]
 refine CallR.ev (l91Some_ev (q := q) hc (by omega) h1 h2 w1 w2) ?_
 rintro _ _ ⟨p3, q3, t3, rfl, hs3, hl3, hq3, rfl⟩
 simp (disch := omega) only [↓RU, RV, RH, ↓reduceIte, reduceEqDiff, reduceCtorEq, if_pos, List.append_nil, ↓RS, RG, reduceAdd, reduceMul, reduceLeDiff]
 refine hK _ _ ?_;clear hK K
 refine W.seq ?_
 refine W.seq_region fun K hK => ?_
 simp (disch := omega) only [↓RU, RV, RH, ↓reduceIte, reduceEqDiff, reduceCtorEq, if_pos, ↓RS, RG, reduceAdd, reduceMul, reduceLeDiff]
 refine hK _ _ ?_;clear hK K
 refine W.block ?_
 refine W.loop [0, 1, 2, 7, 8] (fun n vs S => ∃ (i : Nat) (p2 : List Txt) (q2 tk : Nat), n = 3 - i ∧ i ≤ 3 ∧ Sm p2 ∧ p2.length ≤ 6 ∧ q2 ≤ q + 200 + 200 * i ∧ vs = [.ref 0 vr 0, .int .i64 rows, .int .i64 cols, eStrs p2, .int .i64 i] ∧ S = ⟨[.arr vr 74 2 [eBy code, .int .i64 (q2 : Int)]], tk⟩) 3 ?_ ?_
 ·refine ⟨1, 0, p3, q3, t3, rfl, by omega, hs3, hl3, by omega, ?_, rfl⟩
  simp [Env.put, Env.of, argEnv]
 rintro n vs S - ⟨i, p2, q2, tk, rfl, h_i, hs2, hl2, hq2, rfl, rfl⟩
 refine W.seq ?_
 refine W.seq_region fun K hK => ?_
 by_cases hi3 : i < 3
 ·skip
  have hd : decide ((i : Int) < 3) = true := decide_eq_true (by omega)
  simp (disch := omega) only [↓RU, RV, RH, ↓reduceIte, reduceEqDiff, reduceCtorEq, if_pos, w64, List.append_nil, ↓RS, RG, reduceAdd, reduceMul, reduceLeDiff, tyint, hd]
  refine CallR.pc (sWallPlain_pc hs2) rfl (.inl rfl) ?_
  simp (disch := omega) only [↓RU, RV, RH, ↓reduceIte, reduceEqDiff, reduceCtorEq, if_pos, w64, List.append_nil, ↓RS, RG, reduceAdd, reduceMul, reduceLeDiff, tyint, hd]
  refine hK _ _ ?_;clear hK K
  refine W.cond rfl (fun h => ?_) (fun h => ?_)
  ·try simp only [RL] at h
   refine W.skip ?_
   refine XThen.norm ?_
   refine W.seq ?_
   refine W.block ?_
   refine W.region_k fun K hK => ?_
   simp (disch := omega) only [↓RU, RV, RH, ↓reduceIte, reduceEqDiff, reduceCtorEq, if_pos, List.append_nil, ↓RS, RG, reduceAdd, reduceMul, reduceLeDiff]
   refine CallR.ev (l91Some_ev (q := q2) hc (by omega) h1 h2 w1 w2) ?_
   rintro _ _ ⟨p3, q3, t3, rfl, hs3, hl3, hq3, rfl⟩
   simp (disch := omega) only [↓RU, RV, RH, ↓reduceIte, reduceEqDiff, reduceCtorEq, if_pos, List.append_nil, ↓RS, RG, reduceAdd, reduceMul, reduceLeDiff]
   refine hK _ _ ?_;clear hK K
   refine XBlock.norm ?_
   refine XThen.norm ?_
   refine W.region_k fun K hK => ?_
   simp (disch := omega) only [↓RU, RV, RH, ↓reduceIte, reduceEqDiff, reduceCtorEq, if_pos, w64, ↓RS, RG, reduceAdd, reduceMul, reduceLeDiff, tyint]
   refine hK _ _ ?_;clear hK K
   refine XThen.norm ?_
   refine ⟨3 - (i + 1), by omega, 1, i + 1, p3, q3, t3, rfl, by omega, hs3, hl3, by omega, ?_, rfl⟩
   simp [Env.put, Env.of]
  ·try simp only [RL] at h
   refine W.exit ?_
   refine XThen.exit ?_
   refine XThen.exit ?_
   refine XBlock.hit ?_
   refine XThen.norm ?_
   refine W.seq_region fun K hK => ?_
   simp (disch := omega) only [↓RU, RV, RH, ↓reduceIte, reduceEqDiff, reduceCtorEq, if_pos, ↓RS, RG, reduceAdd, reduceMul, reduceLeDiff]
   refine hK _ _ ?_;clear hK K
   refine W.ret ?_
   refine BodyQ.ret rfl ?_
   exact ⟨_, p2, q2, tk, rfl, hs2, hl2, by omega, take_all⟩
 ·skip
  have hd : decide ((i : Int) < 3) = false := decide_eq_false (by omega)
  simp (disch := omega) only [↓RU, RV, RH, ↓reduceIte, reduceEqDiff, reduceCtorEq, if_pos, w64, List.append_nil, ↓RS, RG, reduceAdd, reduceMul, reduceLeDiff, tyint, hd]
  refine hK _ _ ?_;clear hK K
  refine W.cond rfl (fun h => ?_) (fun h => ?_)
  ·try simp only [RL] at h
   exact absurd h (by simp)
  ·try simp only [RL] at h
   refine W.exit ?_
   refine XThen.exit ?_
   refine XThen.exit ?_
   refine XBlock.hit ?_
   refine XThen.norm ?_
   refine W.seq_region fun K hK => ?_
   simp (disch := omega) only [↓RU, RV, RH, ↓reduceIte, reduceEqDiff, reduceCtorEq, if_pos, ↓RS, RG, reduceAdd, reduceMul, reduceLeDiff]
   refine hK _ _ ?_;clear hK K
   refine W.ret ?_
   refine BodyQ.ret rfl ?_
   exact ⟨_, p2, q2, tk, rfl, hs2, hl2, by omega, take_all⟩
theorem l91Order_ev {code : Txt} (hc : code.length ≤ 1048576) : Ev Try.prog 18 [eBy code] ⟨[], 0⟩ fun v S => ∃ (p : List Txt) (t : Nat), Sm p ∧ v = eStrs p ∧ S = ⟨[], t⟩ := by
 refine Ev.of ⟨Try.func18, by kernel_rfl, rfl, by kernel_rfl⟩ tabOk mixed (by show 1 ≤ Try.f18.ntmps; decide) ?_
 refine W.seq_region fun K hK => ?_
 simp (disch := omega) only [↓RU, RV, RH, ↓reduceIte, reduceEqDiff, reduceCtorEq, if_pos, ↓RS, RG, reduceAdd, reduceMul, reduceLeDiff]
 refine hK _ _ ?_;clear hK K
 refine W.seq_region fun K hK => ?_
 simp (disch := omega) only [↓RU, RV, RH, ↓reduceIte, reduceEqDiff, reduceCtorEq, if_pos, List.append_nil, ↓RS, RG, reduceAdd, reduceMul, reduceLeDiff, rdO]
 refine CallR.pn (l6Open_pn hc) rfl (.inr rfl) ?_
 simp (disch := omega) only [↓RU, RV, RH, ↓reduceIte, reduceEqDiff, reduceCtorEq, if_pos, List.append_nil, ↓RS, RG, reduceAdd, reduceMul, reduceLeDiff, rdO, rdO, RN]
 have hc2 : (code.take 2000).length ≤ 1048576 := by rw [List.length_take]; omega
 generalize code.take 2000 = code2 at hc2 ⊢
 refine CallR.ev (l91Plain_ev (q := 0) (code := code2) hc2 (by omega) (rows := 5) (cols := 5) (by omega) (by omega) (by omega) (by omega)) ?_
 rintro _ _ ⟨p, q, t, rfl, hs, hl, hq, rfl⟩
 simp (disch := omega) only [↓RU, RV, RH, ↓reduceIte, reduceEqDiff, reduceCtorEq, if_pos, List.append_nil, ↓RS, RG, reduceAdd, reduceMul, reduceLeDiff, rdO]
 refine hK _ _ ?_;clear hK K
 refine W.ret ?_
 refine BodyQ.ret rfl ?_
 exact ⟨0, p, _, hs, rfl, rfl⟩
theorem drawOrderLong_ev {code : Txt} (hc : code.length ≤ 1048576) : Ev Try.prog 5 [eBy code] ⟨[], 0⟩ fun v S => ∃ (p : List Txt) (t : Nat), Sm p ∧ v = eStrs p ∧ S = ⟨[], t⟩ := by
 refine Ev.of ⟨Try.func5, by kernel_rfl, rfl, by kernel_rfl⟩ tabOk mixed (by show 1 ≤ Try.f5.ntmps; decide) ?_
 refine W.seq_region fun K hK => ?_
 simp (disch := omega) only [↓RU, RV, RH, ↓reduceIte, reduceEqDiff, reduceCtorEq, if_pos, ↓RS, RG, reduceAdd, reduceMul, reduceLeDiff]
 refine hK _ _ ?_;clear hK K
 refine W.seq_region fun K hK => ?_
 simp (disch := omega) only [↓RU, RV, RH, ↓reduceIte, reduceEqDiff, reduceCtorEq, if_pos, List.append_nil, ↓RS, RG, reduceAdd, reduceMul, reduceLeDiff]
 refine CallR.ev (l91Order_ev hc) ?_
 rintro _ _ ⟨p, t, hs, rfl, rfl⟩
 simp (disch := omega) only [↓RU, RV, RH, ↓reduceIte, reduceEqDiff, reduceCtorEq, if_pos, List.append_nil, ↓RS, RG, reduceAdd, reduceMul, reduceLeDiff]
 refine hK _ _ ?_;clear hK K
 refine W.ret ?_
 refine BodyQ.ret rfl ?_
 exact ⟨0, p, _, hs, rfl, rfl⟩

section
theorem foldl_max_ge {l : List Int} : ∀ {m : Int}, m ≤ l.foldl max m ∧ ∀ x ∈ l, x ≤ l.foldl max m := by
 induction l with
 | nil => intro m; simp
 | cons a l ih =>
  intro m
  obtain ⟨h1, h2⟩ := ih (m := max m a)
  refine ⟨by simp only [List.foldl_cons]; omega, fun x hx => ?_⟩
  simp only [List.foldl_cons]
  rcases List.mem_cons.1 hx with rfl | hx
  ·omega
  ·exact h2 x hx
theorem foldl_max_mem {l : List Int} : ∀ {m : Int}, l.foldl max m = m ∨ l.foldl max m ∈ l := by
 induction l with
 | nil => intro m; simp
 | cons a l ih =>
  intro m
  simp only [List.foldl_cons]
  rcases ih (m := max m a) with h | h
  ·rw [h]
   by_cases q : a ≤ m
   ·left; omega
   ·right; rw [show max m a = a by omega]; simp
  ·right; exact List.mem_cons_of_mem _ h
theorem maxL_ge {l : List Int} {x : Int} (h : x ∈ l) : x ≤ maxL l := by
 cases l with
 | nil => simp at h
 | cons a l =>
  obtain ⟨h1, h2⟩ := foldl_max_ge (l := l) (m := a)
  unfold maxL
  rcases List.mem_cons.1 h with rfl | h
  ·exact h1
  ·exact h2 x h
theorem maxL_mem {l : List Int} (h : l ≠ []) : maxL l ∈ l := by
 cases l with
 | nil => exact absurd rfl h
 | cons a l =>
  show l.foldl max a ∈ a :: l
  rcases foldl_max_mem (l := l) (m := a) with h | h
  ·rw [h]; simp
  ·exact List.mem_cons_of_mem _ h
theorem sN_one_le {f : Nat → Bool} : ∀ {n : Nat}, (∀ r s, r < n → s < n → f r = true → f s = true → r = s) → sN n (fun r => b1 (f r)) ≤ 1 := by
 intro n
 induction n with
 | zero => intro _; simp [sN]
 | succ n ih =>
  intro h
  show sN n (fun r => b1 (f r)) + b1 (f n) ≤ 1
  have := ih fun r s hr hs => h r s (by omega) (by omega)
  cases hf : f n with
  | false => simp [b1]; exact this
  | true =>
   have e : sN n (fun r => b1 (f r)) = sN n (fun _ => 0) := sN_congr fun i hi => by
    cases hi2 : f i with
    | false => rfl
    | true => have := h i n (by omega) (by omega) hi2 hf; omega
   rw [e, sN_zero]; simp [b1]
section
variable {M : List (List Bool)} {ws : List Int} {n : Nat} {rk : Nat → Nat}
theorem hb_le {b : Nat} (hb : b < n) : HB M ws n b ≤ maxL (heaviest M ws n) := maxL_ge (List.mem_of_getElem? (hv_at hb))
theorem hb_is (hn : 1 ≤ n) : ∃ b, b < n ∧ HB M ws n b = maxL (heaviest M ws n) := by
 have h := maxL_mem (l := heaviest M ws n) (by intro h; have := congrArg List.length h; rw [heaviest_len] at this; simp at this; omega)
 unfold heaviest at h
 obtain ⟨b, hb, e⟩ := List.mem_map.1 h
 exact ⟨b, by simpa using hb, e⟩
theorem beg_nn (b : Nat) : 0 ≤ beg M ws n b := hvF_pos n
theorem beg_ge {a b : Nat} (ha : a < n) (h : getB M a b = true) : HB M ws n a ≤ beg M ws n b := hvF_ge ha h
theorem hvF_at {g : Nat → Int} {b : Nat} : ∀ i, hvF M g b i = 0 ∨ ∃ a, a < i ∧ getB M a b = true ∧ hvF M g b i = g a
 | 0 => .inl rfl
 | i + 1 => by
  rw [hvF_succ]
  have ih := hvF_at (g := g) (b := b) i
  cases hc : getB M i b with
  | false =>
   simp only [Bool.false_eq_true, if_false]
   rcases ih with h | ⟨a, h1, h2, h3⟩
   ·exact .inl h
   ·exact .inr ⟨a, by omega, h2, h3⟩
  | true =>
   simp only [if_true]
   by_cases q : g i ≤ hvF M g b i
   ·rw [show max (hvF M g b i) (g i) = hvF M g b i by omega]
    rcases ih with h | ⟨a, h1, h2, h3⟩
    ·exact .inl h
    ·exact .inr ⟨a, by omega, h2, h3⟩
   ·rw [show max (hvF M g b i) (g i) = g i by omega]
    exact .inr ⟨i, by omega, hc, rfl⟩
theorem beg_at (b : Nat) : beg M ws n b = 0 ∨ ∃ a, a < n ∧ getB M a b = true ∧ beg M ws n b = HB M ws n a := hvF_at n
theorem need_at (hw : NeedOk ws) {b : Nat} (hb : b < ws.length) : 1 ≤ getI ws b ∧ getI ws b ≤ 9 := by
 obtain ⟨x, hx, hm⟩ := get_of hb
 rw [getI_is hx]; exact hw x hm
def wsum (ws : List Int) (n : Nat) (f : Nat → Bool) : Int := (List.range n).foldl (fun s a => if f a then s + getI ws a else s) 0
theorem wsum_succ {f : Nat → Bool} : wsum ws (n + 1) f = if f n then wsum ws n f + getI ws n else wsum ws n f := by unfold wsum; rw [foldl_rg]
theorem wsum_le {f g : Nat → Bool} (hw : ∀ a, a < n → 0 ≤ getI ws a) (h : ∀ a, a < n → f a = true → g a = true) : wsum ws n f ≤ wsum ws n g := by
 induction n with
 | zero => exact Int.le_refl _
 | succ n ih =>
  rw [wsum_succ, wsum_succ]
  have h1 := ih (fun a ha => hw a (by omega)) fun a ha => h a (by omega)
  have h2 := hw n (by omega)
  cases hf : f n with
  | false => cases hg : g n with
   | false => simpa using h1
   | true => simp; omega
  | true => rw [h n (by omega) hf]; simpa using h1
theorem wsum_add {f g : Nat → Bool} {b : Nat} (hw : ∀ a, a < n → 0 ≤ getI ws a) (hb : b < n) (hf : f b = false) (hg : g b = true) (h : ∀ a, a < n → f a = true → g a = true) : wsum ws n f + getI ws b ≤ wsum ws n g := by
 induction n with
 | zero => omega
 | succ n ih =>
  rw [wsum_succ, wsum_succ]
  by_cases e : b = n
  ·subst e
   have := wsum_le (ws := ws) (n := b) (f := f) (g := g) (fun a ha => hw a (by omega)) (fun a ha => h a (show a < b + 1 by omega))
   rw [hf, hg]; simpa using this
  ·have h1 := ih (fun a ha => hw a (by omega)) (by omega) fun a ha => h a (by omega)
   have h2 := hw n (by omega)
   cases hf2 : f n with
   | false => cases hg2 : g n with
    | false => simpa using h1
    | true => simp; omega
   | true => rw [h n (by omega) hf2]; simp; omega
theorem chain_sum (hu : Up M n rk) (hl : ws.length = n) (hw : NeedOk ws) {P : Nat → Bool} (hP : ∀ a b, a < n → b < n → getB M a b = true → P b = true → beg M ws n b = HB M ws n a → P a = true) :
  ∀ k b, b < n → rk b < k → P b = true → HB M ws n b ≤ wsum ws n (fun a => P a && decide (HB M ws n a ≤ HB M ws n b)) := by
 intro k
 induction k with
 | zero => intro b _ h; omega
 | succ k ih =>
  intro b hb hk hpb
  have hnn : ∀ a, a < n → 0 ≤ getI ws a := fun a ha => by have := (need_at hw (by omega : a < ws.length)).1; omega
  have hwb := (need_at hw (by omega : b < ws.length)).1
  have e := HB_beg (ws := ws) hu hb
  rcases beg_at (M := M) (ws := ws) (n := n) b with h | ⟨a, ha, hab, h⟩
  ·have h1 := wsum_add (ws := ws) (f := fun _ => false) (g := fun a => P a && decide (HB M ws n a ≤ HB M ws n b)) hnn hb rfl (by rw [hpb]; simp) (fun _ _ q => by simp at q)
   have h0 : wsum ws n (fun _ => false) = 0 := by
    clear h1 hnn
    induction n with
    | zero => rfl
    | succ m _ =>
     have : ∀ j, wsum ws j (fun _ => false) = 0 := by
      intro j
      induction j with
      | zero => rfl
      | succ j ihj => rw [wsum_succ, ihj]; rfl
     exact this _
   omega
  ·have hrk := hu.up a b ha hb hab
   have h2 := ih a ha (by omega) (hP a b ha hb hab hpb h)
   have h1 := wsum_add (ws := ws) (f := fun c => P c && decide (HB M ws n c ≤ HB M ws n a)) (g := fun c => P c && decide (HB M ws n c ≤ HB M ws n b)) hnn hb
    (by rw [hpb]; simp; omega) (by rw [hpb]; simp) (fun c _ q => by simp at q ⊢; exact ⟨q.1, by omega⟩)
   omega
theorem ones_rank (hu : Up M n rk) (hw : ∀ b, b < n → getI ws b ≤ 1) : ∀ k b, b < n → rk b < k → HB M ws n b ≤ (rk b : Int) + 1 := by
 intro k
 induction k with
 | zero => intro b _ h; omega
 | succ k ih =>
  intro b hb hk
  have e := HB_beg (ws := ws) hu hb
  have hwb := hw b hb
  rcases beg_at (M := M) (ws := ws) (n := n) b with h | ⟨a, ha, hab, h⟩
  ·omega
  ·have hrk := hu.up a b ha hb hab
   have := ih a ha (by omega)
   omega
theorem both_le (hu : Up M n rk) : ∀ k b, b < n → 100 - rk b < k → HB M ws n b + beg (revM n M) ws n b ≤ maxL (heaviest M ws n) := by
 intro k
 induction k with
 | zero => intro b _ h; omega
 | succ k ih =>
  intro b hb hk
  rcases beg_at (M := revM n M) (ws := ws) (n := n) b with h | ⟨a, ha, hab, h⟩
  ·have := hb_le (M := M) (ws := ws) hb; omega
  ·rw [revM_get ha hb] at hab
   have hrk := hu.up b a hb ha hab
   have hle := hu.le a
   have h1 := ih a ha (by omega)
   have h2 := beg_ge (ws := ws) hb hab
   have h3 := HB_beg (ws := ws) hu ha
   have h4 := HB_beg (ws := ws) (revM_up hu) ha
   omega
end
theorem area_ge {L A : List (List Bool)} {n : Nat} {rl ra : Nat → Nat} {ws hs : List Int} (hL : Up L n rl) (hA : Up A n ra) (ht : ∀ a b, a < n → b < n → a ≠ b → getB L a b = true ∨ getB L b a = true ∨ getB A a b = true ∨ getB A b a = true)
  (lw : ws.length = n) (lh : hs.length = n) (hw : NeedOk ws) (hh : NeedOk hs) : ∀ z : Int, z = ((sN n fun r => (getI ws r).toNat * (getI hs r).toNat : Nat) : Int) → z ≤ maxL (heaviest L ws n) * maxL (heaviest A hs n) := by
 rintro z rfl
 have key : ∀ {M : List (List Bool)} {rk : Nat → Nat} {vs : List Int}, Up M n rk → vs.length = n → NeedOk vs → ∀ r, r < n → (beg M vs n r).toNat + (getI vs r).toNat = (HB M vs n r).toNat ∧ (HB M vs n r).toNat ≤ (maxL (heaviest M vs n)).toNat := by
  intro M rk vs hu hl hv r hr
  have h1 := HB_beg (ws := vs) hu hr
  have h2 := beg_nn (M := M) (ws := vs) (n := n) r
  have h3 := (need_at hv (by omega : r < vs.length)).1
  have h4 := hb_le (M := M) (ws := vs) hr
  omega
 have e1 : (sN n fun r => (getI ws r).toNat * (getI hs r).toNat) = sN n fun r => cnt (maxL (heaviest A hs n)).toNat (maxL (heaviest L ws n)).toNat (inR (beg A hs n r).toNat (beg L ws n r).toNat (getI hs r).toNat (getI ws r).toNat) := sN_congr fun r hr => by
  have k1 := key hL lw hw r hr
  have k2 := key hA lh hh r hr
  rw [cnt_rect (by omega) (by omega), Nat.mul_comm]
 rw [e1]
 unfold cnt
 rw [sN_swap]
 have e2 : sN (maxL (heaviest A hs n)).toNat (fun i => sN n fun r => sN (maxL (heaviest L ws n)).toNat fun j => b1 (inR (beg A hs n r).toNat (beg L ws n r).toNat (getI hs r).toNat (getI ws r).toNat i j)) ≤ sN (maxL (heaviest A hs n)).toNat (fun _ => (maxL (heaviest L ws n)).toNat) := by
  refine sN_le fun i hi => ?_
  rw [sN_swap]
  have : sN (maxL (heaviest L ws n)).toNat (fun j => sN n fun r => b1 (inR (beg A hs n r).toNat (beg L ws n r).toNat (getI hs r).toNat (getI ws r).toNat i j)) ≤ sN (maxL (heaviest L ws n)).toNat (fun _ => 1) := by
   refine sN_le fun j hj => sN_one_le fun r s hr hq h1 h2 => ?_
   simp only [inR, Bool.and_eq_true, decide_eq_true_eq] at h1 h2
   refine Classical.byContradiction fun hne => ?_
   have k1 := key hL lw hw r hr
   have k2 := key hA lh hh r hr
   have k3 := key hL lw hw s hq
   have k4 := key hA lh hh s hq
   rcases ht r s hr hq hne with h | h | h | h
   ·have := beg_ge (M := L) (ws := ws) (n := n) hr h; omega
   ·have := beg_ge (M := L) (ws := ws) (n := n) hq h; omega
   ·have := beg_ge (M := A) (ws := hs) (n := n) hr h; omega
   ·have := beg_ge (M := A) (ws := hs) (n := n) hq h; omega
  rw [sN_one] at this; exact this
 rw [sN_const] at e2
 have e3 := Int.ofNat_le.2 e2
 have p1 : 0 ≤ maxL (heaviest L ws n) ∧ 0 ≤ maxL (heaviest A hs n) := by
  by_cases hn : 1 ≤ n
  ·obtain ⟨b, hb, e⟩ := hb_is (M := L) (ws := ws) hn
   obtain ⟨c, hc, e'⟩ := hb_is (M := A) (ws := hs) hn
   rw [← e, ← e']
   exact ⟨(HB_bound hw b).1, (HB_bound hh c).1⟩
  ·have : n = 0 := by omega
   subst this
   exact ⟨Int.le_refl _, Int.le_refl _⟩
 have e4 : (((maxL (heaviest A hs n)).toNat * (maxL (heaviest L ws n)).toNat : Nat) : Int) = maxL (heaviest L ws n) * maxL (heaviest A hs n) := by
  rw [Int.natCast_mul, Int.toNat_of_nonneg p1.1, Int.toNat_of_nonneg p1.2, Int.mul_comm]
 rw [← e4]; exact e3
end
theorem lf_eq {p : List Txt} : leftG (gP p) p.length (w0 (readG p)) (rP p).length = lfM p := by rw [w0_read]; rfl
theorem ab_eq {p : List Txt} : aboveG (gP p) p.length (w0 (readG p)) (rP p).length = abM p := by rw [w0_read]; rfl
theorem needV_all {p : List Txt} {ws : List Int} (h : needV p [ws] = true) : Up (lfM p) (rP p).length (rkL p) ∧ Up (abM p) (rP p).length (rkA p) ∧ ws.length = (rP p).length ∧ 1 ≤ (rP p).length ∧ (rP p).length ≤ 9 ∧ NeedOk ws ∧ plainB p = true := by
 obtain ⟨-, -, h1, h2, h3, h4, h5⟩ := plan_same h
 rw [lf_eq] at h1; rw [ab_eq] at h2
 obtain ⟨k1, -, -⟩ := needV_one h
 have hok : okB p = true := by
  have h9 := k1
  unfold plainI floorI at h9
  simp only [Bool.and_eq_true] at h9
  exact h9.1.1
 have h9 := okB_rooms hok
 rw [plainI_plain] at k1
 exact ⟨h1, h2, h3, h4, h9, h5, k1⟩
theorem tot_lf {p : List Txt} (hp : plainB p = true) (a b : Nat) (ha : a < (rP p).length) (hb : b < (rP p).length) (hne : a ≠ b) : getB (lfM p) a b = true ∨ getB (lfM p) b a = true ∨ getB (abM p) a b = true ∨ getB (abM p) b a = true := order_some hp ha hb hne
def asum (ws hs : List Int) (i : Nat) : Int := (List.range i).foldl (fun s k => s + getI ws k * getI hs k) 0
theorem asum_succ {ws hs : List Int} {i : Nat} : asum ws hs (i + 1) = asum ws hs i + getI ws i * getI hs i := by unfold asum; rw [foldl_rg]
theorem asum_is {ws hs : List Int} (hw : NeedOk ws) (hh : NeedOk hs) (hl : ws.length = hs.length) : ∀ i, i ≤ ws.length → asum ws hs i = ((sN i fun r => (getI ws r).toNat * (getI hs r).toNat : Nat) : Int) ∧ 0 ≤ asum ws hs i ∧ asum ws hs i ≤ 81 * i := by
 intro i
 induction i with
 | zero => intro _; exact ⟨rfl, Int.le_refl _, Int.le_refl _⟩
 | succ i ih =>
  intro hi
  obtain ⟨h1, h2, h3⟩ := ih (by omega)
  have k1 := need_at hw (show i < ws.length by omega)
  have k2 := need_at hh (show i < hs.length by omega)
  rw [asum_succ]
  have e : (((getI ws i).toNat * (getI hs i).toNat : Nat) : Int) = getI ws i * getI hs i := by
   rw [Int.natCast_mul, Int.toNat_of_nonneg (by omega), Int.toNat_of_nonneg (by omega)]
  have m1 : 0 ≤ getI ws i * getI hs i := Int.mul_nonneg (by omega) (by omega)
  have m2 : getI ws i * getI hs i ≤ 9 * 9 := Int.mul_le_mul k1.2 k2.2 (by omega) (by omega)
  refine ⟨?_, by omega, by omega⟩
  show _ = (((sN i fun r => (getI ws r).toNat * (getI hs r).toNat) + (getI ws i).toNat * (getI hs i).toNat : Nat) : Int)
  rw [Int.natCast_add, e, ← h1]
theorem area_facts {p : List Txt} {ws ht : List Int} (h1 : needV p [ws] = true) (h2 : needV p [ht] = true) : asum ws ht ws.length ≤ maxL (heaviest (lfM p) ws (rP p).length) * maxL (heaviest (abM p) ht (rP p).length) := by
 obtain ⟨u1, u2, l1, l2, l3, n1, hp⟩ := needV_all h1
 obtain ⟨-, -, l4, -, -, n2, -⟩ := needV_all h2
 obtain ⟨e, -, -⟩ := asum_is n1 n2 (by omega) ws.length (Nat.le_refl _)
 refine area_ge u1 u2 (tot_lf hp) l1 l4 n1 n2 _ ?_
 rw [e, l1]
theorem size_bound {p : List Txt} {ws : List Int} (h : needV p [ws] = true) : 1 ≤ maxL (heaviest (lfM p) ws (rP p).length) ∧ maxL (heaviest (lfM p) ws (rP p).length) ≤ 909 ∧ 1 ≤ maxL (heaviest (abM p) ws (rP p).length) ∧ maxL (heaviest (abM p) ws (rP p).length) ≤ 909 := by
 obtain ⟨u1, u2, l1, l2, l3, n1, hp⟩ := needV_all h
 obtain ⟨b, hb, e⟩ := hb_is (M := lfM p) (ws := ws) l2
 obtain ⟨c, hc, e2⟩ := hb_is (M := abM p) (ws := ws) l2
 have h1 := HB_bound (M := lfM p) (n := (rP p).length) n1 b
 have h2 := HB_bound (M := abM p) (n := (rP p).length) n1 c
 have h3 := HB_pos (M := lfM p) (n := (rP p).length) n1 (b := b) (by omega)
 have h4 := HB_pos (M := abM p) (n := (rP p).length) n1 (b := c) (by omega)
 omega
theorem ones_ok {n : Nat} : NeedOk (List.replicate n 1) := fun x hx => by rw [(List.mem_replicate.1 hx).2]; omega
theorem ones_at {n b : Nat} : getI (List.replicate n 1) b ≤ 1 := by
 unfold getI
 rw [List.getElem?_replicate]
 split <;> simp
theorem ones_need {p : List Txt} (h : plainI p = true) : needV p [List.replicate (rP p).length 1] = true := by
 unfold needV
 rw [h]
 simp [needW]
 exact .inr rfl
theorem long_facts {p : List Txt} (h : plainI p = true) : 1 ≤ maxL (heaviest (lfM p) (List.replicate (rP p).length 1) (rP p).length) ∧ 1 ≤ maxL (heaviest (abM p) (List.replicate (rP p).length 1) (rP p).length) ∧
  maxL (heaviest (lfM p) (List.replicate (rP p).length 1) (rP p).length) ≤ (hdRow p).length ∧ maxL (heaviest (abM p) (List.replicate (rP p).length 1) (rP p).length) ≤ p.length ∧
  ((rP p).length : Int) ≤ maxL (heaviest (lfM p) (List.replicate (rP p).length 1) (rP p).length) * maxL (heaviest (abM p) (List.replicate (rP p).length 1) (rP p).length) := by
 have hv := ones_need h
 obtain ⟨u1, u2, l1, l2, l3, n1, hp⟩ := needV_all hv
 obtain ⟨s1, -, s3, -⟩ := size_bound hv
 have hpl := plain_plan hp
 have hN := plan_named hpl
 have hsm := grid_small hN.hg
 obtain ⟨row0, hr0, hm0⟩ := get_of hsm.1
 have hw6 := hsm.2.2 row0 hm0
 have hw1 := row_pos hN.hg hr0
 rw [← hdRow_of hr0] at hw6 hw1
 obtain ⟨b, hb, e⟩ := hb_is (M := lfM p) (ws := List.replicate (rP p).length 1) l2
 obtain ⟨c, hc, e2⟩ := hb_is (M := abM p) (ws := List.replicate (rP p).length 1) l2
 have r1 := ones_rank (ws := List.replicate (rP p).length 1) u1 (fun _ _ => ones_at) (rkL p b + 1) b hb (by omega)
 have r2 := ones_rank (ws := List.replicate (rP p).length 1) u2 (fun _ _ => ones_at) (rkA p c + 1) c hc (by omega)
 have a1 := area_facts hv hv
 have a2 : asum (List.replicate (rP p).length 1) (List.replicate (rP p).length 1) (List.replicate (rP p).length (1 : Int)).length = (rP p).length := by
  rw [List.length_replicate]
  have : ∀ i, i ≤ (rP p).length → asum (List.replicate (rP p).length 1) (List.replicate (rP p).length 1) i = i := by
   intro i
   induction i with
   | zero => intro _; rfl
   | succ i ih =>
    intro hi
    rw [asum_succ, ih (by omega)]
    have : getI (List.replicate (rP p).length 1) i = 1 := by unfold getI; rw [List.getElem?_replicate, if_pos (by omega)]; rfl
    rw [this]; omega
  exact this _ (Nat.le_refl _)
 have k1 : rkL p b < (hdRow p).length := by
  obtain ⟨i, j, hi, hj, hc1⟩ := room_cell hb
  obtain ⟨x, hx, hin, hf, -⟩ := plan_rect hpl hi hj
  rw [← cn_cell hpl hi hj, hc1] at hx
  unfold rkL
  rw [show ((b : Nat) : Int).toNat = b by omega] at hx
  rw [hx]
  simp only [inB, Bool.and_eq_true, decide_eq_true_eq] at hin
  simp only; omega
 have k2 : rkA p c < p.length := by
  obtain ⟨i, j, hi, hj, hc1⟩ := room_cell hc
  obtain ⟨x, hx, hin, hf, -⟩ := plan_rect hpl hi hj
  rw [← cn_cell hpl hi hj, hc1] at hx
  unfold rkA
  rw [show ((c : Nat) : Int).toNat = c by omega] at hx
  rw [hx]
  simp only [inB, Bool.and_eq_true, decide_eq_true_eq] at hin
  simp only; omega
 exact ⟨s1, s3, by omega, by omega, by omega⟩
theorem pEq_bb {S : Store} {a b : Bool} : pEq tab S 4 (.bool a) (.bool b) = some (a == b) := rfl



theorem plainI_is {p : List Txt} {b : Bool} (h : plainI p = b) : plainB p = b := by rw [← plainI_plain]; exact h
section
def lgB (sets : List Nat) (a : Nat) (out : List Int) (b : Nat) : List Int := if bitOf sets a b then out.set a (max (getI out a) (1 + getI out b)) else out
def lgC (sets : List Nat) (a k : Nat) (out : List Int) : List Int := (List.range k).foldl (lgB sets a) (out.set a (max (getI out a) 1))
def lgA (sets : List Nat) (s : List Int × Int) (a : Nat) : List Int × Int := (lgC sets a sets.length s.1, max s.2 (getI (lgC sets a sets.length s.1) a))
def lgN (sets : List Nat) (s : List Int × Int) (_ : Nat) : List Int × Int := (List.range sets.length).foldl (lgA sets) s
def lgS (sets : List Nat) (k : Nat) : List Int × Int := (List.range k).foldl (lgN sets) (List.replicate sets.length 0, 0)
def longS (sets : List Nat) : Int := (lgS sets sets.length).2
theorem lgC_succ {sets : List Nat} {a k : Nat} {out : List Int} : lgC sets a (k + 1) out = lgB sets a (lgC sets a k out) k := by unfold lgC; rw [foldl_rg]
theorem lgS_succ {sets : List Nat} {k : Nat} : lgS sets (k + 1) = (List.range sets.length).foldl (lgA sets) (lgS sets k) := by
 unfold lgS; rw [foldl_rg]; rfl
variable {M : List (List Bool)} {ms : List Nat} {n : Nat} {rk : Nat → Nat} {ws out : List Int}
abbrev ones (n : Nat) : List Int := List.replicate n 1
theorem ones_len : (ones n).length = n := by simp
theorem ones_get {b : Nat} (hb : b < n) : getI (ones n) b = 1 := by unfold getI; rw [List.getElem?_replicate, if_pos hb]; rfl
def RB (M : List (List Bool)) (n b : Nat) : Int := HB (revM n M) (ones n) n b
theorem RB_beg (hu : Up M n rk) {b : Nat} (hb : b < n) : RB M n b = beg (revM n M) (ones n) n b + 1 := by
 unfold RB
 rw [HB_beg (revM_up hu) hb, ones_get hb]
theorem RB_ge (hu : Up M n rk) {a b : Nat} (ha : a < n) (hb : b < n) (h : getB M a b = true) : 1 + RB M n b ≤ RB M n a := by
 rw [RB_beg hu ha]
 have h1 := beg_ge (M := revM n M) (ws := ones n) (n := n) hb (by rw [revM_get hb ha]; exact h)
 unfold RB; omega
def LgOk (M : List (List Bool)) (n : Nat) (out : List Int) : Prop := out.length = n ∧ ∀ a, a < n → 0 ≤ getI out a ∧ getI out a ≤ RB M n a
theorem LgOk.set (h : LgOk M n out) {a : Nat} {v : Int} (ha : a < n) (h0 : 0 ≤ v) (h1 : v ≤ RB M n a) : LgOk M n (out.set a v) := by
 refine ⟨by simp [h.1], fun y hy => ?_⟩
 rw [getI_set (by rw [h.1]; exact ha)]
 split
 ·rename_i e; subst e; exact ⟨h0, h1⟩
 ·exact h.2 y hy
theorem lgC_ok (hs : Same n M ms) (hu : Up M n rk) {out : List Int} (h : LgOk M n out) {a : Nat} (ha : a < n) : ∀ k, k ≤ n →
  LgOk M n (lgC ms a k out) ∧ Ge n out (lgC ms a k out) ∧ 1 ≤ getI (lgC ms a k out) a ∧ (∀ b, b < k → getB M a b = true → 1 + getI out b ≤ getI (lgC ms a k out) a) := by
 intro k
 have hR := RB_beg hu ha
 have hb0 := beg_nn (M := revM n M) (ws := ones n) (n := n) a
 induction k with
 | zero =>
  intro _
  have h0 := h.2 a ha
  refine ⟨LgOk.set (M := M) h ha (by omega) (by omega), fun y hy => ?_, ?_, fun b hb => by omega⟩
  ·show getI out y ≤ getI (out.set a _) y
   rw [getI_set (by rw [h.1]; exact ha)]
   split
   ·rename_i e; subst e; omega
   ·exact Int.le_refl _
  ·show 1 ≤ getI (out.set a _) a
   rw [getI_set (by rw [h.1]; exact ha), if_pos rfl]; omega
 | succ k ih =>
  intro hk
  obtain ⟨k1, k2, k3, k4⟩ := ih (by omega)
  rw [lgC_succ]
  generalize lgC ms a k out = X at k1 k2 k3 k4
  unfold lgB
  rw [← hs.2.2 a k ha (by omega)]
  cases hM : getB M a k with
  | false =>
   refine ⟨k1, k2, k3, fun b hb hab => ?_⟩
   by_cases e : b = k
   ·subst e; rw [hM] at hab; cases hab
   ·exact k4 b (by omega) hab
  | true =>
   rw [if_pos rfl]
   have q1 := k1.2 a ha
   have q2 := k1.2 k (by omega)
   have q3 := RB_ge hu ha (show k < n by omega) hM
   have q4 : ∀ y, getI (X.set a (max (getI X a) (1 + getI X k))) y = if y = a then max (getI X a) (1 + getI X k) else getI X y := fun y => getI_set (by rw [k1.1]; exact ha)
   refine ⟨LgOk.set (M := M) k1 ha (by omega) (by omega), fun y hy => ?_, ?_, fun b hb hab => ?_⟩
   ·have := k2 y hy
    rw [q4]
    split
    ·rename_i e; subst e; omega
    ·exact this
   ·rw [q4, if_pos rfl]; omega
   ·rw [q4, if_pos rfl]
    have := k2 k (by omega)
    by_cases e : b = k
    ·subst e; omega
    ·have := k4 b (by omega) hab; omega
theorem lgA_ok (hs : Same n M ms) (hu : Up M n rk) {B : Int} (hB : ∀ a, a < n → RB M n a ≤ B) {s : List Int × Int} (h : LgOk M n s.1) (h0 : 0 ≤ s.2 ∧ s.2 ≤ B) : ∀ k, k ≤ n →
  LgOk M n ((List.range k).foldl (lgA ms) s).1 ∧ Ge n s.1 ((List.range k).foldl (lgA ms) s).1 ∧ s.2 ≤ ((List.range k).foldl (lgA ms) s).2 ∧ ((List.range k).foldl (lgA ms) s).2 ≤ B ∧
   ∀ a, a < k → (∀ b, b < n → getB M a b = true → 1 + getI s.1 b ≤ getI ((List.range k).foldl (lgA ms) s).1 a) ∧ 1 ≤ getI ((List.range k).foldl (lgA ms) s).1 a ∧
    ((∀ b, b < n → getB M a b = true → getI s.1 b = RB M n b) → RB M n a ≤ ((List.range k).foldl (lgA ms) s).2) := by
 intro k
 induction k with
 | zero => intro _; exact ⟨h, Ge.refl _, Int.le_refl _, h0.2, fun a ha => by omega⟩
 | succ k ih =>
  intro hk
  obtain ⟨k1, k2, k3, k4, k5⟩ := ih (by omega)
  rw [foldl_rg]
  generalize (List.range k).foldl (lgA ms) s = X at k1 k2 k3 k4 k5 ⊢
  obtain ⟨c1, c2, c3, c4⟩ := lgC_ok hs hu k1 (show k < n by omega) n (Nat.le_refl _)
  have hl : lgA ms X k = (lgC ms k n X.1, max X.2 (getI (lgC ms k n X.1) k)) := by unfold lgA; rw [hs.2.1]
  rw [hl]
  generalize lgC ms k n X.1 = Y at c1 c2 c3 c4
  have hk2 := (c1.2 k (by omega)).2
  have hk3 := hB k (by omega)
  refine ⟨c1, k2.trans c2, by simp only; omega, by simp only; omega, fun a ha => ?_⟩
  simp only
  by_cases e : a = k
  ·subst e
   refine ⟨fun b hb hab => ?_, c3, fun hall => ?_⟩
   ·have := c4 b hb hab
    have := k2 b hb
    omega
   ·have : RB M n a ≤ getI Y a := by
     rw [RB_beg hu (by omega)]
     rcases beg_at (M := revM n M) (ws := ones n) (n := n) a with q | ⟨b, hb, hab, q⟩
     ·omega
     ·rw [revM_get hb (by omega)] at hab
      have q1 := c4 b hb hab
      have q2 := k2 b hb
      rw [hall b hb hab] at q2
      unfold RB at q2
      omega
    omega
  ·obtain ⟨m1, m2, m3⟩ := k5 a (by omega)
   have m4 := c2 a (by omega)
   refine ⟨fun b hb hab => ?_, by omega, fun hall => ?_⟩
   ·have := m1 b hb hab; omega
   ·have := m3 hall; omega
theorem lgS_done (hs : Same n M ms) (hu : Up M n rk) {B : Int} (hB0 : 0 ≤ B) (hB : ∀ a, a < n → RB M n a ≤ B) : ∀ k, k ≤ n → LgOk M n (lgS ms k).1 ∧ 0 ≤ (lgS ms k).2 ∧ (lgS ms k).2 ≤ B ∧
  ∀ a, a < n → ahead n (fun b => 100 - rk b) a < k → getI (lgS ms k).1 a = RB M n a ∧ RB M n a ≤ (lgS ms k).2 := by
 intro k
 induction k with
 | zero =>
  intro _
  refine ⟨⟨by simp [lgS, hs.2.1], fun a ha => ?_⟩, by simp [lgS], by simpa [lgS] using hB0, fun a _ h => by omega⟩
  have h1 : getI (lgS ms 0).1 a = 0 := by simp [lgS, getI, hs.2.1, ha]
  have h2 := RB_beg hu ha
  have h3 := beg_nn (M := revM n M) (ws := ones n) (n := n) a
  rw [h1]; omega
 | succ k ih =>
  intro hk
  obtain ⟨k1, k2, k3, k4⟩ := ih (by omega)
  rw [lgS_succ, hs.2.1]
  obtain ⟨c1, c2, c3, c4, c5⟩ := lgA_ok hs hu hB k1 ⟨k2, k3⟩ n (Nat.le_refl _)
  refine ⟨c1, by omega, c4, fun a ha hc => ?_⟩
  obtain ⟨m1, m2, m3⟩ := c5 a ha
  have hall : ∀ b, b < n → getB M a b = true → getI (lgS ms k).1 b = RB M n b := fun b hb hab => by
   have hrk := hu.up a b ha hb hab
   have hle := hu.le b
   exact (k4 b hb (by have := ahead_lt (n := n) (rk := fun b => 100 - rk b) hb (show 100 - rk b < 100 - rk a by omega); omega)).1
  refine ⟨?_, m3 hall⟩
  have hup := (c1.2 a ha).2
  have : RB M n a ≤ getI ((List.range n).foldl (lgA ms) (lgS ms k)).1 a := by
   rw [RB_beg hu ha]
   rcases beg_at (M := revM n M) (ws := ones n) (n := n) a with q | ⟨b, hb, hab, q⟩
   ·omega
   ·rw [revM_get hb ha] at hab
    have q1 := m1 b hb hab
    rw [hall b hb hab] at q1
    unfold RB at q1
    omega
  omega
theorem both_le2 (hu : Up M n rk) : ∀ k b, b < n → rk b < k → HB (revM n M) ws n b + beg M ws n b ≤ maxL (heaviest (revM n M) ws n) := by
 intro k
 induction k with
 | zero => intro b _ h; omega
 | succ k ih =>
  intro b hb hk
  rcases beg_at (M := M) (ws := ws) (n := n) b with h | ⟨a, ha, hab, h⟩
  ·have := hb_le (M := revM n M) (ws := ws) hb; omega
  ·have hrk := hu.up a b ha hb hab
   have h1 := ih a ha (by omega)
   have h2 := beg_ge (M := revM n M) (ws := ws) hb (by rw [revM_get hb ha]; exact hab)
   have h3 := HB_beg (ws := ws) hu ha
   have h4 := HB_beg (ws := ws) (revM_up hu) ha
   omega
theorem max_rev (hu : Up M n rk) (hn : 1 ≤ n) (hw : ws.length = n) (hok : NeedOk ws) : maxL (heaviest (revM n M) ws n) = maxL (heaviest M ws n) := by
 apply Int.le_antisymm
 ·obtain ⟨b, hb, e⟩ := hb_is (M := revM n M) (ws := ws) hn
  have h1 := both_le (ws := ws) hu (101 - rk b) b hb (by have := hu.le b; omega)
  have h2 := HB_beg (ws := ws) (revM_up hu) hb
  have h3 := HB_beg (ws := ws) hu hb
  have h4 := beg_nn (M := M) (ws := ws) (n := n) b
  omega
 ·obtain ⟨b, hb, e⟩ := hb_is (M := M) (ws := ws) hn
  have h1 := both_le2 (ws := ws) hu (rk b + 1) b hb (by omega)
  have h2 := HB_beg (ws := ws) (revM_up hu) hb
  have h3 := HB_beg (ws := ws) hu hb
  have h4 := beg_nn (M := revM n M) (ws := ws) (n := n) b
  omega
theorem long_eq (hs : Same n M ms) (hu : Up M n rk) (hn : 1 ≤ n) : longS ms = maxL (heaviest M (ones n) n) := by
 rw [← max_rev hu hn ones_len ones_ok]
 have hB : ∀ a, a < n → RB M n a ≤ maxL (heaviest (revM n M) (ones n) n) := fun a ha => hb_le ha
 obtain ⟨b, hb, e⟩ := hb_is (M := revM n M) (ws := ones n) hn
 have h0 := RB_beg hu hb
 have h1 := beg_nn (M := revM n M) (ws := ones n) (n := n) b
 have h2 := hB b hb
 obtain ⟨-, -, k3, k4⟩ := lgS_done hs hu (by omega) hB n (Nat.le_refl _)
 unfold longS
 rw [hs.2.1]
 have := (k4 b hb (ahead_n hb)).2
 unfold RB at this
 omega
theorem long_plain {p : List Txt} (h : plainI p = true) : longS (allS p 0) = maxL (heaviest (lfM p) (ones (rP p).length) (rP p).length) ∧ longS (allS p 1) = maxL (heaviest (abM p) (ones (rP p).length) (rP p).length) := by
 have hv := ones_need h
 obtain ⟨s0, s1, u0, u1, -, hn, -⟩ := plan_same hv
 rw [lf_eq] at s0 u0
 rw [ab_eq] at s1 u1
 exact ⟨long_eq s0 u0 hn, long_eq s1 u1 hn⟩
end
theorem wu64 {x : Int} (h1 : 0 ≤ x) (h2 : x < 18446744073709551616) : IntKind.u64.wrap x = x := by
 simp [IntKind.wrap, IntKind.bits, IntKind.signed]; omega
theorem shr32 {x : Int} (h1 : 0 ≤ x) (h2 : x < 4294967296) : pShift .shr .u64 x 32 = some (.int .u64 0) := by
 have h3 : x.fdiv 4294967296 = 0 := by rw [Int.fdiv_eq_ediv_of_nonneg _ (by omega)]; omega
 show some (PV.int .u64 (x.fdiv 4294967296)) = _
 rw [h3]
theorem and32 {x : Int} (h1 : 0 ≤ x) (h2 : x < 4294967296) : IntKind.u64.wrap ((BitVec.ofInt IntKind.u64.bits x &&& BitVec.ofInt IntKind.u64.bits 4294967295).toNat : Int) = x := by
 obtain ⟨n, rfl⟩ := Int.eq_ofNat_of_zero_le h1
 have h3 : n &&& 4294967295 = n := by
  have := Nat.and_two_pow_sub_one_eq_mod n 32
  simp only [Nat.reducePow, Nat.reduceSub] at this
  rw [this]; omega
 have h4 : (BitVec.ofInt 64 (n : Int) &&& BitVec.ofInt 64 4294967295).toNat = n := by
  rw [BitVec.toNat_and]
  have e1 : (BitVec.ofInt 64 (n : Int)).toNat = n := by simp [BitVec.toNat_ofInt]; omega
  have e2 : (BitVec.ofInt 64 4294967295).toNat = 4294967295 := by decide
  rw [e1, e2, h3]
 show IntKind.u64.wrap ((BitVec.ofInt 64 (n : Int) &&& BitVec.ofInt 64 4294967295).toNat : Int) = n
 rw [h4, wu64 (by omega) (by omega)]
theorem mul64_pc {n : Nat} (hn : n ≤ 1000) : PC Try.prog 51 [.int .u64 1, .int .u64 n] (.tup [.int .u64 0, .int .u64 n]) true := by
 refine PC.of ⟨Try.func51, by kernel_rfl, rfl, by kernel_rfl⟩ tabOk mixed (by show 2 ≤ Try.f51.ntmps; decide) ?_
 refine W.seq_region fun K hK => ?_
 simp (disch := omega) only [↓RU, RV, RH, ↓reduceIte, reduceEqDiff, reduceCtorEq, if_pos, wu64, shr32, and32, Int.one_mul, Int.zero_mul, Int.mul_zero, Int.zero_add, Int.add_zero, Int.reduceMul, Int.reduceAdd]
 refine hK _ _ ?_;clear hK K
 refine W.seq_region fun K hK => ?_
 simp (disch := omega) only [↓RU, RV, RH, ↓reduceIte, reduceEqDiff, reduceCtorEq, if_pos, w64, ty25, wu64, shr32, and32, Int.one_mul, Int.zero_mul, Int.mul_zero, Int.zero_add, Int.add_zero, Int.reduceMul, Int.reduceAdd]
 refine hK _ _ ?_;clear hK K
 refine W.seq_region fun K hK => ?_
 simp (disch := omega) only [↓RU, RV, RH, ↓reduceIte, reduceEqDiff, reduceCtorEq, if_pos, w64, ty25, wu64, shr32, and32, Int.one_mul, Int.zero_mul, Int.mul_zero, Int.zero_add, Int.add_zero, Int.reduceMul, Int.reduceAdd]
 refine hK _ _ ?_;clear hK K
 refine W.seq_region fun K hK => ?_
 simp (disch := omega) only [↓RU, RV, RH, ↓reduceIte, reduceEqDiff, reduceCtorEq, if_pos, w64, ty25, wu64, shr32, and32, Int.one_mul, Int.zero_mul, Int.mul_zero, Int.zero_add, Int.add_zero, Int.reduceMul, Int.reduceAdd]
 refine hK _ _ ?_;clear hK K
 refine W.seq_region fun K hK => ?_
 simp (disch := omega) only [↓RU, RV, RH, ↓reduceIte, reduceEqDiff, reduceCtorEq, if_pos, w64, ty25, wu64, shr32, and32, Int.one_mul, Int.zero_mul, Int.mul_zero, Int.zero_add, Int.add_zero, Int.reduceMul, Int.reduceAdd]
 refine hK _ _ ?_;clear hK K
 refine W.seq_region fun K hK => ?_
 simp (disch := omega) only [↓RU, RV, RH, ↓reduceIte, reduceEqDiff, reduceCtorEq, if_pos, w64, ty25, wu64, shr32, and32, Int.one_mul, Int.zero_mul, Int.mul_zero, Int.zero_add, Int.add_zero, Int.reduceMul, Int.reduceAdd]
 refine hK _ _ ?_;clear hK K
 refine W.seq_region fun K hK => ?_
 simp (disch := omega) only [↓RU, RV, RH, ↓reduceIte, reduceEqDiff, reduceCtorEq, if_pos, w64, ty25, wu64, shr32, and32, Int.one_mul, Int.zero_mul, Int.mul_zero, Int.zero_add, Int.add_zero, Int.reduceMul, Int.reduceAdd]
 refine hK _ _ ?_;clear hK K
 refine W.seq_region fun K hK => ?_
 simp (disch := omega) only [↓RU, RV, RH, ↓reduceIte, reduceEqDiff, reduceCtorEq, if_pos, w64, ty25, wu64, shr32, and32, Int.one_mul, Int.zero_mul, Int.mul_zero, Int.zero_add, Int.add_zero, Int.reduceMul, Int.reduceAdd]
 refine hK _ _ ?_;clear hK K
 refine W.seq_region fun K hK => ?_
 simp (disch := omega) only [↓RU, RV, RH, ↓reduceIte, reduceEqDiff, reduceCtorEq, if_pos, w64, ty25, wu64, shr32, and32, Int.one_mul, Int.zero_mul, Int.mul_zero, Int.zero_add, Int.add_zero, Int.reduceMul, Int.reduceAdd]
 refine hK _ _ ?_;clear hK K
 refine W.seq_region fun K hK => ?_
 simp (disch := omega) only [↓RU, RV, RH, ↓reduceIte, reduceEqDiff, reduceCtorEq, if_pos, w64, ty25, wu64, shr32, and32, Int.one_mul, Int.zero_mul, Int.mul_zero, Int.zero_add, Int.add_zero, Int.reduceMul, Int.reduceAdd]
 refine hK _ _ ?_;clear hK K
 refine W.seq_region fun K hK => ?_
 simp (disch := omega) only [↓RU, RV, RH, ↓reduceIte, reduceEqDiff, reduceCtorEq, if_pos, w64, ty25, wu64, shr32, and32, Int.one_mul, Int.zero_mul, Int.mul_zero, Int.zero_add, Int.add_zero, Int.reduceMul, Int.reduceAdd]
 refine hK _ _ ?_;clear hK K
 refine W.seq_region fun K hK => ?_
 simp (disch := omega) only [↓RU, RV, RH, ↓reduceIte, reduceEqDiff, reduceCtorEq, if_pos, w64, ty25, wu64, shr32, and32, Int.one_mul, Int.zero_mul, Int.mul_zero, Int.zero_add, Int.add_zero, Int.reduceMul, Int.reduceAdd]
 refine hK _ _ ?_;clear hK K
 refine W.ret ?_
 refine BodyQ.ret rfl ?_
 rfl
theorem mulU_pc {n : Nat} (hn : n ≤ 1000) : PC Try.prog 35 [.int .u64 1, .int .u64 n] (.tup [.int .u64 0, .int .u64 n]) true := by
 refine PC.of ⟨Try.func35, by kernel_rfl, rfl, by kernel_rfl⟩ tabOk mixed (by show 2 ≤ Try.f35.ntmps; decide) ?_
 refine W.seq_region fun K hK => ?_
 simp (disch := omega) only [↓RU, RV, RH, ↓reduceIte, reduceEqDiff, reduceCtorEq, if_pos, wu64, shr32, and32, Int.one_mul, Int.zero_mul, Int.mul_zero, Int.zero_add, Int.add_zero, Int.reduceMul, Int.reduceAdd]
 refine hK _ _ ?_;clear hK K
 refine W.seq ?_
 refine W.cond rfl (fun h => ?_) (fun h => ?_)
 ·skip
  cases h
 ·skip
  refine W.skip ?_
  refine XThen.norm ?_
  refine W.seq_region fun K hK => ?_
  simp (disch := omega) only [↓RU, RV, RH, ↓reduceIte, reduceEqDiff, reduceCtorEq, if_pos, List.append_nil, wu64, shr32, and32, Int.one_mul, Int.zero_mul, Int.mul_zero, Int.zero_add, Int.add_zero, Int.reduceMul, Int.reduceAdd]
  refine CallR.pc (mul64_pc hn) rfl (.inl rfl) ?_
  simp (disch := omega) only [↓RU, RV, RH, ↓reduceIte, reduceEqDiff, reduceCtorEq, if_pos, List.append_nil, wu64, shr32, and32, Int.one_mul, Int.zero_mul, Int.mul_zero, Int.zero_add, Int.add_zero, Int.reduceMul, Int.reduceAdd]
  refine hK _ _ ?_;clear hK K
  refine W.seq_region fun K hK => ?_
  simp (disch := omega) only [↓RU, RV, RH, ↓reduceIte, reduceEqDiff, reduceCtorEq, if_pos, wu64, shr32, and32, Int.one_mul, Int.zero_mul, Int.mul_zero, Int.zero_add, Int.add_zero, Int.reduceMul, Int.reduceAdd]
  refine hK _ _ ?_;clear hK K
  refine W.ret ?_
  refine BodyQ.ret rfl ?_
  rfl
def oz (k m : Nat) : List Int := List.replicate k 1 ++ List.replicate m 0
theorem oz_len {k m : Nat} : (oz k m).length = k + m := by simp [oz]
theorem oz_all {k : Nat} : oz k 0 = ones k := by simp [oz]
theorem oz_pv {k m : Nat} : (oz k m).map (PV.int .i64) = List.replicate k (.int .i64 1) ++ List.replicate m (.int .i64 0) := by simp [oz]
theorem oz_one {n : Nat} (hn : 1 ≤ n) : spl ((oz 0 n).map (PV.int .i64)) 0 [PV.int .i64 1] = (oz 1 (n - 1)).map (PV.int .i64) := by
 obtain ⟨m, rfl⟩ : ∃ m, n = m + 1 := ⟨n - 1, by omega⟩
 simp [spl, oz, List.replicate_succ]
theorem oz_more {k m c : Nat} (hc : c = min m k) : spl ((oz k m).map (PV.int .i64)) k (((oz k m).map (PV.int .i64)).take c) = (oz (k + c) (m - c)).map (PV.int .i64) := by
 rw [oz_pv, oz_pv]
 have h1 : (List.replicate k (PV.int .i64 1) ++ List.replicate m (PV.int .i64 0)).take c = List.replicate c (PV.int .i64 1) := by
  rw [List.take_append_of_le_length (by simp; omega), List.take_replicate]
  congr 1; omega
 rw [h1]
 unfold spl
 rw [List.take_append_of_le_length (by simp), List.take_of_length_le (by simp), List.length_replicate, List.drop_append]
 simp only [List.length_replicate, List.drop_replicate, List.replicate_append_replicate]
 congr 2
 have : k - (k + c) = 0 := by omega
 rw [this, List.replicate_zero, List.nil_append]
 congr 1; omega
theorem repeat_pc {N : Nat} (hn1 : 1 ≤ N) (hn9 : N ≤ 1000) : PC Try.prog 20 [eInts [1], .int .i64 N] (eInts (ones N)) true := by
 refine PC.of ⟨Try.func20, by kernel_rfl, rfl, by kernel_rfl⟩ tabOk mixed (by show 2 ≤ Try.f20.ntmps; decide) ?_
 refine W.seq_region fun K hK => ?_
 simp (disch := omega) only [↓RU, RV, RH, ↓reduceIte, reduceEqDiff, reduceCtorEq, if_pos, ↓RS, RG, reduceAdd, reduceMul, reduceLeDiff]
 refine hK _ _ ?_;clear hK K
 refine W.seq ?_
 refine W.seq_region fun K hK => ?_
 simp (disch := omega) only [↓RU, RV, RH, ↓reduceIte, reduceEqDiff, reduceCtorEq, if_pos, w64, ↓RS, RG, reduceAdd, reduceMul, reduceLeDiff, tyint]
 refine hK _ _ ?_;clear hK K
 refine W.cond rfl (fun h0 => ?_) (fun h0 => ?_)
 ·try simp only [RL] at h0
  exfalso; omega
 ·try simp only [RL] at h0
  refine W.skip ?_
  refine XThen.norm ?_
  refine W.seq_region fun K hK => ?_
  simp (disch := omega) only [↓RU, RV, RH, ↓reduceIte, reduceEqDiff, reduceCtorEq, if_pos, w64, List.append_nil, ↓RS, RG, reduceAdd, reduceMul, reduceLeDiff, tyLint, tyint, tyuint, wu64]
  refine CallR.pc (mulU_pc hn9) rfl (.inl rfl) ?_
  simp (disch := omega) only [↓RU, RV, RH, ↓reduceIte, reduceEqDiff, reduceCtorEq, if_pos, w64, List.append_nil, ↓RS, RG, reduceAdd, reduceMul, reduceLeDiff, tyLint, tyint, tyuint, wu64]
  refine hK _ _ ?_;clear hK K
  refine W.seq ?_
  refine W.seq_region fun K hK => ?_
  have hz0 : decide ((0 : Int) > 0) = false := rfl
  have hz1 : decide ((N : Int) > 9223372036854775807) = false := decide_eq_false (by omega)
  simp (disch := omega) only [↓RU, RV, RH, ↓reduceIte, reduceEqDiff, reduceCtorEq, if_pos, w64, ↓RS, RG, reduceAdd, reduceMul, reduceLeDiff, tyuint, hz0, hz1]
  refine hK _ _ ?_;clear hK K
  refine W.cond rfl (fun h1 => ?_) (fun h1 => ?_)
  ·try simp only [RL] at h1
   exact absurd h1 (by simp)
  ·try simp only [RL] at h1
   have hm1 : min 1 N = 1 := by omega
   refine W.skip ?_
   refine XThen.norm ?_
   refine W.seq_region fun K hK => ?_
   simp (disch := omega) only [↓RU, RV, RH, ↓reduceIte, reduceEqDiff, reduceCtorEq, if_pos, w64, ↓RS, RG, reduceAdd, reduceMul, reduceLeDiff, tyLint, tyint, tyuint, repz_int, ile_true]
   refine hK _ _ ?_;clear hK K
   refine W.seq_region fun K hK => ?_
   simp (disch := omega) only [↓RU, RV, RH, ↓reduceIte, reduceEqDiff, reduceCtorEq, if_pos, ↓RS, RG, reduceAdd, reduceMul, reduceLeDiff, tyLint, tyint, hm1, List.take_succ_cons, List.take_zero, List.length_cons, List.length_nil, List.length_replicate]
   refine hK _ _ ?_;clear hK K
   refine W.seq ?_
   refine W.block ?_
   refine W.loop [7, 8] (fun n vs S => ∃ k tk : Nat, n = N - k ∧ 1 ≤ k ∧ k ≤ N ∧ vs = [.loc 0 0 0 N, .int .i64 k] ∧ S = ⟨[.arr 0 3 1 ((oz k (N - k)).map (.int .i64))], tk⟩) (N - 1) ?_ ?_
   ·refine ⟨1, 1, 1, rfl, Nat.le_refl _, hn1, ?_, ?_⟩
    ·simp [Env.put, Env.of, argEnv]
    ·rw [← oz_one hn1]; simp [take_eq, spl, oz]
   rintro n vs S - ⟨k, tk, rfl, hk1, hk2, rfl, rfl⟩
   refine W.seq ?_
   refine W.seq_region fun K hK => ?_
   simp (disch := omega) only [↓RU, RV, RH, ↓reduceIte, reduceEqDiff, reduceCtorEq, if_pos, w64, ↓RS, RG, reduceAdd, reduceMul, reduceLeDiff, tyLint, tyint]
   refine hK _ _ ?_;clear hK K
   refine W.cond rfl (fun h2 => ?_) (fun h2 => ?_)
   ·try simp only [RL] at h2
    obtain ⟨c, hc⟩ : ∃ c, min k (N - k) = c := ⟨_, rfl⟩
    have hck : min c k = c := by omega
    have hcl : min c (k + (N - k)) = c := by omega
    have hkn : k < N := by omega
    refine W.skip ?_
    refine XThen.norm ?_
    refine W.block ?_
    refine W.draw_k (by kernel_rfl) fun K hK => ?_
    simp (disch := omega) only [↓RU, RV, RH, ↓reduceIte, reduceEqDiff, reduceCtorEq, if_pos, Option.map_none, w64, ↓RS, RG, reduceAdd, reduceMul, reduceLeDiff, tyLint, tyint, oz_len, hc, List.take_take, hck, hcl, List.length_take, Nat.sub_zero]
    refine hK _ _ ?_;clear hK K
    refine XBlock.norm ?_
    refine XThen.norm ?_
    refine ⟨N - (k + c), by omega, 1, k + c, tk, rfl, by omega, by omega, ?_, ?_⟩
    ·simp [Env.put, Env.of]
    ·have e := oz_more (k := k) (m := N - k) (c := c) (by omega)
     rw [show N - k - c = N - (k + c) by omega] at e
     simp only [spl, List.length_take, List.length_map, oz_len, hcl] at e
     simp only [take_eq, List.take_succ_cons, List.take_zero, e]
   ·try simp only [RL] at h2
    obtain rfl : N = k := by omega
    refine W.exit ?_
    refine XThen.exit ?_
    refine XThen.exit ?_
    refine XBlock.hit ?_
    refine XThen.norm ?_
    refine W.seq_region fun K hK => ?_
    simp (disch := omega) only [↓RU, RV, RH, ↓reduceIte, reduceEqDiff, reduceCtorEq, if_pos, ↓RS, RG, reduceAdd, reduceMul, reduceLeDiff]
    refine hK _ _ ?_;clear hK K
    refine W.ret ?_
    refine BodyQ.ret rfl ?_
    rw [Nat.sub_self, oz_all]
    have hol := ones_len (n := N)
    exact (reify_loc (k := 9) (n := N) rfl (by simp) (mapM_int _)).trans (by rw [eInts, hol])
theorem heaviest_pc {M : List (List Bool)} {ws : List Int} {nr : Nat} {rk : Nat → Nat} (hu : Up M nr rk) (hn : nr ≤ 9) (hwl : ws.length = nr) (hw : NeedOk ws) : PC Try.prog 22 [eRel M, eInts ws] (eInts (heaviest M ws nr)) true := by
 refine PN.pc (heaviest_pn hu hn hwl hw) rfl ?_
 simp only [List.map_cons, List.map_nil, upOb_arr, up_loc, up_ints, Nat.add_zero]
 exact (reify_loc (k := 9) rfl (by simp [heaviest_len]) (mapM_int _)).trans (by rw [eInts, heaviest_len])
theorem orderLong_no {p : List Txt} (hs : Sm p) (hv : plainI p = false) : PC Try.prog 6 [eStrs p] (.tup [.int .i64 0, .int .i64 0, .bool false]) true := by
 refine PC.of ⟨Try.func6, by kernel_rfl, rfl, by kernel_rfl⟩ tabOk mixed (by show 1 ≤ Try.f6.ntmps; decide) ?_
 refine W.seq_region fun K hK => ?_
 simp (disch := omega) only [↓RU, RV, RH, ↓reduceIte, reduceEqDiff, reduceCtorEq, if_pos, ↓RS, RG, reduceAdd, reduceMul, reduceLeDiff]
 refine hK _ _ ?_;clear hK K
 refine W.seq_region fun K hK => ?_
 simp (disch := omega) only [↓RU, RV, RH, ↓reduceIte, reduceEqDiff, reduceCtorEq, if_pos, List.append_nil, ↓RS, RG, reduceAdd, reduceMul, reduceLeDiff, ty0, ty2, tybool, ty12, ty14, ty22]
 refine CallR.pc (ordersOf_no hs hv) rfl (.inr rfl) ?_
 simp (disch := omega) only [↓RU, RV, RH, ↓reduceIte, reduceEqDiff, reduceCtorEq, if_pos, List.append_nil, ↓RS, RG, reduceAdd, reduceMul, reduceLeDiff, ty0, ty2, tybool, ty12, ty14, ty22]
 refine hK _ _ ?_;clear hK K
 refine W.seq ?_
 refine W.seq_region fun K hK => ?_
 simp (disch := omega) only [↓RU, RV, RH, ↓reduceIte, reduceEqDiff, reduceCtorEq, if_pos, ↓RS, RG, reduceAdd, reduceMul, reduceLeDiff]
 refine hK _ _ ?_;clear hK K
 refine W.cond rfl (fun h => ?_) (fun h => ?_)
 ·try simp only [RL] at h
  refine W.seq_region fun K hK => ?_
  simp (disch := omega) only [↓RU, RV, RH, ↓reduceIte, reduceEqDiff, reduceCtorEq, if_pos, ↓RS, RG, reduceAdd, reduceMul, reduceLeDiff]
  refine hK _ _ ?_;clear hK K
  refine W.ret ?_
  refine XThen.ret ?_
  refine BodyQ.ret rfl ?_
  rfl
 ·try simp only [RL] at h
  exact absurd h (by simp)
theorem orderLong_yes {p : List Txt} (hs : Sm p) (hv : plainI p = true) : PC Try.prog 6 [eStrs p] (.tup [.int .i64 (maxL (heaviest (lfM p) (ones (rP p).length) (rP p).length)), .int .i64 (maxL (heaviest (abM p) (ones (rP p).length) (rP p).length)), .bool true]) true := by
 have hnv := ones_need hv
 obtain ⟨u1, u2, l1, l2, l3, n1, hp⟩ := needV_all hnv
 have hlq := u1.sq.1
 obtain ⟨y0, hy0, -⟩ := get_of (show 0 < (heaviest (lfM p) (ones (rP p).length) (rP p).length).length by rw [heaviest_len]; omega)
 obtain ⟨y1, hy1, -⟩ := get_of (show 0 < (heaviest (abM p) (ones (rP p).length) (rP p).length).length by rw [heaviest_len]; omega)
 have hh0 := heaviest_len (M := lfM p) (ws := ones (rP p).length) (n := (rP p).length)
 have hh1 := heaviest_len (M := abM p) (ws := ones (rP p).length) (n := (rP p).length)
 refine PC.of ⟨Try.func6, by kernel_rfl, rfl, by kernel_rfl⟩ tabOk mixed (by show 1 ≤ Try.f6.ntmps; decide) ?_
 refine W.seq_region fun K hK => ?_
 simp (disch := omega) only [↓RU, RV, RH, ↓reduceIte, reduceEqDiff, reduceCtorEq, if_pos, ↓RS, RG, reduceAdd, reduceMul, reduceLeDiff]
 refine hK _ _ ?_;clear hK K
 refine W.seq_region fun K hK => ?_
 simp (disch := omega) only [↓RU, RV, RH, ↓reduceIte, reduceEqDiff, reduceCtorEq, if_pos, List.append_nil, ↓RS, RG, reduceAdd, reduceMul, reduceLeDiff, ty0, ty2, tybool, ty12, ty14, ty22]
 refine CallR.pc (ordersOf_yes hs hv) rfl (.inr rfl) ?_
 simp (disch := omega) only [↓RU, RV, RH, ↓reduceIte, reduceEqDiff, reduceCtorEq, if_pos, List.append_nil, ↓RS, RG, reduceAdd, reduceMul, reduceLeDiff, ty0, ty2, tybool, ty12, ty14, ty22]
 refine hK _ _ ?_;clear hK K
 refine W.seq ?_
 refine W.seq_region fun K hK => ?_
 simp (disch := omega) only [↓RU, RV, RH, ↓reduceIte, reduceEqDiff, reduceCtorEq, if_pos, ↓RS, RG, reduceAdd, reduceMul, reduceLeDiff]
 refine hK _ _ ?_;clear hK K
 refine W.cond rfl (fun h => ?_) (fun h => ?_)
 ·try simp only [RL] at h
  exact absurd h (by simp)
 ·try simp only [RL] at h
  refine W.skip ?_
  refine XThen.norm ?_
  refine W.seq_region fun K hK => ?_
  simp (disch := omega) only [↓RU, RV, RH, ↓reduceIte, reduceEqDiff, reduceCtorEq, if_pos, List.append_nil, ↓RS, RG, reduceAdd, reduceMul, reduceLeDiff, ty0, ty2, tyLint, tybool, ty12, ty14, tyint, ty22, hlq]
  refine CallR.pc (repeat_pc l2 (by omega)) rfl (.inl rfl) ?_
  simp (disch := omega) only [↓RU, RV, RH, ↓reduceIte, reduceEqDiff, reduceCtorEq, if_pos, List.append_nil, ↓RS, RG, reduceAdd, reduceMul, reduceLeDiff, ty0, ty2, tyLint, tybool, ty12, ty14, tyint, ty22, hlq]
  refine hK _ _ ?_;clear hK K
  refine W.seq_draw (by kernel_rfl) fun K hK => ?_
  simp (disch := omega) only [↓RU, RV, RH, ↓reduceIte, reduceEqDiff, reduceCtorEq, if_pos, List.append_nil, ↓RS, RG, reduceAdd, reduceMul, reduceLeDiff, ty0, ty2, tybool, ty12, ty14, ty22]
  refine CallR.pc (heaviest_pc u1 l3 l1 n1) rfl (.inl rfl) ?_
  simp (disch := omega) only [↓RU, RV, RH, ↓reduceIte, reduceEqDiff, reduceCtorEq, if_pos, List.append_nil, ↓RS, RG, reduceAdd, reduceMul, reduceLeDiff, ty0, ty2, tybool, ty12, ty14, ty22]
  refine CallR.pc (max_pc hy0 (by omega)) rfl (.inl rfl) ?_
  simp (disch := omega) only [↓RU, RV, RH, ↓reduceIte, reduceEqDiff, reduceCtorEq, if_pos, List.append_nil, ↓RS, RG, reduceAdd, reduceMul, reduceLeDiff, ty0, ty2, tybool, ty12, ty14, ty22]
  refine CallR.pc (heaviest_pc u2 l3 l1 n1) rfl (.inl rfl) ?_
  simp (disch := omega) only [↓RU, RV, RH, ↓reduceIte, reduceEqDiff, reduceCtorEq, if_pos, List.append_nil, ↓RS, RG, reduceAdd, reduceMul, reduceLeDiff, ty0, ty2, tybool, ty12, ty14, ty22]
  refine CallR.pc (max_pc hy1 (by omega)) rfl (.inl rfl) ?_
  simp (disch := omega) only [↓RU, RV, RH, ↓reduceIte, reduceEqDiff, reduceCtorEq, if_pos, List.append_nil, ↓RS, RG, reduceAdd, reduceMul, reduceLeDiff, ty0, ty2, tybool, ty12, ty14, ty22]
  refine hK _ _ ?_;clear hK K
  refine W.ret ?_
  refine BodyQ.ret rfl ?_
  rfl
theorem lg_at {out : List Int} {n : Nat} (h : out.length = n) {a : Nat} (ha : a < n) : out[a]? = some (getI out a) := by
 obtain ⟨x, hx, -⟩ := get_of (show a < out.length by omega)
 rw [hx, getI_is hx]
def LgK (n : Nat) (B : Int) (out : List Int) : Prop := out.length = n ∧ ∀ a, a < n → 0 ≤ getI out a ∧ getI out a ≤ B
theorem LgK.set {n : Nat} {B : Int} {out : List Int} (h : LgK n B out) {a : Nat} {v : Int} (ha : a < n) (h0 : 0 ≤ v) (h1 : v ≤ B) : LgK n B (out.set a v) := by
 refine ⟨by simp [h.1], fun y hy => ?_⟩
 rw [getI_set (by rw [h.1]; exact ha)]
 split
 ·exact ⟨h0, h1⟩
 ·exact h.2 y hy
theorem LgK.up {n : Nat} {B C : Int} {out : List Int} (h : LgK n B out) (hBC : B ≤ C) : LgK n C out := ⟨h.1, fun y hy => by have := h.2 y hy; omega⟩
theorem LgK.lgB {sets : List Nat} {n : Nat} {B : Int} {out : List Int} (h : LgK n B out) {a b : Nat} (ha : a < n) (hb : b < n) : LgK n (B + 1) (lgB sets a out b) := by
 unfold Fw.lgB
 have h1 := h.2 a ha; have h2 := h.2 b hb
 split
 ·exact (h.up (by omega)).set ha (by omega) (by omega)
 ·exact h.up (by omega)
theorem LgK.lgC {sets : List Nat} {n : Nat} {B : Int} {out : List Int} (h : LgK n B out) (hB : 0 ≤ B) {a : Nat} (ha : a < n) : ∀ k, k ≤ n → LgK n (B + 1 + k) (lgC sets a k out) := by
 intro k
 have h1 := h.2 a ha
 induction k with
 | zero => intro _; exact (h.up (show B ≤ B + 1 + (0 : Nat) by omega)).set ha (by omega) (by omega)
 | succ k ih =>
  intro hk
  rw [lgC_succ]
  exact ((ih (by omega)).lgB ha (show k < n by omega)).up (by omega)
theorem LgK.lgA {sets : List Nat} {n : Nat} {B : Int} {s : List Int × Int} (hn : sets.length = n) (h9 : n ≤ 9) (h : LgK n B s.1) (hB : 0 ≤ B) (hs : 0 ≤ s.2 ∧ s.2 ≤ B) : ∀ k, k ≤ n → LgK n (B + 10 * k) ((List.range k).foldl (lgA sets) s).1 ∧ 0 ≤ ((List.range k).foldl (lgA sets) s).2 ∧ ((List.range k).foldl (lgA sets) s).2 ≤ B + 10 * k := by
 intro k
 induction k with
 | zero => intro _; exact ⟨h.up (by omega), hs.1, by simpa using hs.2⟩
 | succ k ih =>
  intro hk
  obtain ⟨i1, i2, i3⟩ := ih (by omega)
  rw [foldl_rg]
  generalize (List.range k).foldl (Fw.lgA sets) s = X at i1 i2 i3 ⊢
  have c := i1.lgC (sets := sets) (by omega) (show k < n by omega) n (Nat.le_refl _)
  unfold Fw.lgA
  rw [hn]
  have c2 := c.2 k (by omega)
  exact ⟨c.up (by omega), by simp only; omega, by simp only; omega⟩
theorem LgK.lgS {sets : List Nat} {n : Nat} (hn : sets.length = n) (h9 : n ≤ 9) : ∀ k, k ≤ n → LgK n (90 * k) (lgS sets k).1 ∧ 0 ≤ (lgS sets k).2 ∧ (lgS sets k).2 ≤ 90 * k := by
 intro k
 induction k with
 | zero =>
  intro _
  refine ⟨⟨by simp [Fw.lgS, hn], fun a ha => ?_⟩, by simp [Fw.lgS], by simp [Fw.lgS]⟩
  have h1 : getI (Fw.lgS sets 0).1 a = 0 := by simp [Fw.lgS, getI, hn, ha]
  rw [h1]; omega
 | succ k ih =>
  intro hk
  obtain ⟨i1, i2, i3⟩ := ih (by omega)
  rw [lgS_succ, hn]
  obtain ⟨k1, k2, k3⟩ := i1.lgA hn h9 (by omega) ⟨i2, i3⟩ n (Nat.le_refl _)
  exact ⟨k1.up (by omega), k2, by omega⟩
theorem l5Longest_pc {ms : List Nat} {N : Nat} (hm : Msk N ms) (hn9 : N ≤ 9) : PC Try.prog 24 [eNats ms] (.int .i64 (longS ms)) true := by
 have hml := hm.1
 refine PC.of ⟨Try.func24, by kernel_rfl, rfl, by kernel_rfl⟩ tabOk mixed (by show 1 ≤ Try.f24.ntmps; decide) ?_
 refine W.seq_region fun K hK => ?_
 simp (disch := omega) only [↓RU, RV, RH, ↓reduceIte, reduceEqDiff, reduceCtorEq, if_pos, ↓RS, RG, reduceAdd, reduceMul, reduceLeDiff]
 refine hK _ _ ?_;clear hK K
 refine W.seq_region fun K hK => ?_
 simp (disch := omega) only [↓RU, RV, RH, ↓reduceIte, reduceEqDiff, reduceCtorEq, if_pos, ↓RS, RG, reduceAdd, reduceMul, reduceLeDiff, tyLint, tyint, hml, repz_int, ile_true]
 refine hK _ _ ?_;clear hK K
 refine W.seq_region fun K hK => ?_
 simp (disch := omega) only [↓RU, RV, RH, ↓reduceIte, reduceEqDiff, reduceCtorEq, if_pos, ↓RS, RG, reduceAdd, reduceMul, reduceLeDiff]
 refine hK _ _ ?_;clear hK K
 refine W.seq ?_
 refine W.seq_region fun K hK => ?_
 simp (disch := omega) only [↓RU, RV, RH, ↓reduceIte, reduceEqDiff, reduceCtorEq, if_pos, ↓RS, RG, reduceAdd, reduceMul, reduceLeDiff]
 refine hK _ _ ?_;clear hK K
 refine W.block ?_
 refine W.loop [0, 3, 4, 5] (fun n vs S => ∃ k : Nat, n = N - k ∧ k ≤ N ∧ vs = [eNats ms, .loc 0 0 0 N, .int .i64 (lgS ms k).2, .int .i64 k] ∧ S = ⟨[.arr 0 3 1 (((lgS ms k).1).map (.int .i64))], 1⟩) N ?_ ?_
 ·refine ⟨1, 0, rfl, Nat.zero_le _, ?_, ?_⟩
  ·simp [Env.put, Env.of, argEnv, lgS, hml]
  ·simp [take_eq, lgS, hml]
 rintro n vs S - ⟨k, rfl, h_k, rfl, rfl⟩
 refine W.seq ?_
 refine W.seq_region fun K hK => ?_
 simp (disch := omega) only [↓RU, RV, RH, ↓reduceIte, reduceEqDiff, reduceCtorEq, if_pos, w64, ↓RS, RG, reduceAdd, reduceMul, reduceLeDiff, tyLint, tyint]
 refine hK _ _ ?_;clear hK K
 refine W.cond rfl (fun h0 => ?_) (fun h0 => ?_)
 ·try simp only [RL] at h0
  obtain ⟨x1, x2, x3⟩ := LgK.lgS hml hn9 k h_k
  generalize hXe : lgS ms k = X at x1 x2 x3
  refine W.skip ?_
  refine XThen.norm ?_
  refine W.seq ?_
  refine W.block ?_
  refine W.seq_region fun K hK => ?_
  simp (disch := omega) only [↓RU, RV, RH, ↓reduceIte, reduceEqDiff, reduceCtorEq, if_pos, ↓RS, RG, reduceAdd, reduceMul, reduceLeDiff]
  refine hK _ _ ?_;clear hK K
  refine W.block ?_
  refine W.loop [0, 3, 4, 5, 6] (fun n vs S => ∃ a : Nat, n = N - a ∧ a ≤ N ∧ vs = [eNats ms, .loc 0 0 0 N, .int .i64 ((List.range a).foldl (lgA ms) X).2, .int .i64 k, .int .i64 a] ∧ S = ⟨[.arr 0 3 1 ((((List.range a).foldl (lgA ms) X).1).map (.int .i64))], 1⟩) N ?_ ?_
  ·refine ⟨1, 0, rfl, Nat.zero_le _, ?_, ?_⟩
   ·simp [Env.put, Env.of, hXe]
   ·simp [take_eq, hXe]
  rintro n vs S - ⟨a, rfl, h_a, rfl, rfl⟩
  refine W.seq ?_
  refine W.seq_region fun K hK => ?_
  simp (disch := omega) only [↓RU, RV, RH, ↓reduceIte, reduceEqDiff, reduceCtorEq, if_pos, w64, ↓RS, RG, reduceAdd, reduceMul, reduceLeDiff, tyLint, tyint]
  refine hK _ _ ?_;clear hK K
  refine W.cond rfl (fun h1 => ?_) (fun h1 => ?_)
  ·try simp only [RL] at h1
   obtain ⟨y1, y2, y3⟩ := LgK.lgA hml hn9 x1 (by omega) ⟨x2, x3⟩ a h_a
   generalize hYe : (List.range a).foldl (lgA ms) X = Y at y1 y2 y3
   have ya := lg_at y1.1 (show a < N by omega)
   have yb := y1.2 a (by omega)
   have yl := y1.1
   refine W.skip ?_
   refine XThen.norm ?_
   refine W.seq ?_
   refine W.block ?_
   refine W.seq_region fun K hK => ?_
   simp (disch := omega) only [↓RU, RV, RH, ↓reduceIte, reduceEqDiff, reduceCtorEq, if_pos, ite_max, ↓RS, RG, reduceAdd, reduceMul, reduceLeDiff, tyLint, tyint, ya, yl, set_spl, set_int]
   refine hK _ _ ?_;clear hK K
   refine W.seq ?_
   refine W.seq_region fun K hK => ?_
   simp (disch := omega) only [↓RU, RV, RH, ↓reduceIte, reduceEqDiff, reduceCtorEq, if_pos, ↓RS, RG, reduceAdd, reduceMul, reduceLeDiff]
   refine hK _ _ ?_;clear hK K
   refine W.block ?_
   refine W.loop [0, 3, 4, 5, 6, 7] (fun n vs S => ∃ b : Nat, n = N - b ∧ b ≤ N ∧ vs = [eNats ms, .loc 0 0 0 N, .int .i64 Y.2, .int .i64 k, .int .i64 a, .int .i64 b] ∧ S = ⟨[.arr 0 3 1 ((lgC ms a b Y.1).map (.int .i64))], 1⟩) N ?_ ?_
   ·refine ⟨1, 0, rfl, Nat.zero_le _, ?_, ?_⟩
    ·simp [Env.put, Env.of, hYe]
    ·simp [take_eq, lgC]
   rintro n vs S - ⟨b, rfl, h_b, rfl, rfl⟩
   refine W.seq ?_
   refine W.seq_region fun K hK => ?_
   simp (disch := omega) only [↓RU, RV, RH, ↓reduceIte, reduceEqDiff, reduceCtorEq, if_pos, w64, ↓RS, RG, reduceAdd, reduceMul, reduceLeDiff, tyLint, tyint]
   refine hK _ _ ?_;clear hK K
   refine W.cond rfl (fun h2 => ?_) (fun h2 => ?_)
   ·try simp only [RL] at h2
    have zz := y1.lgC (sets := ms) (by omega) (show a < N by omega) b h_b
    generalize hZe : lgC ms a b Y.1 = Z at zz
    have za := lg_at zz.1 (show a < N by omega)
    have zb := lg_at zz.1 (show b < N by omega)
    have za2 := zz.2 a (by omega)
    have zb2 := zz.2 b (by omega)
    have zl := zz.1
    obtain ⟨ma, hma, hma5⟩ := hm.at_ (show a < N by omega)
    refine W.skip ?_
    refine XThen.norm ?_
    refine W.seq ?_
    refine W.block ?_
    refine W.seq_region fun K hK => ?_
    simp (disch := omega) only [↓RU, RV, RH, ↓reduceIte, reduceEqDiff, reduceCtorEq, if_pos, w64, ↓RS, RG, reduceAdd, reduceMul, reduceLeDiff, tyLint, tyint, hma, hml, pShr, w_bit]
    refine hK _ _ ?_;clear hK K
    refine W.cond rfl (fun h3 => ?_) (fun h3 => ?_)
    ·try simp only [RL] at h3
     refine W.draw_k (by kernel_rfl) fun K hK => ?_
     simp (disch := omega) only [↓RU, RV, RH, ↓reduceIte, reduceEqDiff, reduceCtorEq, if_pos, w64, ite_max, ↓RS, RG, reduceAdd, reduceMul, reduceLeDiff, tyLint, tyint, za, zb, zl, set_spl, set_int]
     refine hK _ _ ?_;clear hK K
     refine XBlock.norm ?_
     refine XThen.norm ?_
     refine W.region_k fun K hK => ?_
     simp (disch := omega) only [↓RU, RV, RH, ↓reduceIte, reduceEqDiff, reduceCtorEq, if_pos, w64, ↓RS, RG, reduceAdd, reduceMul, reduceLeDiff, tyint]
     refine hK _ _ ?_;clear hK K
     refine XThen.norm ?_
     refine ⟨N - (b + 1), by omega, 1, b + 1, rfl, by omega, ?_, ?_⟩
     ·simp [Env.put, Env.of]
     ·simp [take_eq, lgC_succ, lgB, bitOf_is hma, h3, hZe]
    ·try simp only [RL] at h3
     refine W.skip ?_
     refine XBlock.norm ?_
     refine XThen.norm ?_
     refine W.region_k fun K hK => ?_
     simp (disch := omega) only [↓RU, RV, RH, ↓reduceIte, reduceEqDiff, reduceCtorEq, if_pos, w64, ↓RS, RG, reduceAdd, reduceMul, reduceLeDiff, tyint]
     refine hK _ _ ?_;clear hK K
     refine XThen.norm ?_
     refine ⟨N - (b + 1), by omega, 1, b + 1, rfl, by omega, ?_, ?_⟩
     ·simp [Env.put, Env.of]
     ·simp [take_eq, lgC_succ, lgB, bitOf_is hma, h3, hZe]
   ·try simp only [RL] at h2
    obtain rfl : N = b := by omega
    have zz := y1.lgC (sets := ms) (by omega) (show a < N by omega) N (Nat.le_refl _)
    generalize hZe : lgC ms a N Y.1 = Z at zz
    have za := lg_at zz.1 (show a < N by omega)
    have za2 := zz.2 a (by omega)
    have zl := zz.1
    refine W.exit ?_
    refine XThen.exit ?_
    refine XThen.exit ?_
    refine XBlock.hit ?_
    refine XThen.norm ?_
    refine W.region_k fun K hK => ?_
    simp (disch := omega) only [↓RU, RV, RH, ↓reduceIte, reduceEqDiff, reduceCtorEq, if_pos, ite_max, ↓RS, RG, reduceAdd, reduceMul, reduceLeDiff, tyLint, tyint, za, zl]
    refine hK _ _ ?_;clear hK K
    refine XBlock.norm ?_
    refine XThen.norm ?_
    refine W.region_k fun K hK => ?_
    simp (disch := omega) only [↓RU, RV, RH, ↓reduceIte, reduceEqDiff, reduceCtorEq, if_pos, w64, ↓RS, RG, reduceAdd, reduceMul, reduceLeDiff, tyint]
    refine hK _ _ ?_;clear hK K
    refine XThen.norm ?_
    refine ⟨N - (a + 1), by omega, 1, a + 1, rfl, by omega, ?_, ?_⟩
    all_goals rw [foldl_rg, hYe, lgA, hml, hZe]
    all_goals simp [Env.put, Env.of, take_eq]
  ·try simp only [RL] at h1
   obtain rfl : N = a := by omega
   refine W.exit ?_
   refine XThen.exit ?_
   refine XThen.exit ?_
   refine XBlock.hit ?_
   refine XBlock.norm ?_
   refine XThen.norm ?_
   refine W.region_k fun K hK => ?_
   simp (disch := omega) only [↓RU, RV, RH, ↓reduceIte, reduceEqDiff, reduceCtorEq, if_pos, w64, ↓RS, RG, reduceAdd, reduceMul, reduceLeDiff, tyint]
   refine hK _ _ ?_;clear hK K
   refine XThen.norm ?_
   refine ⟨N - (k + 1), by omega, 1, k + 1, rfl, by omega, ?_, ?_⟩
   all_goals rw [lgS_succ, hml, hXe]
   all_goals simp [Env.put, Env.of, take_eq]
 ·try simp only [RL] at h0
  obtain rfl : N = k := by omega
  refine W.exit ?_
  refine XThen.exit ?_
  refine XThen.exit ?_
  refine XBlock.hit ?_
  refine XThen.norm ?_
  refine W.seq_region fun K hK => ?_
  simp (disch := omega) only [↓RU, RV, RH, ↓reduceIte, reduceEqDiff, reduceCtorEq, if_pos, ↓RS, RG, reduceAdd, reduceMul, reduceLeDiff]
  refine hK _ _ ?_;clear hK K
  refine W.ret ?_
  refine BodyQ.ret rfl ?_
  unfold longS
  rw [hml]
  rfl
def longV (p : List Txt) (kind : Int) : Int := if plainB p then longS (allS p kind) else 0
theorem longV_yes {p : List Txt} (hv : plainI p = true) : longV p 0 = maxL (heaviest (lfM p) (ones (rP p).length) (rP p).length) ∧ longV p 1 = maxL (heaviest (abM p) (ones (rP p).length) (rP p).length) := by
 have h := long_plain hv
 unfold longV
 rw [plainI_is hv, if_pos rfl, if_pos rfl]; exact h
theorem longV_no {p : List Txt} {kind : Int} (hv : plainB p = false) : longV p kind = 0 := by unfold longV; rw [hv]; rfl
theorem orderLong_pc {p : List Txt} (hs : Sm p) : PC Try.prog 6 [eStrs p] (.tup [.int .i64 (longV p 0), .int .i64 (longV p 1), .bool (plainB p)]) true := by
 cases hv : plainI p with
 | false =>
  have h : plainB p = false := by rw [← plainI_plain]; exact hv
  rw [longV_no h, longV_no h, h]; exact orderLong_no hs hv
 | true =>
  rw [(longV_yes hv).1, (longV_yes hv).2, plainI_is hv]; exact orderLong_yes hs hv
theorem sOrderLong_pc {p : List Txt} (hs : Sm p) : PC Try.prog 7 [eStrs p] (.tup [.int .i64 (longV p 0), .int .i64 (longV p 1), .bool (plainB p)]) true := by
 refine PC.of ⟨Try.func7, by kernel_rfl, rfl, by kernel_rfl⟩ tabOk mixed (by show 1 ≤ Try.f7.ntmps; decide) ?_
 refine W.seq_region fun K hK => ?_
 simp (disch := omega) only [↓RU, RV, RH, ↓reduceIte, reduceEqDiff, reduceCtorEq, if_pos, ↓RS, RG, reduceAdd, reduceMul, reduceLeDiff]
 refine hK _ _ ?_;clear hK K
 refine W.seq ?_
 refine W.seq_region fun K hK => ?_
 simp (disch := omega) only [↓RU, RV, RH, ↓reduceIte, reduceEqDiff, reduceCtorEq, if_pos, List.append_nil, ↓RS, RG, reduceAdd, reduceMul, reduceLeDiff]
 refine CallR.pc (l5Plain_pc hs) rfl (.inl rfl) ?_
 simp (disch := omega) only [↓RU, RV, RH, ↓reduceIte, reduceEqDiff, reduceCtorEq, if_pos, List.append_nil, ↓RS, RG, reduceAdd, reduceMul, reduceLeDiff]
 refine hK _ _ ?_;clear hK K
 refine W.cond rfl (fun h0 => ?_) (fun h0 => ?_)
 ·try simp only [RL] at h0
  have h : plainB p = false := by simpa using h0
  refine W.seq_region fun K hK => ?_
  simp (disch := omega) only [↓RU, RV, RH, ↓reduceIte, reduceEqDiff, reduceCtorEq, if_pos, ↓RS, RG, reduceAdd, reduceMul, reduceLeDiff]
  refine hK _ _ ?_;clear hK K
  refine W.ret ?_
  refine XThen.ret ?_
  refine BodyQ.ret rfl ?_
  rw [longV_no h, longV_no h, h]
  rfl
 ·try simp only [RL] at h0
  have h : plainB p = true := by simpa using h0
  obtain ⟨k1, k20, k3, k4, -⟩ := plain_spec h
  have k2 : l1Rooms p ≤ 9 := by omega
  have m0 := allS_msk k1 k2 0
  have m1 := allS_msk k1 k2 1
  refine W.skip ?_
  refine XThen.norm ?_
  refine W.seq_region fun K hK => ?_
  simp (disch := omega) only [↓RU, RV, RH, ↓reduceIte, reduceEqDiff, reduceCtorEq, if_pos, List.append_nil, ↓RS, RG, reduceAdd, reduceMul, reduceLeDiff]
  refine CallR.pc (l5All_pc hs k1 k2 0) rfl (.inl rfl) ?_
  simp (disch := omega) only [↓RU, RV, RH, ↓reduceIte, reduceEqDiff, reduceCtorEq, if_pos, List.append_nil, ↓RS, RG, reduceAdd, reduceMul, reduceLeDiff]
  refine CallR.pc (l5Longest_pc m0 (by omega)) rfl (.inl rfl) ?_
  simp (disch := omega) only [↓RU, RV, RH, ↓reduceIte, reduceEqDiff, reduceCtorEq, if_pos, List.append_nil, ↓RS, RG, reduceAdd, reduceMul, reduceLeDiff]
  refine CallR.pc (l5All_pc hs k1 k2 1) rfl (.inl rfl) ?_
  simp (disch := omega) only [↓RU, RV, RH, ↓reduceIte, reduceEqDiff, reduceCtorEq, if_pos, List.append_nil, ↓RS, RG, reduceAdd, reduceMul, reduceLeDiff]
  refine CallR.pc (l5Longest_pc m1 (by omega)) rfl (.inl rfl) ?_
  simp (disch := omega) only [↓RU, RV, RH, ↓reduceIte, reduceEqDiff, reduceCtorEq, if_pos, List.append_nil, ↓RS, RG, reduceAdd, reduceMul, reduceLeDiff]
  refine hK _ _ ?_;clear hK K
  refine W.ret ?_
  refine BodyQ.ret rfl ?_
  rw [longV, longV, h, if_pos rfl, if_pos rfl]
  rfl
theorem orderLong_law {code : Txt} (hcode : code.length ≤ 9223372036854775807) : PC Try.prog 3 [eBy code] (.bool true) true := by
 refine PC.of ⟨Try.func3, by kernel_rfl, rfl, by kernel_rfl⟩ tabOk mixed (by show 1 ≤ Try.f3.ntmps; decide) ?_
 refine W.seq_region fun K hK => ?_
 simp (disch := omega) only [↓RU, RV, RH, ↓reduceIte, reduceEqDiff, reduceCtorEq, if_pos, ↓RS, RG, reduceAdd, reduceMul, reduceLeDiff]
 refine hK _ _ ?_;clear hK K
 refine W.seq ?_
 refine W.seq_region fun K hK => ?_
 simp (disch := omega) only [↓RU, RV, RH, ↓reduceIte, reduceEqDiff, reduceCtorEq, if_pos, w64, ↓RS, RG, reduceAdd, reduceMul, reduceLeDiff, ty6, tyint, ty26]
 refine hK _ _ ?_;clear hK K
 refine W.cond rfl (fun h0 => ?_) (fun h0 => ?_)
 ·try simp only [RL] at h0
  refine W.seq_region fun K hK => ?_
  simp (disch := omega) only [↓RU, RV, RH, ↓reduceIte, reduceEqDiff, reduceCtorEq, if_pos, ↓RS, RG, reduceAdd, reduceMul, reduceLeDiff]
  refine hK _ _ ?_;clear hK K
  refine W.ret ?_
  refine XThen.ret ?_
  refine BodyQ.ret rfl ?_
  rfl
 ·try simp only [RL] at h0
  have hcl : code.length ≤ 1048576 := by omega
  refine W.skip ?_
  refine XThen.norm ?_
  refine W.seq_region fun K hK => ?_
  simp (disch := omega) only [↓RU, RV, RH, ↓reduceIte, reduceEqDiff, reduceCtorEq, if_pos, List.append_nil, ↓RS, RG, reduceAdd, reduceMul, reduceLeDiff]
  refine CallR.ev (drawOrderLong_ev hcl) ?_
  rintro _ _ ⟨p, t, hs, rfl, rfl⟩
  simp (disch := omega) only [↓RU, RV, RH, ↓reduceIte, reduceEqDiff, reduceCtorEq, if_pos, List.append_nil, ↓RS, RG, reduceAdd, reduceMul, reduceLeDiff]
  refine hK _ _ ?_;clear hK K
  have hI : plainB p = plainI p := plainI_plain.symm
  refine W.seq_region fun K hK => ?_
  simp (disch := omega) only [↓RU, RV, RH, ↓reduceIte, reduceEqDiff, reduceCtorEq, if_pos, List.append_nil, ↓RS, RG, reduceAdd, reduceMul, reduceLeDiff]
  refine CallR.pc (orderLong_pc hs) rfl (.inl rfl) ?_
  simp (disch := omega) only [↓RU, RV, RH, ↓reduceIte, reduceEqDiff, reduceCtorEq, if_pos, List.append_nil, ↓RS, RG, reduceAdd, reduceMul, reduceLeDiff]
  refine hK _ _ ?_;clear hK K
  refine W.seq_region fun K hK => ?_
  simp (disch := omega) only [↓RU, RV, RH, ↓reduceIte, reduceEqDiff, reduceCtorEq, if_pos, List.append_nil, ↓RS, RG, reduceAdd, reduceMul, reduceLeDiff]
  refine CallR.pc (sOrderLong_pc hs) rfl (.inl rfl) ?_
  simp (disch := omega) only [↓RU, RV, RH, ↓reduceIte, reduceEqDiff, reduceCtorEq, if_pos, List.append_nil, ↓RS, RG, reduceAdd, reduceMul, reduceLeDiff]
  refine hK _ _ ?_;clear hK K
  refine W.seq ?_
  refine W.seq_region fun K hK => ?_
  cases hv : plainI p
  ·skip
   rw [hv] at hI
   simp (disch := omega) only [↓RU, RV, RH, ↓reduceIte, reduceEqDiff, reduceCtorEq, if_pos, w64, ↓RS, RG, reduceAdd, reduceMul, reduceLeDiff, tybool, tyint, pEq_bb, Option.map_some, bne_self_eq_false, beq_self_eq_true, Bool.not_true, Bool.not_false, decide_true, hI]
   refine hK _ _ ?_;clear hK K
   refine W.cond rfl (fun h1 => ?_) (fun h1 => ?_)
   ·try simp only [RL] at h1
    refine W.seq_region fun K hK => ?_
    simp (disch := omega) only [↓RU, RV, RH, ↓reduceIte, reduceEqDiff, reduceCtorEq, if_pos, w64, ↓RS, RG, reduceAdd, reduceMul, reduceLeDiff, tybool, tyint, pEq_bb, Option.map_some, bne_self_eq_false, beq_self_eq_true, Bool.not_true, Bool.not_false, decide_true]
    refine hK _ _ ?_;clear hK K
    refine W.ret ?_
    refine XThen.ret ?_
    refine BodyQ.ret rfl ?_
    rfl
   ·try simp only [RL] at h1
    exact absurd h1 (by simp)
  ·skip
   rw [hv] at hI
   simp (disch := omega) only [↓RU, RV, RH, ↓reduceIte, reduceEqDiff, reduceCtorEq, if_pos, w64, ↓RS, RG, reduceAdd, reduceMul, reduceLeDiff, tybool, tyint, pEq_bb, Option.map_some, bne_self_eq_false, beq_self_eq_true, Bool.not_true, Bool.not_false, decide_true, hI]
   refine hK _ _ ?_;clear hK K
   refine W.cond rfl (fun h1 => ?_) (fun h1 => ?_)
   ·try simp only [RL] at h1
    exact absurd h1 (by simp)
   ·try simp only [RL] at h1
    have hp := plainI_is hv
    have hf : floorI p = true := by rw [floorI_plan]; exact plain_plan hp
    obtain ⟨f1, f2, f3, f4, f5⟩ := long_facts hv
    have e1 := (longV_yes hv).1
    have e2 := (longV_yes hv).2
    have sb := size_bound (ones_need hv)
    unfold ones at e1 e2
    rw [← e1, ← e2] at f5
    rw [← e1] at f1 f3 sb
    rw [← e2] at f2 f4 sb
    obtain ⟨r0, hr0, -⟩ := get_of (show 0 < p.length by have := (grid_small (planB_grid (plain_plan hp))).1; omega)
    have hd0 := hdRow_of hr0
    rw [hd0] at f3
    have m1 := Int.mul_nonneg (show 0 ≤ longV p 0 by omega) (show 0 ≤ longV p 1 by omega)
    have m2 := Int.mul_le_mul sb.2.1 sb.2.2.2 (show 0 ≤ longV p 1 by omega) (show (0 : Int) ≤ 909 by omega)
    have g1 : decide (longV p 0 ≥ 1) = true := decide_eq_true f1
    have g2 : decide (longV p 1 ≥ 1) = true := decide_eq_true f2
    have g3 : decide (longV p 0 ≤ (r0.length : Int)) = true := decide_eq_true f3
    have g4 : decide (longV p 1 ≤ (p.length : Int)) = true := decide_eq_true f4
    have g5 : decide (longV p 0 * longV p 1 ≥ ((rP p).length : Int)) = true := decide_eq_true f5
    refine W.skip ?_
    refine XThen.norm ?_
    refine W.seq_region fun K hK => ?_
    simp (disch := omega) only [↓RU, RV, RH, ↓reduceIte, reduceEqDiff, reduceCtorEq, if_pos, List.append_nil, ↓RS, RG, reduceAdd, reduceMul, reduceLeDiff]
    refine CallR.pc (planRooms_pc hs hf) rfl (.inl rfl) ?_
    simp (disch := omega) only [↓RU, RV, RH, ↓reduceIte, reduceEqDiff, reduceCtorEq, if_pos, List.append_nil, ↓RS, RG, reduceAdd, reduceMul, reduceLeDiff]
    refine hK _ _ ?_;clear hK K
    refine W.seq_region fun K hK => ?_
    simp (disch := omega) only [↓RU, RV, RH, ↓reduceIte, reduceEqDiff, reduceCtorEq, if_pos, w64, ↓RS, RG, reduceAdd, reduceMul, reduceLeDiff, ty5, tyint, tystring, hr0, Int.toNat_zero, Nat.zero_mul, Int.reduceToNat, g1, g2, g3, g4, g5]
    refine hK _ _ ?_;clear hK K
    refine W.ret ?_
    refine BodyQ.ret rfl ?_
    rfl
end Fw
end Go.Proofs.Ytclmfemhboogpaa
namespace Go.Proofs.Ytclmfemhboogpaa
open Go Go.ChangeShapes Go.WideShapes Go.ChangeAt Go.RowKit Fw
theorem Try.ownRy : ownKnob Try.prog.godebug = none := by kernel_rfl
theorem Try.laidOutRy : laidOutB Try.prog = true := by kernel_rfl
set_option maxRecDepth 100000 in
theorem ry_lifted (os : Os) (started : os.Started) (H : Type) (enc : TypeId × Value → H) :
  ReturnsInHanded {} Try.checked os 3 .any (Rows.fnOrderLongSpec.pre6 enc Try.prog Try.f3 Rows.fnOrderLongRow.domain false) (Rows.fnOrderLongSpec.post enc Try.prog Try.f3 false true false false) := by
 refine returnsInHanded_of_change (C := Try.checked) Try.ownRy started (by kernel_rfl) Try.func3
  (ChangeSpec.witness6 (enc := enc) (C := Try.checked) false ⟨#[], #[.slice none 0 0], []⟩ 8 (by kernel_rfl) (by kernel_rfl) (by kernel_rfl) (by kernel_rfl)) ?_
 intro W base args ds gs before hval0 hW hcnd _
 have hval : ∀ (j : Nat) t v, Try.f3.params[j]? = some t → args[j]? = some v → Value.okWide Try.prog W .any base t v := hval0
 have hW' := hW
 obtain ⟨p, q, hA0, hV, rfl, hfz, hnd⟩ := hW
 have hA : DataW.TrodAll enc Try.prog W 0 (fun _ => true) true Try.f3.params.toList args.toList ds p := hA0
 rw [Try.params3] at hA hval
 obtain ⟨v0, d0, rfl, rfl, h0⟩ := trodAll_one hA
 obtain ⟨rfl, rfl⟩ := trodVars_none hV
 obtain ⟨l0, i0, b0⟩ := vi_bytes (hval 0 _ v0 rfl rfl) h0
 have hlt : ∀ x ∈ p, x.block < W.heap.size := fun x hx => hW'.lt x (by simp [hx])
 refine ((orderLong_law b0).run (fun b => b < W.heap.size) W #[v0] (fun _ h => h) rfl ?_).mono ?_
 ·rintro (_ | i) p c hp hc
  ·cases hp; cases hc; exact i0
  ·simp at hp
 ·rintro e W' ⟨cv, rfl, hB, hr⟩
  have hcv : cv = .bool true := by cases hr; rfl
  subst hcv
  have t0 := Below.trod Try.laidOutRy (by kernel_rfl) (of_decide_eq_true (by kernel_rfl)) h0 hB fun x hx => hlt x (by simp [hx])
  refine ⟨_, rfl, _, _, _, [], p, [], hW', ?_, ?_, ?_, hB.frame _, fun h => by cases h⟩
  ·exact trodAll_mk1 (shut_bool Try.underlying4 true)
  ·rw [Try.params3]; exact trodAll_mk1 t0
  ·trivial
theorem ry_holds : Rows.FnOrderLongSaid :=
 OpenClaim.holds_of_wide 3 Try.f3 rfl rfl rfl rfl rfl rfl rfl ⟨rfl, rfl, rfl, rfl, rfl⟩ rfl rfl rfl rfl rfl (by kernel_rfl) Try.func3 (by kernel_rfl)
  (of_decide_eq_true (by kernel_rfl)) (by unfold Func.isWrapper; first | (rw [if_pos (by decide +kernel)]; kernel_rfl) | (rw [if_neg (by decide +kernel)]; exact ⟨rfl, rfl⟩))
  (fun os started H enc _ => ry_lifted os started H enc)
end Go.Proofs.Ytclmfemhboogpaa
