/- Parts of the framework and of the proof: Points where rooms meet, gone through; Walls, gone through; Walls and their sides, gone through; The sides of a wall, gone through; Upright walls, gone through; All walls; sets of rooms, gone through; Sizes, gone through; the small functions of the statements; strings.Builder: copyCheck and String, in the model's own words; Small functions of the program and of the library, gone through; Walls of the program, gone through; Compact and the sides of walls of the program, gone through; Relations, gone through. -/
import Derived.Test.YtmhcknpjgikgmaaJ2
import Derived.Lib.Builder
import Derived.Lib.UnsafeStr
import Derived.Lib.Walk
import Derived.WalkKit
import Derived.Laws.Externs
set_option linter.all false
/-! Points where rooms meet, gone through. -/
namespace Go.Proofs.Ytmhcknpjgikgmaa
namespace Fw
open Go

theorem l2Meets_pc {p : List Txt} (hs : Sm p) {i k : Nat} {r1 r2 : Txt} {a b c d : UInt8} (hi : 1 ≤ i) (hk : 1 ≤ k) (h1 : p[i - 1]? = some r1) (h2 : p[i]? = some r2) (ha : r1[k - 1]? = some a) (hb : r1[k]? = some b) (hc : r2[k - 1]? = some c) (hd : r2[k]? = some d) : PC Try.prog 132 [eStrs p, .int .i64 i, .int .i64 k] (.int .i64 (distTo [a, b, c, d] 4)) true := by
  have l1 := len_of h1
  have l2 := len_of h2
  have l3 := len_of ha
  have l4 := len_of hb
  have l5 := len_of hc
  have l6 := len_of hd
  have hp := hs.rows
  have hq := hs.cols r1 (List.mem_of_getElem? h1)
  generalize hcs : [a, b, c, d] = cs
  have hcl : cs.length = 4 := by rw [← hcs]; rfl
  refine PC.of ⟨Try.func132, by kernel_rfl, rfl, by kernel_rfl⟩ tabOk mixed (by show 3 ≤ Try.f132.ntmps; decide) ?_
  refine W.seq_region fun K hK => ?_
  simp (disch := omega) only [↓RU, RV, RH, ↓reduceIte, Nat.reduceEqDiff, reduceCtorEq, if_pos, ↓RS, RG, Nat.reduceAdd, Nat.reduceMul, Nat.reduceLeDiff]
  refine hK _ _ ?_
  clear hK K
  refine W.seq_draw (by kernel_rfl) fun K hK => ?_
  simp (disch := omega) only [↓RU, RV, RH, ↓reduceIte, Nat.reduceEqDiff, reduceCtorEq, if_pos, w64, ↓RS, RG, Nat.reduceAdd, Nat.reduceMul, Nat.reduceLeDiff, tyLstring, tyLuint8, tyint, tystring, tyuint8, h1, h2, ha, hb, hc, hd, toNat_pred]
  refine hK _ _ ?_
  clear hK K
  refine W.seq_region fun K hK => ?_
  simp (disch := omega) only [↓RU, RV, RH, ↓reduceIte, Nat.reduceEqDiff, reduceCtorEq, if_pos, ↓RS, RG, Nat.reduceAdd, Nat.reduceMul, Nat.reduceLeDiff]
  refine hK _ _ ?_
  clear hK K
  refine W.seq ?_
  refine W.seq_region fun K hK => ?_
  simp (disch := omega) only [↓RU, RV, RH, ↓reduceIte, Nat.reduceEqDiff, reduceCtorEq, if_pos, ↓RS, RG, Nat.reduceAdd, Nat.reduceMul, Nat.reduceLeDiff]
  refine hK _ _ ?_
  clear hK K
  refine W.block ?_
  refine W.loop [7, 8, 9] (fun n vs S => ∃ x : Nat, n = 4 - x ∧ x ≤ 4 ∧ vs = [.loc 0 0 0 4, .int .i64 (distTo cs x), .int .i64 x] ∧ S = ⟨[.arr 0 5 1 (cs.map eB)], 1⟩) (4) ?_ ?_
  · refine ⟨1, 0, rfl, Nat.zero_le _, ?_, by rw [← hcs]; rfl⟩
    simp [Env.put, Env.of, argEnv, distTo]
  rintro n vs S - ⟨x, rfl, h_x, rfl, rfl⟩
  refine W.seq ?_
  refine W.seq_region fun K hK => ?_
  simp (disch := omega) only [↓RU, RV, RH, ↓reduceIte, Nat.reduceEqDiff, reduceCtorEq, if_pos, w64, ↓RS, RG, Nat.reduceAdd, Nat.reduceMul, Nat.reduceLeDiff, tyint]
  refine hK _ _ ?_
  clear hK K
  refine W.cond rfl (fun h3 => ?_) (fun h3 => ?_)
  · try simp only [RL] at h3
    obtain ⟨cx, hcx, -⟩ := get_of (show x < cs.length by omega)
    have hdb := distTo_bound cs x
    refine W.skip ?_
    refine XThen.norm ?_
    refine W.seq ?_
    refine W.block ?_
    refine W.seq_region fun K hK => ?_
    simp (disch := omega) only [↓RU, RV, RH, ↓reduceIte, Nat.reduceEqDiff, reduceCtorEq, if_pos, ↓RS, RG, Nat.reduceAdd, Nat.reduceMul, Nat.reduceLeDiff]
    refine hK _ _ ?_
    clear hK K
    refine W.seq ?_
    refine W.seq_region fun K hK => ?_
    simp (disch := omega) only [↓RU, RV, RH, ↓reduceIte, Nat.reduceEqDiff, reduceCtorEq, if_pos, ↓RS, RG, Nat.reduceAdd, Nat.reduceMul, Nat.reduceLeDiff]
    refine hK _ _ ?_
    clear hK K
    refine W.block ?_
    refine W.loop [7, 8, 9, 10, 11] (fun n vs S => ∃ y : Nat, n = x - y ∧ y ≤ x ∧ vs = [.loc 0 0 0 4, .int .i64 (distTo cs x), .int .i64 x, .bool (newTo cs cx y), .int .i64 y] ∧ S = ⟨[.arr 0 5 1 (cs.map eB)], 1⟩) (x) ?_ ?_
    · refine ⟨1, 0, rfl, Nat.zero_le _, ?_, rfl⟩
      simp [Env.put, Env.of, argEnv, newTo]
    rintro n vs S - ⟨y, rfl, h_y, rfl, rfl⟩
    refine W.seq ?_
    refine W.seq_region fun K hK => ?_
    simp (disch := omega) only [↓RU, RV, RH, ↓reduceIte, Nat.reduceEqDiff, reduceCtorEq, if_pos, w64, ↓RS, RG, Nat.reduceAdd, Nat.reduceMul, Nat.reduceLeDiff, tyint]
    refine hK _ _ ?_
    clear hK K
    refine W.cond rfl (fun h4 => ?_) (fun h4 => ?_)
    · try simp only [RL] at h4
      obtain ⟨cy, hcy, -⟩ := get_of (show y < cs.length by omega)
      refine W.skip ?_
      refine XThen.norm ?_
      refine W.seq ?_
      refine W.block ?_
      refine W.draw_k (by kernel_rfl) fun K hK => ?_
      cases hf : newTo cs cx y
      · skip
        simp (disch := omega) only [↓RU, RV, RH, ↓reduceIte, Nat.reduceEqDiff, reduceCtorEq, if_pos, w64, ↓RS, RG, Nat.reduceAdd, Nat.reduceMul, Nat.reduceLeDiff, tyLuint8, tyuint8, hcx, hcy, hcl, hf]
        refine hK _ _ ?_
        clear hK K
        refine XBlock.norm ?_
        refine XThen.norm ?_
        refine W.region_k fun K hK => ?_
        simp (disch := omega) only [↓RU, RV, RH, ↓reduceIte, Nat.reduceEqDiff, reduceCtorEq, if_pos, w64, ↓RS, RG, Nat.reduceAdd, Nat.reduceMul, Nat.reduceLeDiff, tyint]
        refine hK _ _ ?_
        clear hK K
        refine XThen.norm ?_
        refine ⟨x - (y + 1), by omega, 1, y + 1, rfl, by omega, ?_, rfl⟩
        rw [newTo_succ hcy, hf]
        simp [Env.put, Env.of]
      · skip
        simp (disch := omega) only [↓RU, RV, RH, ↓reduceIte, Nat.reduceEqDiff, reduceCtorEq, if_pos, w64, ↓RS, RG, Nat.reduceAdd, Nat.reduceMul, Nat.reduceLeDiff, tyLuint8, tyuint8, hcx, hcy, hcl, hf, bne_u8]
        refine hK _ _ ?_
        clear hK K
        refine XBlock.norm ?_
        refine XThen.norm ?_
        refine W.region_k fun K hK => ?_
        simp (disch := omega) only [↓RU, RV, RH, ↓reduceIte, Nat.reduceEqDiff, reduceCtorEq, if_pos, w64, ↓RS, RG, Nat.reduceAdd, Nat.reduceMul, Nat.reduceLeDiff, tyint]
        refine hK _ _ ?_
        clear hK K
        refine XThen.norm ?_
        refine ⟨x - (y + 1), by omega, 1, y + 1, rfl, by omega, ?_, rfl⟩
        rw [newTo_succ hcy, hf]
        simp [Env.put, Env.of]
    · try simp only [RL] at h4
      refine W.exit ?_
      refine XThen.exit ?_
      refine XThen.exit ?_
      refine XBlock.hit ?_
      refine XThen.norm ?_
      refine W.seq_region fun K hK => ?_
      simp (disch := omega) only [↓RU, RV, RH, ↓reduceIte, Nat.reduceEqDiff, reduceCtorEq, if_pos, ↓RS, RG, Nat.reduceAdd, Nat.reduceMul, Nat.reduceLeDiff]
      refine hK _ _ ?_
      clear hK K
      refine W.cond rfl (fun h6 => ?_) (fun h6 => ?_)
      · try simp only [RL] at h6
        refine W.region_k fun K hK => ?_
        simp (disch := omega) only [↓RU, RV, RH, ↓reduceIte, Nat.reduceEqDiff, reduceCtorEq, if_pos, w64, ↓RS, RG, Nat.reduceAdd, Nat.reduceMul, Nat.reduceLeDiff, tyint]
        refine hK _ _ ?_
        clear hK K
        refine XBlock.norm ?_
        refine XThen.norm ?_
        refine W.region_k fun K hK => ?_
        simp (disch := omega) only [↓RU, RV, RH, ↓reduceIte, Nat.reduceEqDiff, reduceCtorEq, if_pos, w64, ↓RS, RG, Nat.reduceAdd, Nat.reduceMul, Nat.reduceLeDiff, tyint]
        refine hK _ _ ?_
        clear hK K
        refine XThen.norm ?_
        refine ⟨4 - (x + 1), by omega, 1, x + 1, rfl, by omega, ?_, rfl⟩
        rw [distTo, newAt_is hcx, show x = y by omega]
        simp [Env.put, Env.of, h6]
      · try simp only [RL] at h6
        refine W.skip ?_
        refine XBlock.norm ?_
        refine XThen.norm ?_
        refine W.region_k fun K hK => ?_
        simp (disch := omega) only [↓RU, RV, RH, ↓reduceIte, Nat.reduceEqDiff, reduceCtorEq, if_pos, w64, ↓RS, RG, Nat.reduceAdd, Nat.reduceMul, Nat.reduceLeDiff, tyint]
        refine hK _ _ ?_
        clear hK K
        refine XThen.norm ?_
        refine ⟨4 - (x + 1), by omega, 1, x + 1, rfl, by omega, ?_, rfl⟩
        rw [distTo, newAt_is hcx, show x = y by omega]
        simp [Env.put, Env.of, h6]
  · try simp only [RL] at h3
    refine W.exit ?_
    refine XThen.exit ?_
    refine XThen.exit ?_
    refine XBlock.hit ?_
    refine XThen.norm ?_
    refine W.seq_region fun K hK => ?_
    simp (disch := omega) only [↓RU, RV, RH, ↓reduceIte, Nat.reduceEqDiff, reduceCtorEq, if_pos, ↓RS, RG, Nat.reduceAdd, Nat.reduceMul, Nat.reduceLeDiff]
    refine hK _ _ ?_
    clear hK K
    refine W.ret ?_
    refine BodyQ.ret rfl ?_
    have hx4 : x = 4 := by omega
    rw [hx4]
    rfl

theorem l2Points_pc {p : List Txt} (hs : Sm p) (hg : gridB p = true) (many : Int) : PC Try.prog 112 [eStrs p, .int .i64 many] (.int .i64 (points p many)) true := by
  have hp := hs.rows
  have hsm := grid_small hg
  obtain ⟨row0, hrow0, hrm0⟩ := get_of hsm.1
  have hhd := hdRow_of hrow0
  have hw6 := hsm.2.2 row0 hrm0
  refine PC.of ⟨Try.func112, by kernel_rfl, rfl, by kernel_rfl⟩ tabOk mixed (by show 2 ≤ Try.f112.ntmps; decide) ?_
  refine W.seq_region fun K hK => ?_
  simp (disch := omega) only [↓RU, RV, RH, ↓reduceIte, Nat.reduceEqDiff, reduceCtorEq, if_pos]
  refine hK _ _ ?_
  clear hK K
  refine W.seq_region fun K hK => ?_
  simp (disch := omega) only [↓RU, RV, RH, ↓reduceIte, Nat.reduceEqDiff, reduceCtorEq, if_pos]
  refine hK _ _ ?_
  clear hK K
  refine W.seq ?_
  refine W.seq_region fun K hK => ?_
  simp (disch := omega) only [↓RU, RV, RH, ↓reduceIte, Nat.reduceEqDiff, reduceCtorEq, if_pos]
  refine hK _ _ ?_
  clear hK K
  refine W.block ?_
  refine W.loop [0, 1, 5, 6] (fun n vs S => ∃ i : Nat, n = p.length - i ∧ i ≤ p.length ∧ (1 ≤ i) ∧ vs = [eStrs p, .int .i64 many, .int .i64 (ptsTo p many row0.length i), .int .i64 i] ∧ S = ⟨[], 0⟩) (p.length - 1) ?_ ?_
  · refine ⟨0, 1, rfl, by omega, Nat.le_refl _, ?_, rfl⟩
    simp [Env.put, Env.of, argEnv, ptsTo]
  rintro n vs S - ⟨i, rfl, h_i, h1i, rfl, rfl⟩
  refine W.seq ?_
  refine W.seq_region fun K hK => ?_
  simp (disch := omega) only [↓RU, RV, RH, ↓reduceIte, Nat.reduceEqDiff, reduceCtorEq, if_pos, w64, tyLstring, tyint, tystring]
  refine hK _ _ ?_
  clear hK K
  refine W.cond rfl (fun h => ?_) (fun h => ?_)
  · try simp only [RL] at h
    obtain ⟨r1, hr1, hm1⟩ := get_of (show i - 1 < p.length by omega)
    obtain ⟨r2, hr2, hm2⟩ := get_of (show i < p.length by omega)
    have hl1 := grid_row hg hr1
    have hl2 := grid_row hg hr2
    rw [hhd] at hl1 hl2
    have hb1 := ptsTo_bound p many hw6 i
    have hw1 := (row_pos hg hrow0)
    refine W.skip ?_
    refine XThen.norm ?_
    refine W.seq ?_
    refine W.block ?_
    refine W.seq_region fun K hK => ?_
    simp (disch := omega) only [↓RU, RV, RH, ↓reduceIte, Nat.reduceEqDiff, reduceCtorEq, if_pos]
    refine hK _ _ ?_
    clear hK K
    refine W.block ?_
    refine W.loop [0, 1, 5, 6, 7] (fun n vs S => ∃ k : Nat, n = row0.length - k ∧ k ≤ row0.length ∧ (1 ≤ k) ∧ vs = [eStrs p, .int .i64 many, .int .i64 (ptsTo p many row0.length i + ptsRow p many i k), .int .i64 i, .int .i64 k] ∧ S = ⟨[], 0⟩) (row0.length - 1) ?_ ?_
    · refine ⟨0, 1, rfl, by omega, Nat.le_refl _, ?_, rfl⟩
      simp [Env.put, Env.of, argEnv, ptsRow]
    rintro n vs S - ⟨k, rfl, h_k, h1k, rfl, rfl⟩
    refine W.seq ?_
    refine W.seq_region fun K hK => ?_
    simp (disch := omega) only [↓RU, RV, RH, ↓reduceIte, Nat.reduceEqDiff, reduceCtorEq, if_pos, w64, tyLstring, tyint, tystring, hrow0, Int.toNat_zero, Nat.zero_mul, Int.reduceToNat]
    refine hK _ _ ?_
    clear hK K
    refine W.cond rfl (fun h1 => ?_) (fun h1 => ?_)
    · try simp only [RL] at h1
      obtain ⟨a, ha, -⟩ := get_of (show k - 1 < r1.length by omega)
      obtain ⟨b, hb, -⟩ := get_of (show k < r1.length by omega)
      obtain ⟨c, hc, -⟩ := get_of (show k - 1 < r2.length by omega)
      obtain ⟨d, hd, -⟩ := get_of (show k < r2.length by omega)
      have hmt : meetsAt p i k = distTo [a, b, c, d] 4 := by simp [meetsAt, hr1, hr2, ha, hb, hc, hd]
      have hb2 := ptsRow_bound p many i k
      refine W.skip ?_
      refine XThen.norm ?_
      refine W.seq ?_
      refine W.block ?_
      refine W.seq_region fun K hK => ?_
      simp (disch := omega) only [↓RU, RV, RH, ↓reduceIte, Nat.reduceEqDiff, reduceCtorEq, if_pos, List.append_nil, w64, tyint]
      refine CallR.pc (l2Meets_pc hs h1i h1k hr1 hr2 ha hb hc hd) rfl (.inl rfl) ?_
      simp (disch := omega) only [↓RU, RV, RH, ↓reduceIte, Nat.reduceEqDiff, reduceCtorEq, if_pos, List.append_nil, w64, tyint]
      refine hK _ _ ?_
      clear hK K
      refine W.cond rfl (fun h2 => ?_) (fun h2 => ?_)
      · try simp only [RL] at h2
        refine W.region_k fun K hK => ?_
        simp (disch := omega) only [↓RU, RV, RH, ↓reduceIte, Nat.reduceEqDiff, reduceCtorEq, if_pos, w64, tyint]
        refine hK _ _ ?_
        clear hK K
        refine XBlock.norm ?_
        refine XThen.norm ?_
        refine W.region_k fun K hK => ?_
        simp (disch := omega) only [↓RU, RV, RH, ↓reduceIte, Nat.reduceEqDiff, reduceCtorEq, if_pos, w64, tyint]
        refine hK _ _ ?_
        clear hK K
        refine XThen.norm ?_
        refine ⟨row0.length - (k + 1), by omega, 0, k + 1, rfl, by omega, by omega, ?_, rfl⟩
        rw [ptsRow]
        simp [Env.put, Env.of, hmt, h2, h1k, Int.add_assoc]
      · try simp only [RL] at h2
        refine W.skip ?_
        refine XBlock.norm ?_
        refine XThen.norm ?_
        refine W.region_k fun K hK => ?_
        simp (disch := omega) only [↓RU, RV, RH, ↓reduceIte, Nat.reduceEqDiff, reduceCtorEq, if_pos, w64, tyint]
        refine hK _ _ ?_
        clear hK K
        refine XThen.norm ?_
        refine ⟨row0.length - (k + 1), by omega, 0, k + 1, rfl, by omega, by omega, ?_, rfl⟩
        rw [ptsRow]
        simp [Env.put, Env.of, hmt, h2, h1k, Int.add_assoc]
    · try simp only [RL] at h1
      refine W.exit ?_
      refine XThen.exit ?_
      refine XThen.exit ?_
      refine XBlock.hit ?_
      refine XBlock.norm ?_
      refine XThen.norm ?_
      refine W.region_k fun K hK => ?_
      simp (disch := omega) only [↓RU, RV, RH, ↓reduceIte, Nat.reduceEqDiff, reduceCtorEq, if_pos, w64, tyint]
      refine hK _ _ ?_
      clear hK K
      refine XThen.norm ?_
      refine ⟨p.length - (i + 1), by omega, 0, i + 1, rfl, by omega, by omega, ?_, rfl⟩
      rw [ptsTo, if_pos h1i]
      simp [Env.put, Env.of, show row0.length = k by omega]
  · try simp only [RL] at h
    refine W.exit ?_
    refine XThen.exit ?_
    refine XThen.exit ?_
    refine XBlock.hit ?_
    refine XThen.norm ?_
    refine W.seq_region fun K hK => ?_
    simp (disch := omega) only [↓RU, RV, RH, ↓reduceIte, Nat.reduceEqDiff, reduceCtorEq, if_pos]
    refine hK _ _ ?_
    clear hK K
    refine W.ret ?_
    refine BodyQ.ret rfl ?_
    have hip : i = p.length := by omega
    rw [points, hhd, ← hip]
    rfl

theorem sWallPlain_pc {p : List Txt} (hs : Sm p) : PC Try.prog 93 [eStrs p] (.bool (plainB p)) true := by
  refine PC.of ⟨Try.func93, by kernel_rfl, rfl, by kernel_rfl⟩ tabOk mixed (by show 1 ≤ Try.f93.ntmps; decide) ?_
  refine W.seq_region fun K hK => ?_
  simp (disch := omega) only [↓RU, RV, RH, ↓reduceIte, Nat.reduceEqDiff, reduceCtorEq, if_pos]
  refine hK _ _ ?_
  clear hK K
  refine W.seq_region fun K hK => ?_
  cases hg : planB p
  · skip
    simp (disch := omega) only [↓RU, RV, RH, ↓reduceIte, Nat.reduceEqDiff, reduceCtorEq, if_pos, List.append_nil, w64, tyint, hg]
    refine CallR.pc (sPlanIn_pc hs) rfl (.inl rfl) ?_
    simp (disch := omega) only [↓RU, RV, RH, ↓reduceIte, Nat.reduceEqDiff, reduceCtorEq, if_pos, List.append_nil, w64, tyint, hg]
    refine hK _ _ ?_
    clear hK K
    refine W.ret ?_
    refine BodyQ.ret rfl ?_
    rw [plainB, hg]
    rfl
  · skip
    simp (disch := omega) only [↓RU, RV, RH, ↓reduceIte, Nat.reduceEqDiff, reduceCtorEq, if_pos, List.append_nil, w64, tyint, hg]
    refine CallR.pc (sPlanIn_pc hs) rfl (.inl rfl) ?_
    simp (disch := omega) only [↓RU, RV, RH, ↓reduceIte, Nat.reduceEqDiff, reduceCtorEq, if_pos, List.append_nil, w64, tyint, hg]
    refine CallR.pc (l2Points_pc hs (planB_grid hg) 4) rfl (.inl rfl) ?_
    simp (disch := omega) only [↓RU, RV, RH, ↓reduceIte, Nat.reduceEqDiff, reduceCtorEq, if_pos, List.append_nil, w64, tyint, hg]
    refine hK _ _ ?_
    clear hK K
    refine W.ret ?_
    refine BodyQ.ret rfl ?_
    rw [plainB, hg]
    rfl

theorem l5Plain_pc {p : List Txt} (hs : Sm p) : PC Try.prog 67 [eStrs p] (.bool (plainB p)) true := by
  refine PC.of ⟨Try.func67, by kernel_rfl, rfl, by kernel_rfl⟩ tabOk mixed (by show 1 ≤ Try.f67.ntmps; decide) ?_
  refine W.seq_region fun K hK => ?_
  simp (disch := omega) only [↓RU, RV, RH, ↓reduceIte, Nat.reduceEqDiff, reduceCtorEq, if_pos]
  refine hK _ _ ?_
  clear hK K
  refine W.seq_region fun K hK => ?_
  simp (disch := omega) only [↓RU, RV, RH, ↓reduceIte, Nat.reduceEqDiff, reduceCtorEq, if_pos, List.append_nil]
  refine CallR.pc (sWallPlain_pc hs) rfl (.inl rfl) ?_
  simp (disch := omega) only [↓RU, RV, RH, ↓reduceIte, Nat.reduceEqDiff, reduceCtorEq, if_pos, List.append_nil]
  refine hK _ _ ?_
  clear hK K
  refine W.ret ?_
  refine BodyQ.ret rfl ?_
  rfl

theorem given_pc {p : List Txt} (hs : Sm p) (room : Int) : PC Try.prog 76 [eStrs p, .int .i64 room] (.bool (givenB p room)) true := l1Given_pc hs room

theorem l5Rooms_pc {p : List Txt} (hs : Sm p) (a b : Int) : PC Try.prog 47 [eStrs p, .int .i64 a, .int .i64 b] (.bool (plainB p && givenB p a && givenB p b)) true := by
  refine PC.of ⟨Try.func47, by kernel_rfl, rfl, by kernel_rfl⟩ tabOk mixed (by show 3 ≤ Try.f47.ntmps; decide) ?_
  refine W.seq_region fun K hK => ?_
  simp (disch := omega) only [↓RU, RV, RH, ↓reduceIte, Nat.reduceEqDiff, reduceCtorEq, if_pos]
  refine hK _ _ ?_
  clear hK K
  refine W.seq_region fun K hK => ?_
  rcases hx : (plainB p, givenB p a) with ⟨_ | _, _ | _⟩
  · skip
    simp only [Prod.mk.injEq] at hx
    obtain ⟨hg, hn⟩ := hx
    simp (disch := omega) only [↓RU, RV, RH, ↓reduceIte, Nat.reduceEqDiff, reduceCtorEq, if_pos, List.append_nil, hg]
    refine CallR.pc (l5Plain_pc hs) rfl (.inl rfl) ?_
    simp (disch := omega) only [↓RU, RV, RH, ↓reduceIte, Nat.reduceEqDiff, reduceCtorEq, if_pos, List.append_nil, hg]
    refine hK _ _ ?_
    clear hK K
    refine W.ret ?_
    refine BodyQ.ret rfl ?_
    rw [hg]
    rfl
  · skip
    simp only [Prod.mk.injEq] at hx
    obtain ⟨hg, hn⟩ := hx
    simp (disch := omega) only [↓RU, RV, RH, ↓reduceIte, Nat.reduceEqDiff, reduceCtorEq, if_pos, List.append_nil, hg]
    refine CallR.pc (l5Plain_pc hs) rfl (.inl rfl) ?_
    simp (disch := omega) only [↓RU, RV, RH, ↓reduceIte, Nat.reduceEqDiff, reduceCtorEq, if_pos, List.append_nil, hg]
    refine hK _ _ ?_
    clear hK K
    refine W.ret ?_
    refine BodyQ.ret rfl ?_
    rw [hg]
    rfl
  · skip
    simp only [Prod.mk.injEq] at hx
    obtain ⟨hg, hn⟩ := hx
    simp (disch := omega) only [↓RU, RV, RH, ↓reduceIte, Nat.reduceEqDiff, reduceCtorEq, if_pos, List.append_nil, hg, hn]
    refine CallR.pc (l5Plain_pc hs) rfl (.inl rfl) ?_
    simp (disch := omega) only [↓RU, RV, RH, ↓reduceIte, Nat.reduceEqDiff, reduceCtorEq, if_pos, List.append_nil, hg, hn]
    refine CallR.pc (given_pc hs a) rfl (.inl rfl) ?_
    simp (disch := omega) only [↓RU, RV, RH, ↓reduceIte, Nat.reduceEqDiff, reduceCtorEq, if_pos, List.append_nil, hg, hn]
    refine hK _ _ ?_
    clear hK K
    refine W.ret ?_
    refine BodyQ.ret rfl ?_
    rw [hg, hn]
    rfl
  · skip
    simp only [Prod.mk.injEq] at hx
    obtain ⟨hg, hn⟩ := hx
    simp (disch := omega) only [↓RU, RV, RH, ↓reduceIte, Nat.reduceEqDiff, reduceCtorEq, if_pos, List.append_nil, hg, hn]
    refine CallR.pc (l5Plain_pc hs) rfl (.inl rfl) ?_
    simp (disch := omega) only [↓RU, RV, RH, ↓reduceIte, Nat.reduceEqDiff, reduceCtorEq, if_pos, List.append_nil, hg, hn]
    refine CallR.pc (given_pc hs a) rfl (.inl rfl) ?_
    simp (disch := omega) only [↓RU, RV, RH, ↓reduceIte, Nat.reduceEqDiff, reduceCtorEq, if_pos, List.append_nil, hg, hn]
    refine CallR.pc (given_pc hs b) rfl (.inl rfl) ?_
    simp (disch := omega) only [↓RU, RV, RH, ↓reduceIte, Nat.reduceEqDiff, reduceCtorEq, if_pos, List.append_nil, hg, hn]
    refine hK _ _ ?_
    clear hK K
    refine W.ret ?_
    refine BodyQ.ret rfl ?_
    rw [hg, hn]
    rfl

end Fw
end Go.Proofs.Ytmhcknpjgikgmaa

/-! Walls, gone through. -/
namespace Go.Proofs.Ytmhcknpjgikgmaa
namespace Fw
open Go

theorem l1Trans_pc {p : List Txt} (hs : Sm p) (hg : gridB p = true) : PC Try.prog 122 [eStrs p] (eStrs (transP p)) true := by
  have hp := hs.rows
  have hsm := grid_small hg
  obtain ⟨row0, hrow0, hrm0⟩ := get_of hsm.1
  have hhd := hdRow_of hrow0
  have hw6 := hsm.2.2 row0 hrm0
  refine PC.of ⟨Try.func122, by kernel_rfl, rfl, by kernel_rfl⟩ tabOk mixed (by show 1 ≤ Try.f122.ntmps; decide) ?_
  refine W.seq_region fun K hK => ?_
  simp (disch := omega) only [↓RU, RV, RH, ↓reduceIte, Nat.reduceEqDiff, reduceCtorEq, if_pos, ↓RS, RG, Nat.reduceAdd, Nat.reduceMul, Nat.reduceLeDiff]
  refine hK _ _ ?_
  clear hK K
  refine W.seq_region fun K hK => ?_
  simp (disch := omega) only [↓RU, RV, RH, ↓reduceIte, Nat.reduceEqDiff, reduceCtorEq, if_pos, ↓RS, RG, Nat.reduceAdd, Nat.reduceMul, Nat.reduceLeDiff, tyLstring, tystring]
  refine hK _ _ ?_
  clear hK K
  refine W.seq ?_
  refine W.seq_region fun K hK => ?_
  simp (disch := omega) only [↓RU, RV, RH, ↓reduceIte, Nat.reduceEqDiff, reduceCtorEq, if_pos, ↓RS, RG, Nat.reduceAdd, Nat.reduceMul, Nat.reduceLeDiff]
  refine hK _ _ ?_
  clear hK K
  refine W.block ?_
  refine W.loop [0, 3, 4] (fun n vs S => ∃ k v0 tk : Nat, n = row0.length - k ∧ k ≤ row0.length ∧ vs = [eStrs p, .loc 0 v0 0 k, .int .i64 k] ∧ S = ⟨[.arr v0 9 1 ((colsTo p k).map .str)], tk⟩) (row0.length) ?_ ?_
  · refine ⟨1, 0, 0, 1, rfl, Nat.zero_le _, ?_, rfl⟩
    simp [Env.put, Env.of, argEnv]
  rintro n vs S - ⟨k, v0, tk, rfl, h_k, rfl, rfl⟩
  refine W.seq ?_
  refine W.seq_region fun K hK => ?_
  simp (disch := omega) only [↓RU, RV, RH, ↓reduceIte, Nat.reduceEqDiff, reduceCtorEq, if_pos, w64, ↓RS, RG, Nat.reduceAdd, Nat.reduceMul, Nat.reduceLeDiff, tyLstring, tyint, tystring, hrow0, Int.toNat_zero, Nat.zero_mul, Int.reduceToNat]
  refine hK _ _ ?_
  clear hK K
  refine W.cond rfl (fun h => ?_) (fun h => ?_)
  · try simp only [RL] at h
    have hcl0 := colsTo_len (p := p) (k := k)
    refine W.skip ?_
    refine XThen.norm ?_
    refine W.seq ?_
    refine W.block ?_
    refine W.seq_region fun K hK => ?_
    simp (disch := omega) only [↓RU, RV, RH, ↓reduceIte, Nat.reduceEqDiff, reduceCtorEq, if_pos, ↓RS, RG, Nat.reduceAdd, Nat.reduceMul, Nat.reduceLeDiff, tyLuint8, tyuint8]
    refine hK _ _ ?_
    clear hK K
    refine W.seq ?_
    refine W.seq_region fun K hK => ?_
    simp (disch := omega) only [↓RU, RV, RH, ↓reduceIte, Nat.reduceEqDiff, reduceCtorEq, if_pos, ↓RS, RG, Nat.reduceAdd, Nat.reduceMul, Nat.reduceLeDiff]
    refine hK _ _ ?_
    clear hK K
    refine W.block ?_
    refine W.loop [0, 3, 4, 5, 6] (fun n vs S => ∃ i v1 tk : Nat, n = p.length - i ∧ i ≤ p.length ∧ vs = [eStrs p, .loc 0 v0 0 k, .int .i64 k, .loc 1 v1 0 i, .int .i64 i] ∧ S = ⟨[.arr v0 9 1 ((colsTo p k).map .str), .arr v1 5 1 ((colTo p k i).map eB)], tk⟩) (p.length) ?_ ?_
    · refine ⟨2, 0, tk, tk + 1, rfl, Nat.zero_le _, ?_, rfl⟩
      simp [Env.put, Env.of, argEnv]
    rintro n vs S - ⟨i, v1, tk, rfl, h_i, rfl, rfl⟩
    refine W.seq ?_
    refine W.seq_region fun K hK => ?_
    simp (disch := omega) only [↓RU, RV, RH, ↓reduceIte, Nat.reduceEqDiff, reduceCtorEq, if_pos, w64, ↓RS, RG, Nat.reduceAdd, Nat.reduceMul, Nat.reduceLeDiff, tyLstring, tyint, tystring]
    refine hK _ _ ?_
    clear hK K
    refine W.cond rfl (fun h1 => ?_) (fun h1 => ?_)
    · try simp only [RL] at h1
      obtain ⟨row, hrow, hrm⟩ := get_of (show i < p.length by omega)
      have hrl := grid_row hg hrow
      rw [hhd] at hrl
      obtain ⟨c, hc, -⟩ := get_of (show k < row.length by omega)
      have hctl := colTo_len (p := p) (k := k) h_i
      refine W.skip ?_
      refine XThen.norm ?_
      refine W.seq ?_
      refine W.block ?_
      refine W.region_k fun K hK => ?_
      simp (disch := omega) only [↓RU, RV, RH, ↓reduceIte, Nat.reduceEqDiff, reduceCtorEq, if_pos, ↓RS, RG, Nat.reduceAdd, Nat.reduceMul, Nat.reduceLeDiff, tyLstring, tyLuint8, tystring, tyuint8, hrow, hc]
      refine hK _ _ ?_
      clear hK K
      refine XBlock.norm ?_
      refine XThen.norm ?_
      refine W.region_k fun K hK => ?_
      simp (disch := omega) only [↓RU, RV, RH, ↓reduceIte, Nat.reduceEqDiff, reduceCtorEq, if_pos, w64, ↓RS, RG, Nat.reduceAdd, Nat.reduceMul, Nat.reduceLeDiff, tyint]
      refine hK _ _ ?_
      clear hK K
      refine XThen.norm ?_
      refine ⟨p.length - (i + 1), by omega, 2, i + 1, tk + 1, tk + 2, rfl, by omega, ?_, ?_⟩
      all_goals simp [Env.put, Env.of, take_eq, colTo_succ hrow hc, hcl0, hctl, tk_le]
    · try simp only [RL] at h1
      have hip : i = p.length := by omega
      subst hip
      have hctl := colTo_len (p := p) (k := k) (Nat.le_refl _)
      refine W.exit ?_
      refine XThen.exit ?_
      refine XThen.exit ?_
      refine XBlock.hit ?_
      refine XThen.norm ?_
      refine W.region_k fun K hK => ?_
      simp (disch := omega) only [↓RU, RV, RH, ↓reduceIte, Nat.reduceEqDiff, reduceCtorEq, if_pos, w64, ↓RS, RG, Nat.reduceAdd, Nat.reduceMul, Nat.reduceLeDiff, tyLstring, tyLuint8, tystring, tyuint8]
      refine hK _ _ ?_
      clear hK K
      refine XBlock.norm ?_
      refine XThen.norm ?_
      refine W.region_k fun K hK => ?_
      simp (disch := omega) only [↓RU, RV, RH, ↓reduceIte, Nat.reduceEqDiff, reduceCtorEq, if_pos, w64, ↓RS, RG, Nat.reduceAdd, Nat.reduceMul, Nat.reduceLeDiff, tyint]
      refine hK _ _ ?_
      clear hK K
      refine XThen.norm ?_
      refine ⟨row0.length - (k + 1), by omega, 1, k + 1, tk + 1, tk + 2, rfl, by omega, ?_, ?_⟩
      all_goals simp [Env.put, Env.of, take_eq, colsTo_succ, hctl, tk_le, hcl0]
  · try simp only [RL] at h
    refine W.exit ?_
    refine XThen.exit ?_
    refine XThen.exit ?_
    refine XBlock.hit ?_
    refine XThen.norm ?_
    refine W.seq_region fun K hK => ?_
    simp (disch := omega) only [↓RU, RV, RH, ↓reduceIte, Nat.reduceEqDiff, reduceCtorEq, if_pos, ↓RS, RG, Nat.reduceAdd, Nat.reduceMul, Nat.reduceLeDiff]
    refine hK _ _ ?_
    clear hK K
    refine W.ret ?_
    refine BodyQ.ret rfl ?_
    have hkp : k = row0.length := by omega
    subst hkp
    rw [transP, hhd]
    exact reify_loc (k := 9) rfl (by simp [colsTo_len]) (mapM_str _) |>.trans (by simp [colsTo_len])

end Fw
end Go.Proofs.Ytmhcknpjgikgmaa

/-! Walls and their sides, gone through. -/
namespace Go.Proofs.Ytmhcknpjgikgmaa
namespace Fw
open Go

theorem l2Put_ev0 {xs ys : List Int} {v0 v1 tk : Nat} (hx : xs.length ≤ 1048576) (hy : ys.length ≤ 1048576) (x : Int) : Ev Try.prog 123 [.loc 0 v0 0 xs.length, .int .i64 x] ⟨[.arr v0 3 1 (xs.map (.int .i64)), .arr v1 3 1 (ys.map (.int .i64))], tk⟩ fun v S => ∃ w t, v = .loc 0 w 0 (putL xs x).length ∧ S = ⟨[.arr w 3 1 ((putL xs x).map (.int .i64)), .arr v1 3 1 (ys.map (.int .i64))], t⟩ := by
  refine Ev.of ⟨Try.func123, by kernel_rfl, rfl, by kernel_rfl⟩ tabOk mixed (by show 2 ≤ Try.f123.ntmps; decide) ?_
  refine W.seq_region fun K hK => ?_
  simp (disch := omega) only [↓RU, RV, RH, ↓reduceIte, Nat.reduceEqDiff, reduceCtorEq, if_pos, ↓RS, RG, Nat.reduceAdd, Nat.reduceMul, Nat.reduceLeDiff]
  refine hK _ _ ?_
  clear hK K
  refine W.seq ?_
  refine W.seq_region fun K hK => ?_
  cases hp : decide ((xs.length : Int) > 0)
  · skip
    simp (disch := omega) only [↓RU, RV, RH, ↓reduceIte, Nat.reduceEqDiff, reduceCtorEq, if_pos, w64, ↓RS, RG, Nat.reduceAdd, Nat.reduceMul, Nat.reduceLeDiff, tyLint, tyint, hp]
    refine hK _ _ ?_
    clear hK K
    refine W.cond rfl (fun h0 => ?_) (fun h0 => ?_)
    · try simp only [RL] at h0
      exact absurd h0 (by simp)
    · try simp only [RL] at h0
      have hpl : putL xs x = xs ++ [x] := putL_nil (by simpa using hp)
      refine W.skip ?_
      refine XThen.norm ?_
      refine W.seq_region fun K hK => ?_
      simp (disch := omega) only [↓RU, RV, RH, ↓reduceIte, Nat.reduceEqDiff, reduceCtorEq, if_pos, ↓RS, RG, Nat.reduceAdd, Nat.reduceMul, Nat.reduceLeDiff, tyLint, tyint]
      refine hK _ _ ?_
      clear hK K
      refine W.ret ?_
      refine BodyQ.ret rfl ?_
      exact ⟨2, _, _, by simp [Env.put, hpl]; rfl, by simp [take_eq, hpl]; rfl⟩
  · skip
    have hp2 : 0 < xs.length := by simpa using hp
    obtain ⟨q, hq, -⟩ := get_of (show xs.length - 1 < xs.length by omega)
    simp (disch := omega) only [↓RU, RV, RH, ↓reduceIte, Nat.reduceEqDiff, reduceCtorEq, if_pos, w64, ↓RS, RG, Nat.reduceAdd, Nat.reduceMul, Nat.reduceLeDiff, tyLint, tyint, hp, hq, toNat_pred]
    refine hK _ _ ?_
    clear hK K
    refine W.cond rfl (fun h0 => ?_) (fun h0 => ?_)
    · try simp only [RL] at h0
      have hpl : putL xs x = xs := putL_same hq h0
      refine W.seq_region fun K hK => ?_
      simp (disch := omega) only [↓RU, RV, RH, ↓reduceIte, Nat.reduceEqDiff, reduceCtorEq, if_pos, ↓RS, RG, Nat.reduceAdd, Nat.reduceMul, Nat.reduceLeDiff]
      refine hK _ _ ?_
      clear hK K
      refine W.ret ?_
      refine XThen.ret ?_
      refine BodyQ.ret rfl ?_
      exact ⟨2, _, _, by simp [Env.put, hpl]; rfl, by simp [take_eq, hpl]; rfl⟩
    · try simp only [RL] at h0
      have hpl : putL xs x = xs ++ [x] := putL_new hq h0
      refine W.skip ?_
      refine XThen.norm ?_
      refine W.seq_region fun K hK => ?_
      simp (disch := omega) only [↓RU, RV, RH, ↓reduceIte, Nat.reduceEqDiff, reduceCtorEq, if_pos, ↓RS, RG, Nat.reduceAdd, Nat.reduceMul, Nat.reduceLeDiff, tyLint, tyint]
      refine hK _ _ ?_
      clear hK K
      refine W.ret ?_
      refine BodyQ.ret rfl ?_
      exact ⟨2, _, _, by simp [Env.put, hpl]; rfl, by simp [take_eq, hpl]; rfl⟩

theorem l2Put_ev1 {xs ys : List Int} {v0 v1 tk : Nat} (hx : xs.length ≤ 1048576) (hy : ys.length ≤ 1048576) (x : Int) : Ev Try.prog 123 [.loc 1 v1 0 ys.length, .int .i64 x] ⟨[.arr v0 3 1 (xs.map (.int .i64)), .arr v1 3 1 (ys.map (.int .i64))], tk⟩ fun v S => ∃ w t, v = .loc 1 w 0 (putL ys x).length ∧ S = ⟨[.arr v0 3 1 (xs.map (.int .i64)), .arr w 3 1 ((putL ys x).map (.int .i64))], t⟩ := by
  refine Ev.of ⟨Try.func123, by kernel_rfl, rfl, by kernel_rfl⟩ tabOk mixed (by show 2 ≤ Try.f123.ntmps; decide) ?_
  refine W.seq_region fun K hK => ?_
  simp (disch := omega) only [↓RU, RV, RH, ↓reduceIte, Nat.reduceEqDiff, reduceCtorEq, if_pos, ↓RS, RG, Nat.reduceAdd, Nat.reduceMul, Nat.reduceLeDiff]
  refine hK _ _ ?_
  clear hK K
  refine W.seq ?_
  refine W.seq_region fun K hK => ?_
  cases hp : decide ((ys.length : Int) > 0)
  · skip
    simp (disch := omega) only [↓RU, RV, RH, ↓reduceIte, Nat.reduceEqDiff, reduceCtorEq, if_pos, w64, ↓RS, RG, Nat.reduceAdd, Nat.reduceMul, Nat.reduceLeDiff, tyLint, tyint, hp]
    refine hK _ _ ?_
    clear hK K
    refine W.cond rfl (fun h0 => ?_) (fun h0 => ?_)
    · try simp only [RL] at h0
      exact absurd h0 (by simp)
    · try simp only [RL] at h0
      have hpl : putL ys x = ys ++ [x] := putL_nil (by simpa using hp)
      refine W.skip ?_
      refine XThen.norm ?_
      refine W.seq_region fun K hK => ?_
      simp (disch := omega) only [↓RU, RV, RH, ↓reduceIte, Nat.reduceEqDiff, reduceCtorEq, if_pos, ↓RS, RG, Nat.reduceAdd, Nat.reduceMul, Nat.reduceLeDiff, tyLint, tyint]
      refine hK _ _ ?_
      clear hK K
      refine W.ret ?_
      refine BodyQ.ret rfl ?_
      exact ⟨2, _, _, by simp [Env.put, hpl]; rfl, by simp [take_eq, hpl]; rfl⟩
  · skip
    have hp2 : 0 < ys.length := by simpa using hp
    obtain ⟨q, hq, -⟩ := get_of (show ys.length - 1 < ys.length by omega)
    simp (disch := omega) only [↓RU, RV, RH, ↓reduceIte, Nat.reduceEqDiff, reduceCtorEq, if_pos, w64, ↓RS, RG, Nat.reduceAdd, Nat.reduceMul, Nat.reduceLeDiff, tyLint, tyint, hp, hq, toNat_pred]
    refine hK _ _ ?_
    clear hK K
    refine W.cond rfl (fun h0 => ?_) (fun h0 => ?_)
    · try simp only [RL] at h0
      have hpl : putL ys x = ys := putL_same hq h0
      refine W.seq_region fun K hK => ?_
      simp (disch := omega) only [↓RU, RV, RH, ↓reduceIte, Nat.reduceEqDiff, reduceCtorEq, if_pos, ↓RS, RG, Nat.reduceAdd, Nat.reduceMul, Nat.reduceLeDiff]
      refine hK _ _ ?_
      clear hK K
      refine W.ret ?_
      refine XThen.ret ?_
      refine BodyQ.ret rfl ?_
      exact ⟨2, _, _, by simp [Env.put, hpl]; rfl, by simp [take_eq, hpl]; rfl⟩
    · try simp only [RL] at h0
      have hpl : putL ys x = ys ++ [x] := putL_new hq h0
      refine W.skip ?_
      refine XThen.norm ?_
      refine W.seq_region fun K hK => ?_
      simp (disch := omega) only [↓RU, RV, RH, ↓reduceIte, Nat.reduceEqDiff, reduceCtorEq, if_pos, ↓RS, RG, Nat.reduceAdd, Nat.reduceMul, Nat.reduceLeDiff, tyLint, tyint]
      refine hK _ _ ?_
      clear hK K
      refine W.ret ?_
      refine BodyQ.ret rfl ?_
      exact ⟨2, _, _, by simp [Env.put, hpl]; rfl, by simp [take_eq, hpl]; rfl⟩

end Fw
end Go.Proofs.Ytmhcknpjgikgmaa

/-! The sides of a wall, gone through. -/
namespace Go.Proofs.Ytmhcknpjgikgmaa
namespace Fw
open Go

theorem toNat_add2 {a b : Nat} : ((a : Int) + (b : Int)).toNat = a + b := by omega
theorem reify_tup2 {S : Store} {im : Bool} {k : Nat} {a b a2 b2 : PV} (h1 : reify S im k a = some a2) (h2 : reify S im k b = some b2) : reify S im (k + 1) (.tup [a, b]) = some (.tup [a2, b2]) := by
  simp [reify, h1, h2]

theorem l2Sides_pc {p : List Txt} (hs : Sm p) (hg : gridB p = true) {kind line fr long : Nat} (hl : 1 ≤ line) (h0 : kind = 0 → line < (hdRow p).length ∧ fr + long ≤ p.length) (h1 : kind ≠ 0 → line < p.length ∧ fr + long ≤ (hdRow p).length) : PC Try.prog 99 [eStrs p, .sl [.int .i64 kind, .int .i64 line, .int .i64 fr, .int .i64 long] 4] (.tup [eInts (sidesTo p kind line fr long).1, eInts (sidesTo p kind line fr long).2]) true := by
  have hp := hs.rows
  have hsm := grid_small hg
  obtain ⟨row0, hrow0, hrm0⟩ := get_of hsm.1
  have hhd := hdRow_of hrow0
  have hw6 := hsm.2.2 row0 hrm0
  rw [hhd] at h0 h1
  have hb : fr + long ≤ 6 ∧ line ≤ 6 := by by_cases hk : kind = 0; (have := h0 hk; omega); (have := h1 hk; omega)
  refine PC.of ⟨Try.func99, by kernel_rfl, rfl, by kernel_rfl⟩ tabOk mixed (by show 2 ≤ Try.f99.ntmps; decide) ?_
  refine W.seq_region fun K hK => ?_
  simp (disch := omega) only [↓RU, RV, RH, ↓reduceIte, Nat.reduceEqDiff, reduceCtorEq, if_pos, ↓RS, RG, Nat.reduceAdd, Nat.reduceMul, Nat.reduceLeDiff]
  refine hK _ _ ?_
  clear hK K
  refine W.seq_region fun K hK => ?_
  simp (disch := omega) only [↓RU, RV, RH, ↓reduceIte, Nat.reduceEqDiff, reduceCtorEq, if_pos, ↓RS, RG, Nat.reduceAdd, Nat.reduceMul, Nat.reduceLeDiff, tyLint, tyint]
  refine hK _ _ ?_
  clear hK K
  refine W.seq_region fun K hK => ?_
  simp (disch := omega) only [↓RU, RV, RH, ↓reduceIte, Nat.reduceEqDiff, reduceCtorEq, if_pos, ↓RS, RG, Nat.reduceAdd, Nat.reduceMul, Nat.reduceLeDiff, tyLint, tyint]
  refine hK _ _ ?_
  clear hK K
  refine W.seq ?_
  refine W.seq_region fun K hK => ?_
  simp (disch := omega) only [↓RU, RV, RH, ↓reduceIte, Nat.reduceEqDiff, reduceCtorEq, if_pos, ↓RS, RG, Nat.reduceAdd, Nat.reduceMul, Nat.reduceLeDiff, tyLint, tyint, Int.reduceToNat, toNat_pred, toNat_add2]
  refine hK _ _ ?_
  clear hK K
  refine W.block ?_
  refine W.loop [0, 1, 6, 7, 8] (fun n vs S => ∃ j v0 v1 tk : Nat, n = long - j ∧ j ≤ long ∧ vs = [eStrs p, .sl [.int .i64 kind, .int .i64 line, .int .i64 fr, .int .i64 long] 4, .loc 0 v0 0 (sidesTo p kind line fr j).1.length, .loc 1 v1 0 (sidesTo p kind line fr j).2.length, .int .i64 ((fr : Int) + j)] ∧ S = ⟨[.arr v0 3 1 ((sidesTo p kind line fr j).1.map (.int .i64)), .arr v1 3 1 ((sidesTo p kind line fr j).2.map (.int .i64))], tk⟩) (long) ?_ ?_
  · refine ⟨2, 0, 0, 1, 2, rfl, Nat.zero_le _, ?_, rfl⟩
    simp [Env.put, Env.of, argEnv, sidesTo]
  rintro n vs S - ⟨j, v0, v1, tk, rfl, h_j, rfl, rfl⟩
  refine W.seq ?_
  refine W.seq_draw (by kernel_rfl) fun K hK => ?_
  simp (disch := omega) only [↓RU, RV, RH, ↓reduceIte, Nat.reduceEqDiff, reduceCtorEq, if_pos, w64, ↓RS, RG, Nat.reduceAdd, Nat.reduceMul, Nat.reduceLeDiff, tyLint, tyint, Int.reduceToNat, toNat_pred, toNat_add2]
  refine hK _ _ ?_
  clear hK K
  refine W.cond rfl (fun h2 => ?_) (fun h2 => ?_)
  · try simp only [RL] at h2
    have hsl := sidesTo_len (p := p) (kind := kind) (line := line) (fr := fr) j
    refine W.skip ?_
    refine XThen.norm ?_
    refine W.seq ?_
    refine W.block ?_
    refine W.seq_region fun K hK => ?_
    simp (disch := omega) only [↓RU, RV, RH, ↓reduceIte, Nat.reduceEqDiff, reduceCtorEq, if_pos, w64, ↓RS, RG, Nat.reduceAdd, Nat.reduceMul, Nat.reduceLeDiff, tyLint, tyint, Int.reduceToNat, toNat_pred, toNat_add2]
    refine hK _ _ ?_
    clear hK K
    refine W.cond rfl (fun h3 => ?_) (fun h3 => ?_)
    · try simp only [RL] at h3
      have hk : kind = 0 := by omega
      have h0k := h0 hk
      obtain ⟨r1, hr1, -⟩ := get_of (show fr + j < p.length by omega)
      have hr2 := hr1
      have hrl := grid_row hg hr1
      rw [hhd] at hrl
      obtain ⟨c1, hc1, -⟩ := get_of (show line - 1 < r1.length by omega)
      obtain ⟨c2, hc2, -⟩ := get_of (show line < r1.length by omega)
      have hcl1 := c1.toNat_lt
      have hcl2 := c2.toNat_lt
      refine W.seq_drawE (by kernel_rfl) fun K hK => ?_
      simp (disch := omega) only [↓RU, RV, RH, ↓reduceIte, Nat.reduceEqDiff, reduceCtorEq, if_pos, w64, w64, List.append_nil, ↓RS, RG, Nat.reduceAdd, Nat.reduceMul, Nat.reduceLeDiff, tyLint, tyLstring, tyint, tystring, tyuint8, Int.reduceToNat, toNat_pred, toNat_add2, hr1, hc1]
      refine CallR.ev (l2Put_ev0 (by omega) (by omega) _) ?_
      rintro v S ⟨w, t, rfl, rfl⟩
      simp (disch := omega) only [↓RU, RV, RH, ↓reduceIte, Nat.reduceEqDiff, reduceCtorEq, if_pos, w64, w64, List.append_nil, ↓RS, RG, Nat.reduceAdd, Nat.reduceMul, Nat.reduceLeDiff, tyLint, tyLstring, tyint, tystring, tyuint8, Int.reduceToNat, toNat_pred, toNat_add2, hr1, hc1]
      refine hK _ _ ?_
      clear hK K
      refine W.drawE_k (by kernel_rfl) fun K hK => ?_
      simp (disch := omega) only [↓RU, RV, RH, ↓reduceIte, Nat.reduceEqDiff, reduceCtorEq, if_pos, w64, w64, List.append_nil, ↓RS, RG, Nat.reduceAdd, Nat.reduceMul, Nat.reduceLeDiff, tyLint, tyLstring, tyint, tystring, tyuint8, Int.reduceToNat, toNat_pred, toNat_add2, hr2, hc2]
      refine CallR.ev (l2Put_ev1 (Nat.le_trans putL_len (by omega)) (by omega) _) ?_
      rintro v S ⟨w2, t2, rfl, rfl⟩
      simp (disch := omega) only [↓RU, RV, RH, ↓reduceIte, Nat.reduceEqDiff, reduceCtorEq, if_pos, w64, w64, List.append_nil, ↓RS, RG, Nat.reduceAdd, Nat.reduceMul, Nat.reduceLeDiff, tyLint, tyLstring, tyint, tystring, tyuint8, Int.reduceToNat, toNat_pred, toNat_add2, hr2, hc2]
      refine hK _ _ ?_
      clear hK K
      refine XBlock.norm ?_
      refine XThen.norm ?_
      refine W.region_k fun K hK => ?_
      simp (disch := omega) only [↓RU, RV, RH, ↓reduceIte, Nat.reduceEqDiff, reduceCtorEq, if_pos, w64, ↓RS, RG, Nat.reduceAdd, Nat.reduceMul, Nat.reduceLeDiff, tyint]
      refine hK _ _ ?_
      clear hK K
      refine XThen.norm ?_
      refine ⟨long - (j + 1), by omega, 2, j + 1, w, w2, t2, rfl, by omega, ?_, ?_⟩
      all_goals simp [sidesTo, hk, cellZ_is hr1 hc1, cellZ_is hr2 hc2, Env.put, Env.of, take_eq, Int.add_assoc]
    · try simp only [RL] at h3
      have hk : ¬ kind = 0 := by omega
      have h1k := h1 hk
      obtain ⟨r1, hr1, -⟩ := get_of (show line - 1 < p.length by omega)
      obtain ⟨r2, hr2, -⟩ := get_of (show line < p.length by omega)
      have hrl := grid_row hg hr1
      have hrl2 := grid_row hg hr2
      rw [hhd] at hrl hrl2
      obtain ⟨c1, hc1, -⟩ := get_of (show fr + j < r1.length by omega)
      obtain ⟨c2, hc2, -⟩ := get_of (show fr + j < r2.length by omega)
      have hcl1 := c1.toNat_lt
      have hcl2 := c2.toNat_lt
      refine W.seq_region fun K hK => ?_
      simp (disch := omega) only [↓RU, RV, RH, ↓reduceIte, Nat.reduceEqDiff, reduceCtorEq, if_pos, w64, w64, List.append_nil, ↓RS, RG, Nat.reduceAdd, Nat.reduceMul, Nat.reduceLeDiff, tyLint, tyLstring, tyint, tystring, tyuint8, Int.reduceToNat, toNat_pred, toNat_add2, hr1, hc1]
      refine CallR.ev (l2Put_ev0 (by omega) (by omega) _) ?_
      rintro v S ⟨w, t, rfl, rfl⟩
      simp (disch := omega) only [↓RU, RV, RH, ↓reduceIte, Nat.reduceEqDiff, reduceCtorEq, if_pos, w64, w64, List.append_nil, ↓RS, RG, Nat.reduceAdd, Nat.reduceMul, Nat.reduceLeDiff, tyLint, tyLstring, tyint, tystring, tyuint8, Int.reduceToNat, toNat_pred, toNat_add2, hr1, hc1]
      refine hK _ _ ?_
      clear hK K
      refine W.region_k fun K hK => ?_
      simp (disch := omega) only [↓RU, RV, RH, ↓reduceIte, Nat.reduceEqDiff, reduceCtorEq, if_pos, w64, w64, List.append_nil, ↓RS, RG, Nat.reduceAdd, Nat.reduceMul, Nat.reduceLeDiff, tyLint, tyLstring, tyint, tystring, tyuint8, Int.reduceToNat, toNat_pred, toNat_add2, hr2, hc2]
      refine CallR.ev (l2Put_ev1 (Nat.le_trans putL_len (by omega)) (by omega) _) ?_
      rintro v S ⟨w2, t2, rfl, rfl⟩
      simp (disch := omega) only [↓RU, RV, RH, ↓reduceIte, Nat.reduceEqDiff, reduceCtorEq, if_pos, w64, w64, List.append_nil, ↓RS, RG, Nat.reduceAdd, Nat.reduceMul, Nat.reduceLeDiff, tyLint, tyLstring, tyint, tystring, tyuint8, Int.reduceToNat, toNat_pred, toNat_add2, hr2, hc2]
      refine hK _ _ ?_
      clear hK K
      refine XBlock.norm ?_
      refine XThen.norm ?_
      refine W.region_k fun K hK => ?_
      simp (disch := omega) only [↓RU, RV, RH, ↓reduceIte, Nat.reduceEqDiff, reduceCtorEq, if_pos, w64, ↓RS, RG, Nat.reduceAdd, Nat.reduceMul, Nat.reduceLeDiff, tyint]
      refine hK _ _ ?_
      clear hK K
      refine XThen.norm ?_
      refine ⟨long - (j + 1), by omega, 2, j + 1, w, w2, t2, rfl, by omega, ?_, ?_⟩
      all_goals simp [sidesTo, hk, cellZ_is hr1 hc1, cellZ_is hr2 hc2, Env.put, Env.of, take_eq, Int.add_assoc]
  · try simp only [RL] at h2
    refine W.exit ?_
    refine XThen.exit ?_
    refine XThen.exit ?_
    refine XBlock.hit ?_
    refine XThen.norm ?_
    refine W.seq_region fun K hK => ?_
    simp (disch := omega) only [↓RU, RV, RH, ↓reduceIte, Nat.reduceEqDiff, reduceCtorEq, if_pos, ↓RS, RG, Nat.reduceAdd, Nat.reduceMul, Nat.reduceLeDiff]
    refine hK _ _ ?_
    clear hK K
    refine W.ret ?_
    refine BodyQ.ret rfl ?_
    have hjl : j = long := by omega
    subst hjl
    exact reify_tup2 (reify_loc (k := 8) rfl (by simp) (mapM_int _)) (reify_loc (k := 8) rfl (by simp) (mapM_int _))

end Fw
end Go.Proofs.Ytmhcknpjgikgmaa

/-! Upright walls, gone through. -/
namespace Go.Proofs.Ytmhcknpjgikgmaa
namespace Fw
open Go

theorem l2Upright_pc {p : List Txt} (hs : Sm p) (hg : gridB p = true) : PC Try.prog 121 [eStrs p] (.sl ((uprights p).map eInts) (uprights p).length) false := by
  have hp := hs.rows
  have hsm := grid_small hg
  obtain ⟨row0, hrow0, hrm0⟩ := get_of hsm.1
  have hhd := hdRow_of hrow0
  have hw6 := hsm.2.2 row0 hrm0
  have hw1 := row_pos hg hrow0
  refine PC.of ⟨Try.func121, by kernel_rfl, rfl, by kernel_rfl⟩ tabOk mixed (by show 1 ≤ Try.f121.ntmps; decide) ?_
  refine W.seq_region fun K hK => ?_
  simp (disch := omega) only [↓RU, RV, RH, ↓reduceIte, Nat.reduceEqDiff, reduceCtorEq, if_pos, ↓RS, RG, Nat.reduceAdd, Nat.reduceMul, Nat.reduceLeDiff]
  refine hK _ _ ?_
  clear hK K
  refine W.seq_region fun K hK => ?_
  simp (disch := omega) only [↓RU, RV, RH, ↓reduceIte, Nat.reduceEqDiff, reduceCtorEq, if_pos, ↓RS, RG, Nat.reduceAdd, Nat.reduceMul, Nat.reduceLeDiff, tyLLint, tyLint, tyint]
  refine hK _ _ ?_
  clear hK K
  refine W.seq ?_
  refine W.seq_region fun K hK => ?_
  simp (disch := omega) only [↓RU, RV, RH, ↓reduceIte, Nat.reduceEqDiff, reduceCtorEq, if_pos, ↓RS, RG, Nat.reduceAdd, Nat.reduceMul, Nat.reduceLeDiff]
  refine hK _ _ ?_
  clear hK K
  refine W.block ?_
  refine W.loopZ [0, 3, 4] (fun n vs S => ∃ k v0 tk : Nat, n = row0.length - k ∧ k ≤ row0.length ∧ (1 ≤ k) ∧ vs = [eStrs p, .loc 0 v0 0 (upsTo p k).length, .int .i64 k] ∧ S = ⟨[.arr v0 30 1 ((upsTo p k).map eInts)], tk⟩) (row0.length - 1) ?_ ?_
  · refine ⟨1, [eStrs p, .loc 0 0 0 (upsTo p 1).length, .int .i64 1], ⟨[.arr 0 30 1 ((upsTo p 1).map eInts)], 1⟩, ?_, ?_, 1, 0, 1, rfl, by omega, Nat.le_refl _, rfl, rfl⟩
    · rfl
    · rfl
  rintro n vs S - ⟨k, v0, tk, rfl, h_k, h1k, rfl, rfl⟩
  refine W.seq ?_
  refine W.seq_region fun K hK => ?_
  simp (disch := omega) only [↓RU, RV, RH, ↓reduceIte, Nat.reduceEqDiff, reduceCtorEq, if_pos, w64, ↓RS, RG, Nat.reduceAdd, Nat.reduceMul, Nat.reduceLeDiff, tyLstring, tyint, tystring, hrow0, Int.toNat_zero, Nat.zero_mul, Int.reduceToNat]
  refine hK _ _ ?_
  clear hK K
  refine W.cond rfl (fun h => ?_) (fun h => ?_)
  · try simp only [RL] at h
    have hul := Nat.le_trans (upsTo_len p k) (Nat.mul_le_mul (show p.length + 1 ≤ 7 by omega) (show k ≤ 6 by omega))
    refine W.skip ?_
    refine XThen.norm ?_
    refine W.seq ?_
    refine W.block ?_
    refine W.seq_region fun K hK => ?_
    simp (disch := omega) only [↓RU, RV, RH, ↓reduceIte, Nat.reduceEqDiff, reduceCtorEq, if_pos, ↓RS, RG, Nat.reduceAdd, Nat.reduceMul, Nat.reduceLeDiff]
    refine hK _ _ ?_
    clear hK K
    refine W.seq_region fun K hK => ?_
    simp (disch := omega) only [↓RU, RV, RH, ↓reduceIte, Nat.reduceEqDiff, reduceCtorEq, if_pos, ↓RS, RG, Nat.reduceAdd, Nat.reduceMul, Nat.reduceLeDiff]
    refine hK _ _ ?_
    clear hK K
    refine W.block ?_
    refine W.loopZ [0, 3, 4, 5, 6] (fun n vs S => ∃ i v0 tk : Nat, n = (p.length + 1) - i ∧ i ≤ (p.length + 1) ∧ vs = [eStrs p, .loc 0 v0 0 (upTo p k (upsTo p k) i).2.length, .int .i64 k, .int .i64 (upTo p k (upsTo p k) i).1, .int .i64 i] ∧ S = ⟨[.arr v0 30 1 ((upTo p k (upsTo p k) i).2.map eInts)], tk⟩) ((p.length + 1)) ?_ ?_
    · refine ⟨1, [eStrs p, .loc 0 v0 0 (upTo p k (upsTo p k) 0).2.length, .int .i64 k, .int .i64 (upTo p k (upsTo p k) 0).1, .int .i64 0], ⟨[.arr v0 30 1 ((upTo p k (upsTo p k) 0).2.map eInts)], tk⟩, ?_, ?_, 0, v0, tk, rfl, by omega, rfl, rfl⟩
      · simp [-List.mapM_map, Store.frz, frzObs, frzOb, frz_eInts, frz_loc, rfz_loc, frz_int, frz_sl, frz_ints, rfz_ints, frz_strs, frz_bytes, rfz_bytes, rfz_str, rfz_bool, frz_str, frz_bool, Env.put, Env.of, argEnv, rfz_int, List.mapM_append, List.mapM_cons] <;> simp [upTo]
      · simp [-List.mapM_map, Store.frz, frzObs, frzOb, frz_eInts, frz_loc, rfz_loc, frz_int, frz_sl, frz_ints, rfz_ints, frz_strs, frz_bytes, rfz_bytes, rfz_str, rfz_bool, frz_str, frz_bool, Env.put, Env.of, argEnv, rfz_int, List.mapM_append, List.mapM_cons] <;> simp [upTo]
    rintro n vs S - ⟨i, v0, tk, rfl, h_i, rfl, rfl⟩
    refine W.seq ?_
    refine W.seq_region fun K hK => ?_
    simp (disch := omega) only [↓RU, RV, RH, ↓reduceIte, Nat.reduceEqDiff, reduceCtorEq, if_pos, w64, ↓RS, RG, Nat.reduceAdd, Nat.reduceMul, Nat.reduceLeDiff, tyLstring, tyint, tystring]
    refine hK _ _ ?_
    clear hK K
    refine W.cond rfl (fun h1 => ?_) (fun h1 => ?_)
    · try simp only [RL] at h1
      have hutl := upTo_len p k (upsTo p k) i
      have hutb := upTo_bound p k (upsTo p k) i
      refine W.skip ?_
      refine XThen.norm ?_
      refine W.seq ?_
      refine W.block ?_
      refine W.join [0, 3, 4, 5, 6, 7] (fun vs S => vs = [eStrs p, .loc 0 v0 0 (upTo p k (upsTo p k) i).2.length, .int .i64 k, .int .i64 (upTo p k (upsTo p k) i).1, .int .i64 i, .bool (wallB p k i)] ∧ S = ⟨[.arr v0 30 1 ((upTo p k (upsTo p k) i).2.map eInts)], tk⟩) ?_ ?_
      ·
        refine W.draw_k (by kernel_rfl) fun K hK => ?_
        by_cases hip : i < p.length
        · skip
          obtain ⟨r1, hr1, -⟩ := get_of hip
          have hrl := grid_row hg hr1
          rw [hhd] at hrl
          obtain ⟨c1, hc1, -⟩ := get_of (show k - 1 < r1.length by omega)
          obtain ⟨c2, hc2, -⟩ := get_of (show k < r1.length by omega)
          have hid : ((i : Int) < (p.length : Int)) := by omega
          simp (disch := omega) only [↓RU, RV, RH, ↓reduceIte, Nat.reduceEqDiff, reduceCtorEq, if_pos, w64, ↓RS, RG, Nat.reduceAdd, Nat.reduceMul, Nat.reduceLeDiff, tyLstring, tyint, tystring, tyuint8, hid, decide_true, hr1, hc1, hc2, toNat_pred]
          refine hK _ _ ?_
          clear hK K
          refine XThen.norm ?_
          refine ⟨1, ?_, ?_⟩
          all_goals simp [Env.put, Env.of, take_eq, wallB, hip]
          try simp [cellZ_is hr1 hc1, cellZ_is hr1 hc2, u8_eq, bne_int]
        · skip
          have hid : ¬ ((i : Int) < (p.length : Int)) := by omega
          simp (disch := omega) only [↓RU, RV, RH, ↓reduceIte, Nat.reduceEqDiff, reduceCtorEq, if_pos, w64, ↓RS, RG, Nat.reduceAdd, Nat.reduceMul, Nat.reduceLeDiff, tyLstring, tyint, tystring, tyuint8, hid, decide_false]
          refine hK _ _ ?_
          clear hK K
          refine XThen.norm ?_
          refine ⟨1, ?_, ?_⟩
          all_goals simp [Env.put, Env.of, take_eq, wallB, hip]
          try simp [cellZ_is hr1 hc1, cellZ_is hr1 hc2, u8_eq, bne_int]
      rintro vs S - ⟨rfl, rfl⟩
      refine W.seq ?_
      refine W.seq_region fun K hK => ?_
      cases hw : wallB p k i
      · skip
        simp (disch := omega) only [↓RU, RV, RH, ↓reduceIte, Nat.reduceEqDiff, reduceCtorEq, if_pos, w64, ↓RS, RG, Nat.reduceAdd, Nat.reduceMul, Nat.reduceLeDiff, tyint, hw]
        refine hK _ _ ?_
        clear hK K
        refine W.cond rfl (fun h2 => ?_) (fun h2 => ?_)
        · try simp only [RL] at h2
          exact absurd h2 (by simp)
        · try simp only [RL] at h2
          refine W.skip ?_
          refine XThen.norm ?_
          refine W.seq_region fun K hK => ?_
          simp (disch := omega) only [↓RU, RV, RH, ↓reduceIte, Nat.reduceEqDiff, reduceCtorEq, if_pos, w64, ↓RS, RG, Nat.reduceAdd, Nat.reduceMul, Nat.reduceLeDiff, tyint]
          refine hK _ _ ?_
          clear hK K
          refine W.cond rfl (fun h3 => ?_) (fun h3 => ?_)
          · try simp only [RL] at h3
            refine W.seq_region fun K hK => ?_
            simp (disch := omega) only [↓RU, RV, RH, ↓reduceIte, Nat.reduceEqDiff, reduceCtorEq, if_pos, w64, ↓RS, RG, Nat.reduceAdd, Nat.reduceMul, Nat.reduceLeDiff, tyLLint, tyLint, tyint]
            refine hK _ _ ?_
            clear hK K
            refine W.region_k fun K hK => ?_
            simp (disch := omega) only [↓RU, RV, RH, ↓reduceIte, Nat.reduceEqDiff, reduceCtorEq, if_pos, ↓RS, RG, Nat.reduceAdd, Nat.reduceMul, Nat.reduceLeDiff]
            refine hK _ _ ?_
            clear hK K
            refine XBlock.norm ?_
            refine XThen.norm ?_
            refine W.region_k fun K hK => ?_
            simp (disch := omega) only [↓RU, RV, RH, ↓reduceIte, Nat.reduceEqDiff, reduceCtorEq, if_pos, w64, ↓RS, RG, Nat.reduceAdd, Nat.reduceMul, Nat.reduceLeDiff, tyint]
            refine hK _ _ ?_
            clear hK K
            refine XThen.norm ?_
            refine ⟨(p.length + 1) - (i + 1), by omega, 1, [eStrs p, .loc 0 (tk + 2) 0 (upTo p k (upsTo p k) (i + 1)).2.length, .int .i64 k, .int .i64 (upTo p k (upsTo p k) (i + 1)).1, .int .i64 (i + 1)], ⟨[.arr (tk + 2) 30 1 ((upTo p k (upsTo p k) (i + 1)).2.map eInts)], (tk + 3)⟩, ?_, ?_, (i + 1), tk + 2, tk + 3, rfl, by omega, rfl, rfl⟩
            · simp [-List.mapM_map, Store.frz, frzObs, frzOb, frz_eInts, frz_loc, rfz_loc, frz_int, frz_sl, frz_ints, rfz_ints, frz_strs, frz_bytes, rfz_bytes, rfz_str, rfz_bool, frz_str, frz_bool, Env.put, Env.of, argEnv, rfz_int, List.mapM_append, List.mapM_cons, upTo, upStep, hw, h2, h3]
            · simp [-List.mapM_map, Store.frz, frzObs, frzOb, frz_eInts, frz_loc, rfz_loc, frz_int, frz_sl, frz_ints, rfz_ints, frz_strs, frz_bytes, rfz_bytes, rfz_str, rfz_bool, frz_str, frz_bool, Env.put, Env.of, argEnv, rfz_int, List.mapM_append, List.mapM_cons, upTo, upStep, hw, h2, h3]
          · try simp only [RL] at h3
            refine W.skip ?_
            refine XBlock.norm ?_
            refine XThen.norm ?_
            refine W.region_k fun K hK => ?_
            simp (disch := omega) only [↓RU, RV, RH, ↓reduceIte, Nat.reduceEqDiff, reduceCtorEq, if_pos, w64, ↓RS, RG, Nat.reduceAdd, Nat.reduceMul, Nat.reduceLeDiff, tyint]
            refine hK _ _ ?_
            clear hK K
            refine XThen.norm ?_
            refine ⟨(p.length + 1) - (i + 1), by omega, 1, [eStrs p, .loc 0 v0 0 (upTo p k (upsTo p k) (i + 1)).2.length, .int .i64 k, .int .i64 (upTo p k (upsTo p k) (i + 1)).1, .int .i64 (i + 1)], ⟨[.arr v0 30 1 ((upTo p k (upsTo p k) (i + 1)).2.map eInts)], tk⟩, ?_, ?_, (i + 1), v0, tk, rfl, by omega, rfl, rfl⟩
            · simp [-List.mapM_map, Store.frz, frzObs, frzOb, frz_eInts, frz_loc, rfz_loc, frz_int, frz_sl, frz_ints, rfz_ints, frz_strs, frz_bytes, rfz_bytes, rfz_str, rfz_bool, frz_str, frz_bool, Env.put, Env.of, argEnv, rfz_int, List.mapM_append, List.mapM_cons, upTo, upStep, hw, h2, h3]
            · simp [-List.mapM_map, Store.frz, frzObs, frzOb, frz_eInts, frz_loc, rfz_loc, frz_int, frz_sl, frz_ints, rfz_ints, frz_strs, frz_bytes, rfz_bytes, rfz_str, rfz_bool, frz_str, frz_bool, Env.put, Env.of, argEnv, rfz_int, List.mapM_append, List.mapM_cons, upTo, upStep, hw, h2, h3]
      · skip
        simp (disch := omega) only [↓RU, RV, RH, ↓reduceIte, Nat.reduceEqDiff, reduceCtorEq, if_pos, w64, ↓RS, RG, Nat.reduceAdd, Nat.reduceMul, Nat.reduceLeDiff, tyint, hw]
        refine hK _ _ ?_
        clear hK K
        refine W.cond rfl (fun h2 => ?_) (fun h2 => ?_)
        · try simp only [RL] at h2
          refine W.region_k fun K hK => ?_
          simp (disch := omega) only [↓RU, RV, RH, ↓reduceIte, Nat.reduceEqDiff, reduceCtorEq, if_pos, ↓RS, RG, Nat.reduceAdd, Nat.reduceMul, Nat.reduceLeDiff]
          refine hK _ _ ?_
          clear hK K
          refine XThen.norm ?_
          refine W.seq_region fun K hK => ?_
          simp (disch := omega) only [↓RU, RV, RH, ↓reduceIte, Nat.reduceEqDiff, reduceCtorEq, if_pos, w64, ↓RS, RG, Nat.reduceAdd, Nat.reduceMul, Nat.reduceLeDiff, tyint]
          refine hK _ _ ?_
          clear hK K
          refine W.cond rfl (fun h3 => ?_) (fun h3 => ?_)
          · try simp only [RL] at h3
            exact absurd h3 (by simp)
          · try simp only [RL] at h3
            refine W.skip ?_
            refine XBlock.norm ?_
            refine XThen.norm ?_
            refine W.region_k fun K hK => ?_
            simp (disch := omega) only [↓RU, RV, RH, ↓reduceIte, Nat.reduceEqDiff, reduceCtorEq, if_pos, w64, ↓RS, RG, Nat.reduceAdd, Nat.reduceMul, Nat.reduceLeDiff, tyint]
            refine hK _ _ ?_
            clear hK K
            refine XThen.norm ?_
            refine ⟨(p.length + 1) - (i + 1), by omega, 1, [eStrs p, .loc 0 v0 0 (upTo p k (upsTo p k) (i + 1)).2.length, .int .i64 k, .int .i64 (upTo p k (upsTo p k) (i + 1)).1, .int .i64 (i + 1)], ⟨[.arr v0 30 1 ((upTo p k (upsTo p k) (i + 1)).2.map eInts)], tk⟩, ?_, ?_, (i + 1), v0, tk, rfl, by omega, rfl, rfl⟩
            · simp [-List.mapM_map, Store.frz, frzObs, frzOb, frz_eInts, frz_loc, rfz_loc, frz_int, frz_sl, frz_ints, rfz_ints, frz_strs, frz_bytes, rfz_bytes, rfz_str, rfz_bool, frz_str, frz_bool, Env.put, Env.of, argEnv, rfz_int, List.mapM_append, List.mapM_cons, upTo, upStep, hw, h2, h3]
            · simp [-List.mapM_map, Store.frz, frzObs, frzOb, frz_eInts, frz_loc, rfz_loc, frz_int, frz_sl, frz_ints, rfz_ints, frz_strs, frz_bytes, rfz_bytes, rfz_str, rfz_bool, frz_str, frz_bool, Env.put, Env.of, argEnv, rfz_int, List.mapM_append, List.mapM_cons, upTo, upStep, hw, h2, h3]
        · try simp only [RL] at h2
          refine W.skip ?_
          refine XThen.norm ?_
          refine W.seq_region fun K hK => ?_
          simp (disch := omega) only [↓RU, RV, RH, ↓reduceIte, Nat.reduceEqDiff, reduceCtorEq, if_pos, w64, ↓RS, RG, Nat.reduceAdd, Nat.reduceMul, Nat.reduceLeDiff, tyint]
          refine hK _ _ ?_
          clear hK K
          refine W.cond rfl (fun h3 => ?_) (fun h3 => ?_)
          · try simp only [RL] at h3
            exact absurd h3 (by simp)
          · try simp only [RL] at h3
            refine W.skip ?_
            refine XBlock.norm ?_
            refine XThen.norm ?_
            refine W.region_k fun K hK => ?_
            simp (disch := omega) only [↓RU, RV, RH, ↓reduceIte, Nat.reduceEqDiff, reduceCtorEq, if_pos, w64, ↓RS, RG, Nat.reduceAdd, Nat.reduceMul, Nat.reduceLeDiff, tyint]
            refine hK _ _ ?_
            clear hK K
            refine XThen.norm ?_
            refine ⟨(p.length + 1) - (i + 1), by omega, 1, [eStrs p, .loc 0 v0 0 (upTo p k (upsTo p k) (i + 1)).2.length, .int .i64 k, .int .i64 (upTo p k (upsTo p k) (i + 1)).1, .int .i64 (i + 1)], ⟨[.arr v0 30 1 ((upTo p k (upsTo p k) (i + 1)).2.map eInts)], tk⟩, ?_, ?_, (i + 1), v0, tk, rfl, by omega, rfl, rfl⟩
            · simp [-List.mapM_map, Store.frz, frzObs, frzOb, frz_eInts, frz_loc, rfz_loc, frz_int, frz_sl, frz_ints, rfz_ints, frz_strs, frz_bytes, rfz_bytes, rfz_str, rfz_bool, frz_str, frz_bool, Env.put, Env.of, argEnv, rfz_int, List.mapM_append, List.mapM_cons, upTo, upStep, hw, h2, h3]
            · simp [-List.mapM_map, Store.frz, frzObs, frzOb, frz_eInts, frz_loc, rfz_loc, frz_int, frz_sl, frz_ints, rfz_ints, frz_strs, frz_bytes, rfz_bytes, rfz_str, rfz_bool, frz_str, frz_bool, Env.put, Env.of, argEnv, rfz_int, List.mapM_append, List.mapM_cons, upTo, upStep, hw, h2, h3]
    · try simp only [RL] at h1
      refine W.exit ?_
      refine XThen.exit ?_
      refine XThen.exit ?_
      refine XBlock.hit ?_
      refine XBlock.norm ?_
      refine XThen.norm ?_
      refine W.region_k fun K hK => ?_
      simp (disch := omega) only [↓RU, RV, RH, ↓reduceIte, Nat.reduceEqDiff, reduceCtorEq, if_pos, w64, ↓RS, RG, Nat.reduceAdd, Nat.reduceMul, Nat.reduceLeDiff, tyint]
      refine hK _ _ ?_
      clear hK K
      refine XThen.norm ?_
      refine ⟨row0.length - (k + 1), by omega, 1, [eStrs p, .loc 0 v0 0 (upsTo p (k + 1)).length, .int .i64 (k + 1)], ⟨[.arr v0 30 1 ((upsTo p (k + 1)).map eInts)], tk⟩, ?_, ?_, (k + 1), v0, tk, rfl, by omega, by omega, rfl, rfl⟩
      · simp [-List.mapM_map, Store.frz, frzObs, frzOb, frz_eInts, frz_loc, rfz_loc, frz_int, frz_sl, frz_ints, rfz_ints, frz_strs, frz_bytes, rfz_bytes, rfz_str, rfz_bool, frz_str, frz_bool, Env.put, Env.of, argEnv, rfz_int, List.mapM_append, List.mapM_cons] <;> (rw [upsTo_succ h1k]; obtain rfl : i = p.length + 1 := (by omega); simp)
      · simp [-List.mapM_map, Store.frz, frzObs, frzOb, frz_eInts, frz_loc, rfz_loc, frz_int, frz_sl, frz_ints, rfz_ints, frz_strs, frz_bytes, rfz_bytes, rfz_str, rfz_bool, frz_str, frz_bool, Env.put, Env.of, argEnv, rfz_int, List.mapM_append, List.mapM_cons] <;> (rw [upsTo_succ h1k]; obtain rfl : i = p.length + 1 := (by omega); simp)
  · try simp only [RL] at h
    refine W.exit ?_
    refine XThen.exit ?_
    refine XThen.exit ?_
    refine XBlock.hit ?_
    refine XThen.norm ?_
    refine W.seq_region fun K hK => ?_
    simp (disch := omega) only [↓RU, RV, RH, ↓reduceIte, Nat.reduceEqDiff, reduceCtorEq, if_pos, ↓RS, RG, Nat.reduceAdd, Nat.reduceMul, Nat.reduceLeDiff]
    refine hK _ _ ?_
    clear hK K
    refine W.ret ?_
    refine BodyQ.ret rfl ?_
    have hkp : k = row0.length := by omega
    subst hkp
    rw [uprights, hhd]
    exact reify_loc (k := 9) rfl (by simp) (mapM_ints2 _)

end Fw
end Go.Proofs.Ytmhcknpjgikgmaa

/-! All walls; sets of rooms, gone through. -/
namespace Go.Proofs.Ytmhcknpjgikgmaa
namespace Fw
open Go

theorem l2Walls_pc {p : List Txt} (hs : Sm p) (hg : gridB p = true) : PC Try.prog 98 [eStrs p] (.sl ((walls p).map eInts) (walls p).length) false := by
  have hp := hs.rows
  have hsm := grid_small hg
  obtain ⟨row0, hrow0, hrm0⟩ := get_of hsm.1
  have hhd := hdRow_of hrow0
  have hw6 := hsm.2.2 row0 hrm0
  have hw1 := row_pos hg hrow0
  have hwl := walls_len hg
  simp only [walls, List.length_append, List.length_map] at hwl
  refine PC.of ⟨Try.func98, by kernel_rfl, rfl, by kernel_rfl⟩ tabOk mixed (by show 1 ≤ Try.f98.ntmps; decide) ?_
  refine W.seq_region fun K hK => ?_
  simp (disch := omega) only [↓RU, RV, RH, ↓reduceIte, Nat.reduceEqDiff, reduceCtorEq, if_pos, ↓RS, RG, Nat.reduceAdd, Nat.reduceMul, Nat.reduceLeDiff]
  refine hK _ _ ?_
  clear hK K
  refine W.seq_region fun K hK => ?_
  simp (disch := omega) only [↓RU, RV, RH, ↓reduceIte, Nat.reduceEqDiff, reduceCtorEq, if_pos, ↓RS, RG, Nat.reduceAdd, Nat.reduceMul, Nat.reduceLeDiff, tyLLint, tyLint, tyint]
  refine hK _ _ ?_
  clear hK K
  refine W.seq_region fun K hK => ?_
  simp (disch := omega) only [↓RU, RV, RH, ↓reduceIte, Nat.reduceEqDiff, reduceCtorEq, if_pos, List.append_nil, ↓RS, RG, Nat.reduceAdd, Nat.reduceMul, Nat.reduceLeDiff]
  refine CallR.pc (l2Upright_pc hs hg) rfl (.inr rfl) ?_
  simp (disch := omega) only [↓RU, RV, RH, ↓reduceIte, Nat.reduceEqDiff, reduceCtorEq, if_pos, List.append_nil, ↓RS, RG, Nat.reduceAdd, Nat.reduceMul, Nat.reduceLeDiff]
  refine hK _ _ ?_
  clear hK K
  refine W.seq ?_
  refine W.seq_region fun K hK => ?_
  simp (disch := omega) only [↓RU, RV, RH, ↓reduceIte, Nat.reduceEqDiff, reduceCtorEq, if_pos, ↓RS, RG, Nat.reduceAdd, Nat.reduceMul, Nat.reduceLeDiff]
  refine hK _ _ ?_
  clear hK K
  refine W.block ?_
  refine W.loopZ [0, 3, 4, 5] (fun n vs S => ∃ i v0 tk : Nat, n = (uprights p).length - i ∧ i ≤ (uprights p).length ∧ vs = [eStrs p, .loc 0 v0 0 (wallsL p i).length, .sl ((uprights p).map eInts) (uprights p).length, .int .i64 i] ∧ S = ⟨[.arr v0 30 1 ((wallsL p i).map eInts)], tk⟩) ((uprights p).length) ?_ ?_
  · refine ⟨1, [eStrs p, .loc 0 0 0 (wallsL p 0).length, .sl ((uprights p).map eInts) (uprights p).length, .int .i64 0], ⟨[.arr 0 30 1 ((wallsL p 0).map eInts)], 1⟩, ?_, ?_, 0, 0, 1, rfl, by omega, rfl, rfl⟩
    · rfl
    · rfl
  rintro n vs S - ⟨i, v0, tk, rfl, h_i, rfl, rfl⟩
  refine W.seq ?_
  refine W.seq_region fun K hK => ?_
  simp (disch := omega) only [↓RU, RV, RH, ↓reduceIte, Nat.reduceEqDiff, reduceCtorEq, if_pos, w64, ↓RS, RG, Nat.reduceAdd, Nat.reduceMul, Nat.reduceLeDiff, tyLLint, tyLint, tyint]
  refine hK _ _ ?_
  clear hK K
  refine W.cond rfl (fun h => ?_) (fun h => ?_)
  · try simp only [RL] at h
    obtain ⟨u, hu, hum⟩ := get_of (show i < (uprights p).length by omega)
    have hu3 := ups_three hum
    have htl := wallsL_len h_i
    refine W.skip ?_
    refine XThen.norm ?_
    refine W.seq ?_
    refine W.block ?_
    refine W.region_k fun K hK => ?_
    simp (disch := omega) only [↓RU, RV, RH, ↓reduceIte, Nat.reduceEqDiff, reduceCtorEq, if_pos, ↓RS, RG, Nat.reduceAdd, Nat.reduceMul, Nat.reduceLeDiff, tyLLint, tyLint, tyint, hu, htl, hu3]
    refine hK _ _ ?_
    clear hK K
    refine XBlock.norm ?_
    refine XThen.norm ?_
    refine W.region_k fun K hK => ?_
    simp (disch := omega) only [↓RU, RV, RH, ↓reduceIte, Nat.reduceEqDiff, reduceCtorEq, if_pos, w64, ↓RS, RG, Nat.reduceAdd, Nat.reduceMul, Nat.reduceLeDiff, tyint]
    refine hK _ _ ?_
    clear hK K
    refine XThen.norm ?_
    refine ⟨(uprights p).length - (i + 1), by omega, 1, [eStrs p, .loc 0 (tk + 3) 0 (wallsL p (i + 1)).length, .sl ((uprights p).map eInts) (uprights p).length, .int .i64 (i + 1)], ⟨[.arr (tk + 3) 30 1 ((wallsL p (i + 1)).map eInts)], (tk + 4)⟩, ?_, ?_, (i + 1), tk + 3, tk + 4, rfl, by omega, rfl, rfl⟩
    · simp [-List.mapM_map, Store.frz, frzObs, frzOb, frz_eInts, frz_loc, rfz_loc, frz_int, frz_sl, frz_ints, rfz_ints, frz_strs, frz_bytes, rfz_bytes, rfz_str, rfz_bool, frz_str, frz_bool, Env.put, Env.of, argEnv, rfz_int, List.mapM_append, List.mapM_cons, hu3, tk_le, wallsL_succ hu, htl]
    · simp [-List.mapM_map, Store.frz, frzObs, frzOb, frz_eInts, frz_loc, rfz_loc, frz_int, frz_sl, frz_ints, rfz_ints, frz_strs, frz_bytes, rfz_bytes, rfz_str, rfz_bool, frz_str, frz_bool, Env.put, Env.of, argEnv, rfz_int, List.mapM_append, List.mapM_cons, hu3, tk_le, wallsL_succ hu, htl]
  · try simp only [RL] at h
    obtain rfl : i = (uprights p).length := by omega
    refine W.exit ?_
    refine XThen.exit ?_
    refine XThen.exit ?_
    refine XBlock.hit ?_
    refine XThen.norm ?_
    refine W.seq_region fun K hK => ?_
    simp (disch := omega) only [↓RU, RV, RH, ↓reduceIte, Nat.reduceEqDiff, reduceCtorEq, if_pos, List.append_nil, ↓RS, RG, Nat.reduceAdd, Nat.reduceMul, Nat.reduceLeDiff]
    refine CallR.pc (l1Trans_pc hs hg) rfl (.inl rfl) ?_
    simp (disch := omega) only [↓RU, RV, RH, ↓reduceIte, Nat.reduceEqDiff, reduceCtorEq, if_pos, List.append_nil, ↓RS, RG, Nat.reduceAdd, Nat.reduceMul, Nat.reduceLeDiff]
    refine CallR.pc (l2Upright_pc (Sm.grid (trans_grid hg)) (trans_grid hg)) rfl (.inr rfl) ?_
    simp (disch := omega) only [↓RU, RV, RH, ↓reduceIte, Nat.reduceEqDiff, reduceCtorEq, if_pos, List.append_nil, ↓RS, RG, Nat.reduceAdd, Nat.reduceMul, Nat.reduceLeDiff]
    refine hK _ _ ?_
    clear hK K
    refine W.seq ?_
    refine W.seq_region fun K hK => ?_
    simp (disch := omega) only [↓RU, RV, RH, ↓reduceIte, Nat.reduceEqDiff, reduceCtorEq, if_pos, ↓RS, RG, Nat.reduceAdd, Nat.reduceMul, Nat.reduceLeDiff]
    refine hK _ _ ?_
    clear hK K
    refine W.block ?_
    refine W.loopZ [0, 3, 6, 7] (fun n vs S => ∃ j v0 tk : Nat, n = (uprights (transP p)).length - j ∧ j ≤ (uprights (transP p)).length ∧ vs = [eStrs p, .loc 0 v0 0 (wallsR p j).length, .sl ((uprights (transP p)).map eInts) (uprights (transP p)).length, .int .i64 j] ∧ S = ⟨[.arr v0 30 1 ((wallsR p j).map eInts)], tk⟩) ((uprights (transP p)).length) ?_ ?_
    · refine ⟨1, [eStrs p, .loc 0 v0 0 (wallsR p 0).length, .sl ((uprights (transP p)).map eInts) (uprights (transP p)).length, .int .i64 0], ⟨[.arr v0 30 1 ((wallsR p 0).map eInts)], tk⟩, ?_, ?_, 0, v0, tk, rfl, by omega, rfl, rfl⟩
      · simp [-List.mapM_map, Store.frz, frzObs, frzOb, frz_eInts, frz_loc, rfz_loc, frz_int, frz_sl, frz_ints, rfz_ints, frz_strs, frz_bytes, rfz_bytes, rfz_str, rfz_bool, frz_str, frz_bool, Env.put, Env.of, argEnv, rfz_int, List.mapM_append, List.mapM_cons] <;> simp [wallsR_zero]
      · simp [-List.mapM_map, Store.frz, frzObs, frzOb, frz_eInts, frz_loc, rfz_loc, frz_int, frz_sl, frz_ints, rfz_ints, frz_strs, frz_bytes, rfz_bytes, rfz_str, rfz_bool, frz_str, frz_bool, Env.put, Env.of, argEnv, rfz_int, List.mapM_append, List.mapM_cons] <;> simp [wallsR_zero]
    rintro n vs S - ⟨j, v0, tk, rfl, h_j, rfl, rfl⟩
    refine W.seq ?_
    refine W.seq_region fun K hK => ?_
    simp (disch := omega) only [↓RU, RV, RH, ↓reduceIte, Nat.reduceEqDiff, reduceCtorEq, if_pos, w64, ↓RS, RG, Nat.reduceAdd, Nat.reduceMul, Nat.reduceLeDiff, tyLLint, tyLint, tyint]
    refine hK _ _ ?_
    clear hK K
    refine W.cond rfl (fun h2 => ?_) (fun h2 => ?_)
    · try simp only [RL] at h2
      obtain ⟨u, hu, hum⟩ := get_of (show j < (uprights (transP p)).length by omega)
      have hu3 := ups_three hum
      have htl := wallsR_len h_j
      refine W.skip ?_
      refine XThen.norm ?_
      refine W.seq ?_
      refine W.block ?_
      refine W.region_k fun K hK => ?_
      simp (disch := omega) only [↓RU, RV, RH, ↓reduceIte, Nat.reduceEqDiff, reduceCtorEq, if_pos, ↓RS, RG, Nat.reduceAdd, Nat.reduceMul, Nat.reduceLeDiff, tyLLint, tyLint, tyint, hu, htl, hu3]
      refine hK _ _ ?_
      clear hK K
      refine XBlock.norm ?_
      refine XThen.norm ?_
      refine W.region_k fun K hK => ?_
      simp (disch := omega) only [↓RU, RV, RH, ↓reduceIte, Nat.reduceEqDiff, reduceCtorEq, if_pos, w64, ↓RS, RG, Nat.reduceAdd, Nat.reduceMul, Nat.reduceLeDiff, tyint]
      refine hK _ _ ?_
      clear hK K
      refine XThen.norm ?_
      refine ⟨(uprights (transP p)).length - (j + 1), by omega, 1, [eStrs p, .loc 0 (tk + 3) 0 (wallsR p (j + 1)).length, .sl ((uprights (transP p)).map eInts) (uprights (transP p)).length, .int .i64 (j + 1)], ⟨[.arr (tk + 3) 30 1 ((wallsR p (j + 1)).map eInts)], (tk + 4)⟩, ?_, ?_, (j + 1), tk + 3, tk + 4, rfl, by omega, rfl, rfl⟩
      · simp [-List.mapM_map, Store.frz, frzObs, frzOb, frz_eInts, frz_loc, rfz_loc, frz_int, frz_sl, frz_ints, rfz_ints, frz_strs, frz_bytes, rfz_bytes, rfz_str, rfz_bool, frz_str, frz_bool, Env.put, Env.of, argEnv, rfz_int, List.mapM_append, List.mapM_cons, hu3, tk_le, wallsR_succ hu, htl]
      · simp [-List.mapM_map, Store.frz, frzObs, frzOb, frz_eInts, frz_loc, rfz_loc, frz_int, frz_sl, frz_ints, rfz_ints, frz_strs, frz_bytes, rfz_bytes, rfz_str, rfz_bool, frz_str, frz_bool, Env.put, Env.of, argEnv, rfz_int, List.mapM_append, List.mapM_cons, hu3, tk_le, wallsR_succ hu, htl]
    · try simp only [RL] at h2
      obtain rfl : j = (uprights (transP p)).length := by omega
      refine W.exit ?_
      refine XThen.exit ?_
      refine XThen.exit ?_
      refine XBlock.hit ?_
      refine XThen.norm ?_
      refine W.seq_region fun K hK => ?_
      simp (disch := omega) only [↓RU, RV, RH, ↓reduceIte, Nat.reduceEqDiff, reduceCtorEq, if_pos, ↓RS, RG, Nat.reduceAdd, Nat.reduceMul, Nat.reduceLeDiff]
      refine hK _ _ ?_
      clear hK K
      refine W.ret ?_
      refine BodyQ.ret rfl ?_
      rw [wallsR_all]
      exact reify_loc (k := 9) rfl (by simp) (mapM_ints2 _)

theorem l5Just_pn {p : List Txt} (hs : Sm p) (hg : gridB p = true) (h9 : l1Rooms p ≤ 9) (kind : Int) : PN Try.prog 77 [eStrs p, .int .i64 kind] (.loc 0 0 0 (just p kind).length) [.arr 0 3 1 ((just p kind).map fun m : Nat => PV.int .i64 m)] false := by
  have hrb := l1Rooms_bound p
  have hwl := walls_len hg
  obtain ⟨R, hR⟩ : ∃ R : Nat, l1Rooms p = R := ⟨(l1Rooms p).toNat, by omega⟩
  refine PN.of ⟨Try.func77, by kernel_rfl, rfl, by kernel_rfl⟩ tabOk mixed (by show 2 ≤ Try.f77.ntmps; decide) ?_
  refine W.seq_region fun K hK => ?_
  simp (disch := omega) only [↓RU, RV, RH, ↓reduceIte, Nat.reduceEqDiff, reduceCtorEq, if_pos, ↓RS, RG, Nat.reduceAdd, Nat.reduceMul, Nat.reduceLeDiff]
  refine hK _ _ ?_
  clear hK K
  refine W.seq_region fun K hK => ?_
  simp (disch := omega) only [↓RU, RV, RH, ↓reduceIte, Nat.reduceEqDiff, reduceCtorEq, if_pos, List.append_nil, ↓RS, RG, Nat.reduceAdd, Nat.reduceMul, Nat.reduceLeDiff, tyLint, tyint, hR, repz_nat, ile_true]
  refine CallR.pc (l1Rooms_pc hs) rfl (.inl rfl) ?_
  simp (disch := omega) only [↓RU, RV, RH, ↓reduceIte, Nat.reduceEqDiff, reduceCtorEq, if_pos, List.append_nil, ↓RS, RG, Nat.reduceAdd, Nat.reduceMul, Nat.reduceLeDiff, tyLint, tyint, hR, repz_nat, ile_true]
  refine hK _ _ ?_
  clear hK K
  refine W.seq_region fun K hK => ?_
  simp (disch := omega) only [↓RU, RV, RH, ↓reduceIte, Nat.reduceEqDiff, reduceCtorEq, if_pos, List.append_nil, ↓RS, RG, Nat.reduceAdd, Nat.reduceMul, Nat.reduceLeDiff]
  refine CallR.pc (l2Walls_pc hs hg) rfl (.inr rfl) ?_
  simp (disch := omega) only [↓RU, RV, RH, ↓reduceIte, Nat.reduceEqDiff, reduceCtorEq, if_pos, List.append_nil, ↓RS, RG, Nat.reduceAdd, Nat.reduceMul, Nat.reduceLeDiff]
  refine hK _ _ ?_
  clear hK K
  refine W.seq ?_
  refine W.seq_region fun K hK => ?_
  simp (disch := omega) only [↓RU, RV, RH, ↓reduceIte, Nat.reduceEqDiff, reduceCtorEq, if_pos, ↓RS, RG, Nat.reduceAdd, Nat.reduceMul, Nat.reduceLeDiff]
  refine hK _ _ ?_
  clear hK K
  refine W.block ?_
  refine W.loop [0, 1, 5, 6, 7] (fun n vs S => ∃ i : Nat, n = (walls p).length - i ∧ i ≤ (walls p).length ∧ vs = [eStrs p, .int .i64 kind, .loc 0 0 0 (l1Rooms p).toNat, .sl ((walls p).map eInts) (walls p).length, .int .i64 i] ∧ S = ⟨[.arr 0 3 1 ((((walls p).take i).foldl (justW p kind) (List.replicate (l1Rooms p).toNat 0)).map fun m : Nat => PV.int .i64 m)], 1⟩) ((walls p).length) ?_ ?_
  · refine ⟨1, 0, rfl, Nat.zero_le _, ?_, by simp [hR, take_eq, Env.put, Env.of, argEnv]⟩
    simp [Env.put, Env.of, argEnv, hR]
  rintro n vs S - ⟨i, rfl, h_i, rfl, rfl⟩
  refine W.seq ?_
  refine W.seq_region fun K hK => ?_
  simp (disch := omega) only [↓RU, RV, RH, ↓reduceIte, Nat.reduceEqDiff, reduceCtorEq, if_pos, w64, ↓RS, RG, Nat.reduceAdd, Nat.reduceMul, Nat.reduceLeDiff, tyLLint, tyLint, tyint]
  refine hK _ _ ?_
  clear hK K
  refine W.cond rfl (fun h => ?_) (fun h => ?_)
  · try simp only [RL] at h
    obtain ⟨w, hw, hwm⟩ := get_of (show i < (walls p).length by omega)
    have hok := walls_ok hg hwm
    have hsr := sidesW_rooms hg hok
    have hsl := sidesW_len hg hok
    obtain ⟨wk, wl, wf, wg, hwe, hw1, hw2, hw3⟩ := hok
    have hM : Msk (l1Rooms p).toNat (((walls p).take i).foldl (justW p kind) (List.replicate (l1Rooms p).toNat 0)) := Msk.foldl (fun _ hm _ hw => hm.justW hg h9 (walls_ok hg (List.mem_of_mem_take hw))) ⟨by simp, fun m hm => by rw [(List.mem_replicate.1 hm).2]; omega⟩
    generalize hMe : ((walls p).take i).foldl (justW p kind) (List.replicate (l1Rooms p).toNat 0) = M at hM
    refine W.skip ?_
    refine XThen.norm ?_
    refine W.seq ?_
    refine W.block ?_
    refine W.seq ?_
    refine W.seq_region fun K hK => ?_
    simp (disch := omega) only [↓RU, RV, RH, ↓reduceIte, Nat.reduceEqDiff, reduceCtorEq, if_pos, w64, ↓RS, RG, Nat.reduceAdd, Nat.reduceMul, Nat.reduceLeDiff, tyLLint, tyLint, tyint, hw, hwe, hMe]
    refine hK _ _ ?_
    clear hK K
    refine W.cond rfl (fun h1 => ?_) (fun h1 => ?_)
    · try simp only [RL] at h1
      have hjs : justW p kind M w = M := by simp [justW, hwe, h1]
      refine W.exit ?_
      refine XThen.exit ?_
      refine XBlock.hit ?_
      refine XThen.norm ?_
      refine W.region_k fun K hK => ?_
      simp (disch := omega) only [↓RU, RV, RH, ↓reduceIte, Nat.reduceEqDiff, reduceCtorEq, if_pos, w64, ↓RS, RG, Nat.reduceAdd, Nat.reduceMul, Nat.reduceLeDiff, tyint]
      refine hK _ _ ?_
      clear hK K
      refine XThen.norm ?_
      refine ⟨(walls p).length - (i + 1), by omega, 1, i + 1, rfl, by omega, ?_, ?_⟩
      · simp [Env.put, Env.of]
      · simp only [take_eq, foldl_tk hw, hMe, hjs]; rfl
    · try simp only [RL] at h1
      have hjs : justW p kind M w = justA (sidesW p w).2 M (sidesW p w).1 := by simp [justW, hwe, h1]
      refine W.skip ?_
      refine XThen.norm ?_
      refine W.seq_region fun K hK => ?_
      simp (disch := omega) only [↓RU, RV, RH, ↓reduceIte, Nat.reduceEqDiff, reduceCtorEq, if_pos, List.append_nil, ↓RS, RG, Nat.reduceAdd, Nat.reduceMul, Nat.reduceLeDiff, tyLLint, tyLint, tyint, hw, hwe]
      refine CallR.pc (l2Sides_pc hs hg (kind := wk) (line := wl) (fr := wf) (long := wg) hw1 (fun h => by omega) (fun h => by omega)) rfl (.inl rfl) ?_
      simp (disch := omega) only [↓RU, RV, RH, ↓reduceIte, Nat.reduceEqDiff, reduceCtorEq, if_pos, List.append_nil, ↓RS, RG, Nat.reduceAdd, Nat.reduceMul, Nat.reduceLeDiff, tyLLint, tyLint, tyint, hw, hwe]
      refine hK _ _ ?_
      clear hK K
      have hA : sidesTo p wk wl wf wg = sidesW p w := by simp [sidesW, hwe]
      rw [hA]
      refine W.seq_region fun K hK => ?_
      simp (disch := omega) only [↓RU, RV, RH, ↓reduceIte, Nat.reduceEqDiff, reduceCtorEq, if_pos, ↓RS, RG, Nat.reduceAdd, Nat.reduceMul, Nat.reduceLeDiff]
      refine hK _ _ ?_
      clear hK K
      refine W.block ?_
      refine W.loop [0, 1, 5, 6, 7, 8, 9, 10] (fun n vs S => ∃ x : Nat, n = (sidesW p w).1.length - x ∧ x ≤ (sidesW p w).1.length ∧ vs = [eStrs p, .int .i64 kind, .loc 0 0 0 (l1Rooms p).toNat, .sl ((walls p).map eInts) (walls p).length, .int .i64 i, eInts (sidesW p w).1, eInts (sidesW p w).2, .int .i64 x] ∧ S = ⟨[.arr 0 3 1 ((((sidesW p w).1.take x).foldl (fun ms a => justB a.toNat ms (sidesW p w).2) M).map fun m : Nat => PV.int .i64 m)], 1⟩) ((sidesW p w).1.length) ?_ ?_
      · refine ⟨1, 0, rfl, Nat.zero_le _, ?_, by simp [take_eq]⟩
        simp [Env.put, Env.of]
      rintro n vs S - ⟨x, rfl, h_x, rfl, rfl⟩
      refine W.seq ?_
      refine W.seq_region fun K hK => ?_
      simp (disch := omega) only [↓RU, RV, RH, ↓reduceIte, Nat.reduceEqDiff, reduceCtorEq, if_pos, w64, ↓RS, RG, Nat.reduceAdd, Nat.reduceMul, Nat.reduceLeDiff, tyLint, tyint]
      refine hK _ _ ?_
      clear hK K
      refine W.cond rfl (fun h2 => ?_) (fun h2 => ?_)
      · try simp only [RL] at h2
        obtain ⟨a, ha, ham⟩ := get_of (show x < (sidesW p w).1.length by omega)
        have hab := hsr.1 a ham
        obtain ⟨a, rfl⟩ : ∃ a2 : Nat, a = a2 := ⟨a.toNat, by omega⟩
        have hX : Msk (l1Rooms p).toNat (((sidesW p w).1.take x).foldl (fun ms a => justB a.toNat ms (sidesW p w).2) M) := Msk.foldl (fun _ hm _ _ => hm.justB fun b hb => by have := hsr.2 b hb; omega) hM
        generalize hXe : ((sidesW p w).1.take x).foldl (fun ms a => justB a.toNat ms (sidesW p w).2) M = X at hX
        refine W.skip ?_
        refine XThen.norm ?_
        refine W.seq ?_
        refine W.block ?_
        refine W.seq_region fun K hK => ?_
        simp (disch := omega) only [↓RU, RV, RH, ↓reduceIte, Nat.reduceEqDiff, reduceCtorEq, if_pos, ↓RS, RG, Nat.reduceAdd, Nat.reduceMul, Nat.reduceLeDiff]
        refine hK _ _ ?_
        clear hK K
        refine W.block ?_
        refine W.loop [0, 1, 5, 6, 7, 8, 9, 10, 11] (fun n vs S => ∃ y : Nat, n = (sidesW p w).2.length - y ∧ y ≤ (sidesW p w).2.length ∧ vs = [eStrs p, .int .i64 kind, .loc 0 0 0 (l1Rooms p).toNat, .sl ((walls p).map eInts) (walls p).length, .int .i64 i, eInts (sidesW p w).1, eInts (sidesW p w).2, .int .i64 x, .int .i64 y] ∧ S = ⟨[.arr 0 3 1 ((((sidesW p w).2.take y).foldl (fun ms b => orBit ms a b.toNat) X).map fun m : Nat => PV.int .i64 m)], 1⟩) ((sidesW p w).2.length) ?_ ?_
        · refine ⟨1, 0, rfl, Nat.zero_le _, ?_, by simp [take_eq, hXe]⟩
          simp [Env.put, Env.of]
        rintro n vs S - ⟨y, rfl, h_y, rfl, rfl⟩
        refine W.seq ?_
        refine W.seq_region fun K hK => ?_
        simp (disch := omega) only [↓RU, RV, RH, ↓reduceIte, Nat.reduceEqDiff, reduceCtorEq, if_pos, w64, ↓RS, RG, Nat.reduceAdd, Nat.reduceMul, Nat.reduceLeDiff, tyLint, tyint]
        refine hK _ _ ?_
        clear hK K
        refine W.cond rfl (fun h3 => ?_) (fun h3 => ?_)
        · try simp only [RL] at h3
          obtain ⟨b, hb, hbm⟩ := get_of (show y < (sidesW p w).2.length by omega)
          have hbb := hsr.2 b hbm
          obtain ⟨b, rfl⟩ : ∃ b2 : Nat, b = b2 := ⟨b.toNat, by omega⟩
          have hY : Msk (l1Rooms p).toNat (((sidesW p w).2.take y).foldl (fun ms b => orBit ms a b.toNat) X) := Msk.foldl (fun _ hm b hb => hm.orBit (by have := hsr.2 b (List.mem_of_mem_take hb); omega)) hX
          generalize hYe : ((sidesW p w).2.take y).foldl (fun ms b => orBit ms a b.toNat) X = Y at hY
          obtain ⟨m, hm, hm5⟩ := hY.at_ (show a < (l1Rooms p).toNat by omega)
          have hYl := hY.1
          have hp2 := pow_small (show b < 9 by omega)
          refine W.skip ?_
          refine XThen.norm ?_
          refine W.seq ?_
          refine W.block ?_
          refine W.draw_k (by kernel_rfl) fun K hK => ?_
          simp (disch := omega) only [↓RU, RV, RH, ↓reduceIte, Nat.reduceEqDiff, reduceCtorEq, if_pos, w64, ↓RS, RG, Nat.reduceAdd, Nat.reduceMul, Nat.reduceLeDiff, tyLint, tyint, ha, hb, hm, pShl, w_shl, w_or, hYl, set_spl, set_nat]
          refine hK _ _ ?_
          clear hK K
          refine XBlock.norm ?_
          refine XThen.norm ?_
          refine W.region_k fun K hK => ?_
          simp (disch := omega) only [↓RU, RV, RH, ↓reduceIte, Nat.reduceEqDiff, reduceCtorEq, if_pos, w64, ↓RS, RG, Nat.reduceAdd, Nat.reduceMul, Nat.reduceLeDiff, tyint]
          refine hK _ _ ?_
          clear hK K
          refine XThen.norm ?_
          refine ⟨(sidesW p w).2.length - (y + 1), by omega, 1, y + 1, rfl, by omega, ?_, ?_⟩
          · simp [Env.put, Env.of]
          · simp only [take_eq, foldl_tk hb, hYe, Int.toNat_natCast, orBit_is hm]; rfl
        · try simp only [RL] at h3
          obtain rfl : y = (sidesW p w).2.length := by omega
          rw [List.take_length]
          refine W.exit ?_
          refine XThen.exit ?_
          refine XThen.exit ?_
          refine XBlock.hit ?_
          refine XBlock.norm ?_
          refine XThen.norm ?_
          refine W.region_k fun K hK => ?_
          simp (disch := omega) only [↓RU, RV, RH, ↓reduceIte, Nat.reduceEqDiff, reduceCtorEq, if_pos, w64, ↓RS, RG, Nat.reduceAdd, Nat.reduceMul, Nat.reduceLeDiff, tyint]
          refine hK _ _ ?_
          clear hK K
          refine XThen.norm ?_
          refine ⟨(sidesW p w).1.length - (x + 1), by omega, 1, x + 1, rfl, by omega, ?_, ?_⟩
          · simp [Env.put, Env.of]
          · simp only [take_eq, foldl_tk ha, hXe, Int.toNat_natCast]; rfl
      · try simp only [RL] at h2
        obtain rfl : x = (sidesW p w).1.length := by omega
        rw [List.take_length]
        refine W.exit ?_
        refine XThen.exit ?_
        refine XThen.exit ?_
        refine XBlock.hit ?_
        refine XBlock.norm ?_
        refine XThen.norm ?_
        refine W.region_k fun K hK => ?_
        simp (disch := omega) only [↓RU, RV, RH, ↓reduceIte, Nat.reduceEqDiff, reduceCtorEq, if_pos, w64, ↓RS, RG, Nat.reduceAdd, Nat.reduceMul, Nat.reduceLeDiff, tyint]
        refine hK _ _ ?_
        clear hK K
        refine XThen.norm ?_
        refine ⟨(walls p).length - (i + 1), by omega, 1, i + 1, rfl, by omega, ?_, ?_⟩
        · simp [Env.put, Env.of]
        · simp only [take_eq, foldl_tk hw, hMe, hjs]; rfl
  · try simp only [RL] at h
    obtain rfl : i = (walls p).length := by omega
    rw [List.take_length]
    refine W.exit ?_
    refine XThen.exit ?_
    refine XThen.exit ?_
    refine XBlock.hit ?_
    refine XThen.norm ?_
    refine W.seq_region fun K hK => ?_
    simp (disch := omega) only [↓RU, RV, RH, ↓reduceIte, Nat.reduceEqDiff, reduceCtorEq, if_pos, ↓RS, RG, Nat.reduceAdd, Nat.reduceMul, Nat.reduceLeDiff]
    refine hK _ _ ?_
    clear hK K
    refine W.ret ?_
    refine BodyQ.ret rfl ?_
    have hjl := (just_msk hg h9 kind).1
    rw [just] at hjl ⊢
    rw [hjl]
    exact sh_one rfl (sh_nat _)

theorem l5All_pc {p : List Txt} (hs : Sm p) (hg : gridB p = true) (h9 : l1Rooms p ≤ 9) (kind : Int) : PC Try.prog 48 [eStrs p, .int .i64 kind] (eNats (allS p kind)) true := by
  have hrb := l1Rooms_bound p
  have hJ := just_msk hg h9 kind
  obtain ⟨nr, hn⟩ : ∃ nr : Nat, (just p kind).length = nr := ⟨_, rfl⟩
  have hn9 : nr ≤ 9 := by have := hJ.1; omega
  rw [← hJ.1, hn] at hJ
  refine PC.of ⟨Try.func48, by kernel_rfl, rfl, by kernel_rfl⟩ tabOk mixed (by show 2 ≤ Try.f48.ntmps; decide) ?_
  refine W.seq_region fun K hK => ?_
  simp (disch := omega) only [↓RU, RV, RH, ↓reduceIte, Nat.reduceEqDiff, reduceCtorEq, if_pos, ↓RS, RG, Nat.reduceAdd, Nat.reduceMul, Nat.reduceLeDiff]
  refine hK _ _ ?_
  clear hK K
  refine W.seq_region fun K hK => ?_
  simp (disch := omega) only [↓RU, RV, RH, ↓reduceIte, Nat.reduceEqDiff, reduceCtorEq, if_pos, List.append_nil, ↓RS, RG, Nat.reduceAdd, Nat.reduceMul, Nat.reduceLeDiff]
  refine CallR.pn (l5Just_pn hs hg h9 kind) rfl (.inl rfl) ?_
  simp (disch := omega) only [↓RU, RV, RH, ↓reduceIte, Nat.reduceEqDiff, reduceCtorEq, if_pos, List.append_nil, ↓RS, RG, Nat.reduceAdd, Nat.reduceMul, Nat.reduceLeDiff, RN]
  refine hK _ _ ?_
  clear hK K
  refine W.seq ?_
  refine W.seq_region fun K hK => ?_
  simp (disch := omega) only [↓RU, RV, RH, ↓reduceIte, Nat.reduceEqDiff, reduceCtorEq, if_pos, ↓RS, RG, Nat.reduceAdd, Nat.reduceMul, Nat.reduceLeDiff]
  refine hK _ _ ?_
  clear hK K
  refine W.block ?_
  refine W.loop [0, 1, 5, 6] (fun n vs S => ∃ c : Nat, n = nr - c ∧ c ≤ nr ∧ vs = [eStrs p, .int .i64 kind, .loc 0 0 0 nr, .int .i64 c] ∧ S = ⟨[.arr 0 3 1 (((List.range c).foldl (allC nr) (just p kind)).map fun m : Nat => PV.int .i64 m)], 1⟩) (nr) ?_ ?_
  · refine ⟨1, 0, rfl, Nat.zero_le _, ?_, by simp [take_eq, Env.put, Env.of, argEnv, upOb, up_nats]⟩
    simp [Env.put, Env.of, argEnv, hn]
  rintro n vs S - ⟨c, rfl, h_c, rfl, rfl⟩
  refine W.seq ?_
  refine W.seq_region fun K hK => ?_
  simp (disch := omega) only [↓RU, RV, RH, ↓reduceIte, Nat.reduceEqDiff, reduceCtorEq, if_pos, w64, ↓RS, RG, Nat.reduceAdd, Nat.reduceMul, Nat.reduceLeDiff, tyLint, tyint]
  refine hK _ _ ?_
  clear hK K
  refine W.cond rfl (fun h => ?_) (fun h => ?_)
  · try simp only [RL] at h
    have hX : Msk nr ((List.range c).foldl (allC nr) (just p kind)) := Msk.foldl (fun _ hm _ _ => Msk.foldl (fun _ hm _ _ => hm.allA) hm) hJ
    generalize hXe : (List.range c).foldl (allC nr) (just p kind) = X at hX
    refine W.skip ?_
    refine XThen.norm ?_
    refine W.seq ?_
    refine W.block ?_
    refine W.seq_region fun K hK => ?_
    simp (disch := omega) only [↓RU, RV, RH, ↓reduceIte, Nat.reduceEqDiff, reduceCtorEq, if_pos, ↓RS, RG, Nat.reduceAdd, Nat.reduceMul, Nat.reduceLeDiff]
    refine hK _ _ ?_
    clear hK K
    refine W.block ?_
    refine W.loop [0, 1, 5, 6, 7] (fun n vs S => ∃ a : Nat, n = nr - a ∧ a ≤ nr ∧ vs = [eStrs p, .int .i64 kind, .loc 0 0 0 nr, .int .i64 c, .int .i64 a] ∧ S = ⟨[.arr 0 3 1 (((List.range a).foldl (allA c) X).map fun m : Nat => PV.int .i64 m)], 1⟩) (nr) ?_ ?_
    · refine ⟨1, 0, rfl, Nat.zero_le _, ?_, by simp [take_eq, hXe]⟩
      simp [Env.put, Env.of]
    rintro n vs S - ⟨a, rfl, h_a, rfl, rfl⟩
    refine W.seq ?_
    refine W.seq_region fun K hK => ?_
    simp (disch := omega) only [↓RU, RV, RH, ↓reduceIte, Nat.reduceEqDiff, reduceCtorEq, if_pos, w64, ↓RS, RG, Nat.reduceAdd, Nat.reduceMul, Nat.reduceLeDiff, tyLint, tyint]
    refine hK _ _ ?_
    clear hK K
    refine W.cond rfl (fun h1 => ?_) (fun h1 => ?_)
    · try simp only [RL] at h1
      have hY : Msk nr ((List.range a).foldl (allA c) X) := Msk.foldl (fun _ hm _ _ => hm.allA) hX
      generalize hYe : (List.range a).foldl (allA c) X = Y at hY
      obtain ⟨m, hm, hm5⟩ := hY.at_ (show a < nr by omega)
      obtain ⟨k, hk, hk5⟩ := hY.at_ (show c < nr by omega)
      have hYl := hY.1
      refine W.skip ?_
      refine XThen.norm ?_
      refine W.seq ?_
      refine W.block ?_
      refine W.seq_region fun K hK => ?_
      simp (disch := omega) only [↓RU, RV, RH, ↓reduceIte, Nat.reduceEqDiff, reduceCtorEq, if_pos, w64, ↓RS, RG, Nat.reduceAdd, Nat.reduceMul, Nat.reduceLeDiff, tyLint, tyint, hYe, hm, pShr, w_bit]
      refine hK _ _ ?_
      clear hK K
      refine W.cond rfl (fun h2 => ?_) (fun h2 => ?_)
      · try simp only [RL] at h2
        refine W.draw_k (by kernel_rfl) fun K hK => ?_
        simp (disch := omega) only [↓RU, RV, RH, ↓reduceIte, Nat.reduceEqDiff, reduceCtorEq, if_pos, w64, ↓RS, RG, Nat.reduceAdd, Nat.reduceMul, Nat.reduceLeDiff, tyLint, tyint, hm, hk, w_or, set_spl, set_nat, hYl]
        refine hK _ _ ?_
        clear hK K
        refine XBlock.norm ?_
        refine XThen.norm ?_
        refine W.region_k fun K hK => ?_
        simp (disch := omega) only [↓RU, RV, RH, ↓reduceIte, Nat.reduceEqDiff, reduceCtorEq, if_pos, w64, ↓RS, RG, Nat.reduceAdd, Nat.reduceMul, Nat.reduceLeDiff, tyint]
        refine hK _ _ ?_
        clear hK K
        refine XThen.norm ?_
        refine ⟨nr - (a + 1), by omega, 1, a + 1, rfl, by omega, ?_, ?_⟩
        · simp [Env.put, Env.of]
        · simp only [take_eq, foldl_rg, hYe, allA_yes hm hk h2]; rfl
      · try simp only [RL] at h2
        refine W.skip ?_
        refine XBlock.norm ?_
        refine XThen.norm ?_
        refine W.region_k fun K hK => ?_
        simp (disch := omega) only [↓RU, RV, RH, ↓reduceIte, Nat.reduceEqDiff, reduceCtorEq, if_pos, w64, ↓RS, RG, Nat.reduceAdd, Nat.reduceMul, Nat.reduceLeDiff, tyint]
        refine hK _ _ ?_
        clear hK K
        refine XThen.norm ?_
        refine ⟨nr - (a + 1), by omega, 1, a + 1, rfl, by omega, ?_, ?_⟩
        · simp [Env.put, Env.of]
        · simp only [take_eq, foldl_rg, hYe, allA_no hm h2]; rfl
    · try simp only [RL] at h1
      obtain rfl : a = nr := by omega
      refine W.exit ?_
      refine XThen.exit ?_
      refine XThen.exit ?_
      refine XBlock.hit ?_
      refine XBlock.norm ?_
      refine XThen.norm ?_
      refine W.region_k fun K hK => ?_
      simp (disch := omega) only [↓RU, RV, RH, ↓reduceIte, Nat.reduceEqDiff, reduceCtorEq, if_pos, w64, ↓RS, RG, Nat.reduceAdd, Nat.reduceMul, Nat.reduceLeDiff, tyint]
      refine hK _ _ ?_
      clear hK K
      refine XThen.norm ?_
      refine ⟨a - (c + 1), by omega, 1, c + 1, rfl, by omega, ?_, ?_⟩
      · simp [Env.put, Env.of]
      · simp only [take_eq, foldl_rg, hXe]; rfl
  · try simp only [RL] at h
    obtain rfl : c = nr := by omega
    refine W.exit ?_
    refine XThen.exit ?_
    refine XThen.exit ?_
    refine XBlock.hit ?_
    refine XThen.norm ?_
    refine W.seq_region fun K hK => ?_
    simp (disch := omega) only [↓RU, RV, RH, ↓reduceIte, Nat.reduceEqDiff, reduceCtorEq, if_pos, ↓RS, RG, Nat.reduceAdd, Nat.reduceMul, Nat.reduceLeDiff]
    refine hK _ _ ?_
    clear hK K
    refine W.ret ?_
    refine BodyQ.ret rfl ?_
    have hal : (allS p kind).length = c := by have := (allS_msk hg h9 kind).1; have h2 := (just_msk hg h9 kind).1; omega
    rw [show (List.range c).foldl (allC c) (just p kind) = allS p kind by rw [allS, hn]]
    rw [← hal]
    exact reify_loc (k := 9) rfl (by simp) (mapM_nat _)

end Fw
end Go.Proofs.Ytmhcknpjgikgmaa

/-! Sizes, gone through; the small functions of the statements. -/
namespace Go.Proofs.Ytmhcknpjgikgmaa
namespace Fw
open Go

theorem l7Places_pn {p : List Txt} (hs : Sm p) (hg : gridB p = true) (h9 : l1Rooms p ≤ 9) {needs : List Int} (hn : needs.length = (l1Rooms p).toNat) (hok : NeedOk needs) (kind : Int) : PN Try.prog 52 [eStrs p, eInts needs, .int .i64 kind] (.loc 0 0 0 needs.length) [.arr 0 3 1 ((places (allS p kind) needs).map (.int .i64))] false := by
  have hrb := l1Rooms_bound p
  have hms := allS_msk hg h9 kind
  rw [← hn] at hms
  obtain ⟨nr, hnr⟩ : ∃ nr : Nat, needs.length = nr := ⟨_, rfl⟩
  have hn9 : nr ≤ 9 := by omega
  rw [hnr] at hms
  have hml := hms.1
  refine PN.of ⟨Try.func52, by kernel_rfl, rfl, by kernel_rfl⟩ tabOk mixed (by show 3 ≤ Try.f52.ntmps; decide) ?_
  refine W.seq_region fun K hK => ?_
  simp (disch := omega) only [↓RU, RV, RH, ↓reduceIte, Nat.reduceEqDiff, reduceCtorEq, if_pos, ↓RS, RG, Nat.reduceAdd, Nat.reduceMul, Nat.reduceLeDiff]
  refine hK _ _ ?_
  clear hK K
  refine W.seq_region fun K hK => ?_
  simp (disch := omega) only [↓RU, RV, RH, ↓reduceIte, Nat.reduceEqDiff, reduceCtorEq, if_pos, List.append_nil, ↓RS, RG, Nat.reduceAdd, Nat.reduceMul, Nat.reduceLeDiff]
  refine CallR.pc (l5All_pc hs hg h9 kind) rfl (.inl rfl) ?_
  simp (disch := omega) only [↓RU, RV, RH, ↓reduceIte, Nat.reduceEqDiff, reduceCtorEq, if_pos, List.append_nil, ↓RS, RG, Nat.reduceAdd, Nat.reduceMul, Nat.reduceLeDiff]
  refine hK _ _ ?_
  clear hK K
  refine W.seq_region fun K hK => ?_
  simp (disch := omega) only [↓RU, RV, RH, ↓reduceIte, Nat.reduceEqDiff, reduceCtorEq, if_pos, ↓RS, RG, Nat.reduceAdd, Nat.reduceMul, Nat.reduceLeDiff, tyLint, tyint, hnr, repz_int, ile_true]
  refine hK _ _ ?_
  clear hK K
  refine W.seq ?_
  refine W.seq_region fun K hK => ?_
  simp (disch := omega) only [↓RU, RV, RH, ↓reduceIte, Nat.reduceEqDiff, reduceCtorEq, if_pos, ↓RS, RG, Nat.reduceAdd, Nat.reduceMul, Nat.reduceLeDiff]
  refine hK _ _ ?_
  clear hK K
  refine W.block ?_
  refine W.loop [0, 1, 2, 7, 8, 9] (fun n vs S => ∃ k : Nat, n = nr - k ∧ k ≤ nr ∧ vs = [eStrs p, eInts needs, .int .i64 kind, eNats (allS p kind), .loc 0 0 0 nr, .int .i64 k] ∧ S = ⟨[.arr 0 3 1 (((List.range k).foldl (plN (allS p kind) needs) (List.replicate nr 0)).map (.int .i64))], 1⟩) (nr) ?_ ?_
  · refine ⟨1, 0, rfl, Nat.zero_le _, ?_, by simp [take_eq]⟩
    simp [Env.put, Env.of, argEnv]
  rintro n vs S - ⟨k, rfl, h_k, rfl, rfl⟩
  refine W.seq ?_
  refine W.seq_region fun K hK => ?_
  simp (disch := omega) only [↓RU, RV, RH, ↓reduceIte, Nat.reduceEqDiff, reduceCtorEq, if_pos, w64, ↓RS, RG, Nat.reduceAdd, Nat.reduceMul, Nat.reduceLeDiff, tyLint, tyint]
  refine hK _ _ ?_
  clear hK K
  refine W.cond rfl (fun h => ?_) (fun h => ?_)
  · try simp only [RL] at h
    have hX := places_to (sets := (allS p kind)) hok hnr hn9 k (by omega)
    generalize hXe : (List.range k).foldl (plN (allS p kind) needs) (List.replicate nr 0) = X at hX
    refine W.skip ?_
    refine XThen.norm ?_
    refine W.seq ?_
    refine W.block ?_
    refine W.seq_region fun K hK => ?_
    simp (disch := omega) only [↓RU, RV, RH, ↓reduceIte, Nat.reduceEqDiff, reduceCtorEq, if_pos, ↓RS, RG, Nat.reduceAdd, Nat.reduceMul, Nat.reduceLeDiff]
    refine hK _ _ ?_
    clear hK K
    refine W.block ?_
    refine W.loop [0, 1, 2, 7, 8, 9, 10] (fun n vs S => ∃ a : Nat, n = nr - a ∧ a ≤ nr ∧ vs = [eStrs p, eInts needs, .int .i64 kind, eNats (allS p kind), .loc 0 0 0 nr, .int .i64 k, .int .i64 a] ∧ S = ⟨[.arr 0 3 1 (((List.range a).foldl (plA (allS p kind) needs) X).map (.int .i64))], 1⟩) (nr) ?_ ?_
    · refine ⟨1, 0, rfl, Nat.zero_le _, ?_, by simp [take_eq, hXe]⟩
      simp [Env.put, Env.of]
    rintro n vs S - ⟨a, rfl, h_a, rfl, rfl⟩
    refine W.seq ?_
    refine W.seq_region fun K hK => ?_
    simp (disch := omega) only [↓RU, RV, RH, ↓reduceIte, Nat.reduceEqDiff, reduceCtorEq, if_pos, w64, ↓RS, RG, Nat.reduceAdd, Nat.reduceMul, Nat.reduceLeDiff, tyLint, tyint]
    refine hK _ _ ?_
    clear hK K
    refine W.cond rfl (fun h1 => ?_) (fun h1 => ?_)
    · try simp only [RL] at h1
      have hY := plN_to (sets := (allS p kind)) hok hnr hn9 hX a (by omega)
      generalize hYe : (List.range a).foldl (plA (allS p kind) needs) X = Y at hY
      refine W.skip ?_
      refine XThen.norm ?_
      refine W.seq ?_
      refine W.block ?_
      refine W.seq_region fun K hK => ?_
      simp (disch := omega) only [↓RU, RV, RH, ↓reduceIte, Nat.reduceEqDiff, reduceCtorEq, if_pos, ↓RS, RG, Nat.reduceAdd, Nat.reduceMul, Nat.reduceLeDiff]
      refine hK _ _ ?_
      clear hK K
      refine W.block ?_
      refine W.loop [0, 1, 2, 7, 8, 9, 10, 11] (fun n vs S => ∃ b : Nat, n = nr - b ∧ b ≤ nr ∧ vs = [eStrs p, eInts needs, .int .i64 kind, eNats (allS p kind), .loc 0 0 0 nr, .int .i64 k, .int .i64 a, .int .i64 b] ∧ S = ⟨[.arr 0 3 1 (((List.range b).foldl (plB (allS p kind) needs a) Y).map (.int .i64))], 1⟩) (nr) ?_ ?_
      · refine ⟨1, 0, rfl, Nat.zero_le _, ?_, by simp [take_eq, hYe]⟩
        simp [Env.put, Env.of]
      rintro n vs S - ⟨b, rfl, h_b, rfl, rfl⟩
      refine W.seq ?_
      refine W.seq_region fun K hK => ?_
      simp (disch := omega) only [↓RU, RV, RH, ↓reduceIte, Nat.reduceEqDiff, reduceCtorEq, if_pos, w64, ↓RS, RG, Nat.reduceAdd, Nat.reduceMul, Nat.reduceLeDiff, tyLint, tyint]
      refine hK _ _ ?_
      clear hK K
      refine W.cond rfl (fun h2 => ?_) (fun h2 => ?_)
      · try simp only [RL] at h2
        have hZ := plA_to (sets := (allS p kind)) hok hnr hY (show a < nr by omega) b (by omega)
        generalize hZe : (List.range b).foldl (plB (allS p kind) needs a) Y = Z at hZ
        obtain ⟨m, hm, hm5⟩ := hms.at_ (show a < nr by omega)
        obtain ⟨u, hu, hu1⟩ := hZ.at_ (show a < nr by omega)
        obtain ⟨v, hv, hv1⟩ := hZ.at_ (show b < nr by omega)
        obtain ⟨z, hz, hzm⟩ := get_of (show a < needs.length by omega)
        have hz1 := hok z hzm
        have hZl := hZ.1
        refine W.skip ?_
        refine XThen.norm ?_
        refine W.seq ?_
        refine W.block ?_
        refine W.seq_region fun K hK => ?_
        simp (disch := omega) only [↓RU, RV, RH, ↓reduceIte, Nat.reduceEqDiff, reduceCtorEq, if_pos, w64, ↓RS, RG, Nat.reduceAdd, Nat.reduceMul, Nat.reduceLeDiff, tyLint, tyint, hm, hml, pShr, w_bit]
        refine hK _ _ ?_
        clear hK K
        refine W.cond rfl (fun h3 => ?_) (fun h3 => ?_)
        · try simp only [RL] at h3
          refine W.draw_k (by kernel_rfl) fun K hK => ?_
          simp (disch := omega) only [↓RU, RV, RH, ↓reduceIte, Nat.reduceEqDiff, reduceCtorEq, if_pos, w64, ite_max, ↓RS, RG, Nat.reduceAdd, Nat.reduceMul, Nat.reduceLeDiff, tyLint, tyint, hu, hv, hz, hnr, hZl, set_spl, set_int]
          refine hK _ _ ?_
          clear hK K
          refine XBlock.norm ?_
          refine XThen.norm ?_
          refine W.region_k fun K hK => ?_
          simp (disch := omega) only [↓RU, RV, RH, ↓reduceIte, Nat.reduceEqDiff, reduceCtorEq, if_pos, w64, ↓RS, RG, Nat.reduceAdd, Nat.reduceMul, Nat.reduceLeDiff, tyint]
          refine hK _ _ ?_
          clear hK K
          refine XThen.norm ?_
          refine ⟨nr - (b + 1), by omega, 1, b + 1, rfl, by omega, ?_, ?_⟩
          · simp [Env.put, Env.of]
          · simp only [take_eq, foldl_rg, hZe, plB, bitOf_is hm, h3, getI_is hu, getI_is hv, getI_is hz]; rfl
        · try simp only [RL] at h3
          refine W.skip ?_
          refine XBlock.norm ?_
          refine XThen.norm ?_
          refine W.region_k fun K hK => ?_
          simp (disch := omega) only [↓RU, RV, RH, ↓reduceIte, Nat.reduceEqDiff, reduceCtorEq, if_pos, w64, ↓RS, RG, Nat.reduceAdd, Nat.reduceMul, Nat.reduceLeDiff, tyint]
          refine hK _ _ ?_
          clear hK K
          refine XThen.norm ?_
          refine ⟨nr - (b + 1), by omega, 1, b + 1, rfl, by omega, ?_, ?_⟩
          · simp [Env.put, Env.of]
          · simp only [take_eq, foldl_rg, hZe, plB, bitOf_is hm, h3, Bool.false_eq_true, if_false]; rfl
      · try simp only [RL] at h2
        obtain rfl : nr = b := by omega
        refine W.exit ?_
        refine XThen.exit ?_
        refine XThen.exit ?_
        refine XBlock.hit ?_
        refine XBlock.norm ?_
        refine XThen.norm ?_
        refine W.region_k fun K hK => ?_
        simp (disch := omega) only [↓RU, RV, RH, ↓reduceIte, Nat.reduceEqDiff, reduceCtorEq, if_pos, w64, ↓RS, RG, Nat.reduceAdd, Nat.reduceMul, Nat.reduceLeDiff, tyint]
        refine hK _ _ ?_
        clear hK K
        refine XThen.norm ?_
        refine ⟨nr - (a + 1), by omega, 1, a + 1, rfl, by omega, ?_, ?_⟩
        · simp [Env.put, Env.of]
        · simp only [take_eq, foldl_rg, hYe, plA, hnr]; rfl
    · try simp only [RL] at h1
      obtain rfl : nr = a := by omega
      refine W.exit ?_
      refine XThen.exit ?_
      refine XThen.exit ?_
      refine XBlock.hit ?_
      refine XBlock.norm ?_
      refine XThen.norm ?_
      refine W.region_k fun K hK => ?_
      simp (disch := omega) only [↓RU, RV, RH, ↓reduceIte, Nat.reduceEqDiff, reduceCtorEq, if_pos, w64, ↓RS, RG, Nat.reduceAdd, Nat.reduceMul, Nat.reduceLeDiff, tyint]
      refine hK _ _ ?_
      clear hK K
      refine XThen.norm ?_
      refine ⟨nr - (k + 1), by omega, 1, k + 1, rfl, by omega, ?_, ?_⟩
      · simp [Env.put, Env.of]
      · simp only [take_eq, foldl_rg, hXe, plN, hnr]; rfl
  · try simp only [RL] at h
    obtain rfl : nr = k := by omega
    refine W.exit ?_
    refine XThen.exit ?_
    refine XThen.exit ?_
    refine XBlock.hit ?_
    refine XThen.norm ?_
    refine W.seq_region fun K hK => ?_
    simp (disch := omega) only [↓RU, RV, RH, ↓reduceIte, Nat.reduceEqDiff, reduceCtorEq, if_pos, ↓RS, RG, Nat.reduceAdd, Nat.reduceMul, Nat.reduceLeDiff]
    refine hK _ _ ?_
    clear hK K
    refine W.ret ?_
    refine BodyQ.ret rfl ?_
    rw [show (List.range nr).foldl (plN (allS p kind) needs) (List.replicate nr 0) = places (allS p kind) needs by rw [places, hnr]]
    rw [hnr]
    exact sh_one rfl (sh_ints _)

theorem l7Least_pc {p : List Txt} (hs : Sm p) (hg : gridB p = true) (h9 : l1Rooms p ≤ 9) {needs : List Int} (hn : needs.length = (l1Rooms p).toNat) (hok : NeedOk needs) (kind : Int) : PC Try.prog 58 [eStrs p, eInts needs, .int .i64 kind] (.int .i64 (least (allS p kind) needs)) true := by
  have hn9 : needs.length ≤ 9 := by omega
  obtain ⟨nr, hnr⟩ : ∃ nr : Nat, needs.length = nr := ⟨_, rfl⟩
  have hP := places_bnd (sets := (allS p kind)) hok hnr (by omega)
  have hPl := hP.1
  refine PC.of ⟨Try.func58, by kernel_rfl, rfl, by kernel_rfl⟩ tabOk mixed (by show 3 ≤ Try.f58.ntmps; decide) ?_
  refine W.seq_region fun K hK => ?_
  simp (disch := omega) only [↓RU, RV, RH, ↓reduceIte, Nat.reduceEqDiff, reduceCtorEq, if_pos, ↓RS, RG, Nat.reduceAdd, Nat.reduceMul, Nat.reduceLeDiff]
  refine hK _ _ ?_
  clear hK K
  refine W.seq_region fun K hK => ?_
  simp (disch := omega) only [↓RU, RV, RH, ↓reduceIte, Nat.reduceEqDiff, reduceCtorEq, if_pos, List.append_nil, ↓RS, RG, Nat.reduceAdd, Nat.reduceMul, Nat.reduceLeDiff, hnr]
  refine CallR.pn (l7Places_pn hs hg h9 hn hok kind) rfl (.inl rfl) ?_
  simp (disch := omega) only [↓RU, RV, RH, ↓reduceIte, Nat.reduceEqDiff, reduceCtorEq, if_pos, List.append_nil, ↓RS, RG, Nat.reduceAdd, Nat.reduceMul, Nat.reduceLeDiff, hnr, RN]
  refine hK _ _ ?_
  clear hK K
  refine W.seq_region fun K hK => ?_
  simp (disch := omega) only [↓RU, RV, RH, ↓reduceIte, Nat.reduceEqDiff, reduceCtorEq, if_pos, ↓RS, RG, Nat.reduceAdd, Nat.reduceMul, Nat.reduceLeDiff]
  refine hK _ _ ?_
  clear hK K
  refine W.seq ?_
  refine W.seq_region fun K hK => ?_
  simp (disch := omega) only [↓RU, RV, RH, ↓reduceIte, Nat.reduceEqDiff, reduceCtorEq, if_pos, ↓RS, RG, Nat.reduceAdd, Nat.reduceMul, Nat.reduceLeDiff]
  refine hK _ _ ?_
  clear hK K
  refine W.block ?_
  refine W.loop [0, 1, 7, 8, 9] (fun n vs S => ∃ a : Nat, n = nr - a ∧ a ≤ nr ∧ vs = [eStrs p, eInts needs, .loc 0 0 0 nr, .int .i64 ((List.range a).foldl (fun m a => max m (getI (places (allS p kind) needs) a + getI needs a)) 0), .int .i64 a] ∧ S = ⟨[.arr 0 3 1 ((places (allS p kind) needs).map (.int .i64))], 1⟩) (nr) ?_ ?_
  · refine ⟨1, 0, rfl, Nat.zero_le _, ?_, by simp [take_eq, up_ints, upOb]⟩
    simp [Env.put, Env.of, argEnv]
  rintro n vs S - ⟨a, rfl, h_a, rfl, rfl⟩
  refine W.seq ?_
  refine W.seq_region fun K hK => ?_
  simp (disch := omega) only [↓RU, RV, RH, ↓reduceIte, Nat.reduceEqDiff, reduceCtorEq, if_pos, w64, ↓RS, RG, Nat.reduceAdd, Nat.reduceMul, Nat.reduceLeDiff, tyLint, tyint]
  refine hK _ _ ?_
  clear hK K
  refine W.cond rfl (fun h => ?_) (fun h => ?_)
  · try simp only [RL] at h
    have hM := least_to (sets := (allS p kind)) hok hnr (by omega) a (by omega)
    generalize hMe : (List.range a).foldl (fun m a => max m (getI (places (allS p kind) needs) a + getI needs a)) 0 = M at hM
    obtain ⟨x, hx, hx1⟩ := hP.at_ (show a < nr by omega)
    obtain ⟨z, hz, hzm⟩ := get_of (show a < needs.length by omega)
    have hz1 := hok z hzm
    refine W.skip ?_
    refine XThen.norm ?_
    refine W.seq ?_
    refine W.block ?_
    refine W.draw_k (by kernel_rfl) fun K hK => ?_
    simp (disch := omega) only [↓RU, RV, RH, ↓reduceIte, Nat.reduceEqDiff, reduceCtorEq, if_pos, w64, ite_max, ↓RS, RG, Nat.reduceAdd, Nat.reduceMul, Nat.reduceLeDiff, tyLint, tyint, hMe, hx, hz, hnr, hPl]
    refine hK _ _ ?_
    clear hK K
    refine XBlock.norm ?_
    refine XThen.norm ?_
    refine W.region_k fun K hK => ?_
    simp (disch := omega) only [↓RU, RV, RH, ↓reduceIte, Nat.reduceEqDiff, reduceCtorEq, if_pos, w64, ↓RS, RG, Nat.reduceAdd, Nat.reduceMul, Nat.reduceLeDiff, tyint]
    refine hK _ _ ?_
    clear hK K
    refine XThen.norm ?_
    refine ⟨nr - (a + 1), by omega, 1, a + 1, rfl, by omega, ?_, rfl⟩
    rw [foldl_rg, getI_is hx, getI_is hz]
    simp [Env.put, Env.of, hMe]
  · try simp only [RL] at h
    obtain rfl : nr = a := by omega
    refine W.exit ?_
    refine XThen.exit ?_
    refine XThen.exit ?_
    refine XBlock.hit ?_
    refine XThen.norm ?_
    refine W.seq_region fun K hK => ?_
    simp (disch := omega) only [↓RU, RV, RH, ↓reduceIte, Nat.reduceEqDiff, reduceCtorEq, if_pos, ↓RS, RG, Nat.reduceAdd, Nat.reduceMul, Nat.reduceLeDiff]
    refine hK _ _ ?_
    clear hK K
    refine W.ret ?_
    refine BodyQ.ret rfl ?_
    rw [least, hnr]
    rfl

theorem l7Needs_pc {p : List Txt} (hs : Sm p) {needs : List Int} (hn : needs.length ≤ 1048576) : PC Try.prog 51 [eStrs p, eInts needs] (.bool (needsB p needs)) true := by
  refine PC.of ⟨Try.func51, by kernel_rfl, rfl, by kernel_rfl⟩ tabOk mixed (by show 2 ≤ Try.f51.ntmps; decide) ?_
  refine W.seq_region fun K hK => ?_
  simp (disch := omega) only [↓RU, RV, RH, ↓reduceIte, Nat.reduceEqDiff, reduceCtorEq, if_pos]
  refine hK _ _ ?_
  clear hK K
  refine W.seq ?_
  refine W.seq_region fun K hK => ?_
  cases hg : plainB p
  · skip
    simp (disch := omega) only [↓RU, RV, RH, ↓reduceIte, Nat.reduceEqDiff, reduceCtorEq, if_pos, List.append_nil, w64, tyLint, tyint, hg]
    refine CallR.pc (l5Plain_pc hs) rfl (.inl rfl) ?_
    simp (disch := omega) only [↓RU, RV, RH, ↓reduceIte, Nat.reduceEqDiff, reduceCtorEq, if_pos, List.append_nil, w64, tyLint, tyint, hg]
    refine hK _ _ ?_
    clear hK K
    refine W.cond rfl (fun h0 => ?_) (fun h0 => ?_)
    · try simp only [RL] at h0
      refine W.seq_region fun K hK => ?_
      simp (disch := omega) only [↓RU, RV, RH, ↓reduceIte, Nat.reduceEqDiff, reduceCtorEq, if_pos]
      refine hK _ _ ?_
      clear hK K
      refine W.ret ?_
      refine XThen.ret ?_
      refine BodyQ.ret rfl ?_
      rw [needsB, hg]
      rfl
    · try simp only [RL] at h0
      exact absurd h0 (by simp)
  · skip
    simp (disch := omega) only [↓RU, RV, RH, ↓reduceIte, Nat.reduceEqDiff, reduceCtorEq, if_pos, List.append_nil, w64, tyLint, tyint, hg]
    refine CallR.pc (l5Plain_pc hs) rfl (.inl rfl) ?_
    simp (disch := omega) only [↓RU, RV, RH, ↓reduceIte, Nat.reduceEqDiff, reduceCtorEq, if_pos, List.append_nil, w64, tyLint, tyint, hg]
    refine CallR.pc (l1Rooms_pc hs) rfl (.inl rfl) ?_
    simp (disch := omega) only [↓RU, RV, RH, ↓reduceIte, Nat.reduceEqDiff, reduceCtorEq, if_pos, List.append_nil, w64, tyLint, tyint, hg]
    refine hK _ _ ?_
    clear hK K
    refine W.cond rfl (fun h1 => ?_) (fun h1 => ?_)
    · try simp only [RL] at h1
      refine W.seq_region fun K hK => ?_
      simp (disch := omega) only [↓RU, RV, RH, ↓reduceIte, Nat.reduceEqDiff, reduceCtorEq, if_pos]
      refine hK _ _ ?_
      clear hK K
      refine W.ret ?_
      refine XThen.ret ?_
      refine BodyQ.ret rfl ?_
      rw [show needsB p needs = false by simp [needsB, h1]]
      rfl
    · try simp only [RL] at h1
      refine W.skip ?_
      refine XThen.norm ?_
      refine W.seq ?_
      refine W.seq_region fun K hK => ?_
      simp (disch := omega) only [↓RU, RV, RH, ↓reduceIte, Nat.reduceEqDiff, reduceCtorEq, if_pos]
      refine hK _ _ ?_
      clear hK K
      refine W.block ?_
      refine W.loop [0, 1, 5] (fun n vs S => ∃ i : Nat, n = needs.length - i ∧ i ≤ needs.length ∧ ((needs.take i).all needB = true) ∧ vs = [eStrs p, eInts needs, .int .i64 i] ∧ S = ⟨[], 0⟩) (needs.length) ?_ ?_
      · refine ⟨0, 0, rfl, Nat.zero_le _, rfl, ?_, rfl⟩
        simp [Env.put, Env.of, argEnv]
      rintro n vs S - ⟨i, rfl, h_i, hall, rfl, rfl⟩
      refine W.seq ?_
      refine W.seq_region fun K hK => ?_
      simp (disch := omega) only [↓RU, RV, RH, ↓reduceIte, Nat.reduceEqDiff, reduceCtorEq, if_pos, w64, tyLint, tyint]
      refine hK _ _ ?_
      clear hK K
      refine W.cond rfl (fun h2 => ?_) (fun h2 => ?_)
      · try simp only [RL] at h2
        obtain ⟨x, hx, hxm⟩ := get_of (show i < needs.length by omega)
        refine W.skip ?_
        refine XThen.norm ?_
        refine W.seq ?_
        refine W.block ?_
        refine W.seq_region fun K hK => ?_
        simp (disch := omega) only [↓RU, RV, RH, ↓reduceIte, Nat.reduceEqDiff, reduceCtorEq, if_pos, List.append_nil, tyLint, tyint, hx]
        refine CallR.pc (l6In_pc _ _ _) rfl (.inl rfl) ?_
        simp (disch := omega) only [↓RU, RV, RH, ↓reduceIte, Nat.reduceEqDiff, reduceCtorEq, if_pos, List.append_nil, tyLint, tyint, hx]
        refine hK _ _ ?_
        clear hK K
        refine W.cond rfl (fun h3 => ?_) (fun h3 => ?_)
        · try simp only [RL] at h3
          refine W.seq_region fun K hK => ?_
          simp (disch := omega) only [↓RU, RV, RH, ↓reduceIte, Nat.reduceEqDiff, reduceCtorEq, if_pos]
          refine hK _ _ ?_
          clear hK K
          refine W.ret ?_
          refine XBlock.ret ?_
          refine XThen.ret ?_
          refine XThen.ret ?_
          refine XBlock.ret ?_
          refine XThen.ret ?_
          refine BodyQ.ret rfl ?_
          rw [show needsB p needs = false by unfold needsB; rw [show needs.all needB = false from List.all_eq_false.2 ⟨x, hxm, by simpa [needB] using h3⟩]; simp]
          rfl
        · try simp only [RL] at h3
          refine W.skip ?_
          refine XBlock.norm ?_
          refine XThen.norm ?_
          refine W.region_k fun K hK => ?_
          simp (disch := omega) only [↓RU, RV, RH, ↓reduceIte, Nat.reduceEqDiff, reduceCtorEq, if_pos, w64, tyint]
          refine hK _ _ ?_
          clear hK K
          refine XThen.norm ?_
          refine ⟨needs.length - (i + 1), by omega, 0, i + 1, rfl, by omega, all_tk hx (by assumption) (by simpa [needB] using h3), ?_, rfl⟩
          simp [Env.put, Env.of]
      · try simp only [RL] at h2
        refine W.exit ?_
        refine XThen.exit ?_
        refine XThen.exit ?_
        refine XBlock.hit ?_
        refine XThen.norm ?_
        refine W.seq_region fun K hK => ?_
        simp (disch := omega) only [↓RU, RV, RH, ↓reduceIte, Nat.reduceEqDiff, reduceCtorEq, if_pos]
        refine hK _ _ ?_
        clear hK K
        refine W.ret ?_
        refine BodyQ.ret rfl ?_
        have hip : needs.take i = needs := List.take_of_length_le (by omega)
        rw [hip] at hall
        rw [show needsB p needs = true by simp only [needsB, hg, hall, h1, decide_true, Bool.and_self]]
        rfl

theorem szStringS_pc {p : List Txt} (hl : p.length ≤ 9223372036854775807) (hr : ∀ r ∈ p, r.length ≤ 9223372036854775807) {left : Int} (h0 : 0 ≤ left) (h1 : left ≤ 1048576) : PC Try.prog 18 [eStrs p, .int .i64 left] (.int .i64 (sz p left)) true := by
  refine PC.of ⟨Try.func18, by kernel_rfl, rfl, by kernel_rfl⟩ tabOk mixed (by show 2 ≤ Try.f18.ntmps; decide) ?_
  refine W.seq_region fun K hK => ?_
  simp (disch := omega) only [↓RU, RV, RH, ↓reduceIte, Nat.reduceEqDiff, reduceCtorEq, if_pos]
  refine hK _ _ ?_
  clear hK K
  refine W.seq_region fun K hK => ?_
  simp (disch := omega) only [↓RU, RV, RH, ↓reduceIte, Nat.reduceEqDiff, reduceCtorEq, if_pos, w64, tyLstring, tyint, tystring]
  refine hK _ _ ?_
  clear hK K
  refine W.seq ?_
  refine W.seq_region fun K hK => ?_
  simp (disch := omega) only [↓RU, RV, RH, ↓reduceIte, Nat.reduceEqDiff, reduceCtorEq, if_pos, w64, tyint]
  refine hK _ _ ?_
  clear hK K
  refine W.cond rfl (fun h2 => ?_) (fun h2 => ?_)
  · try simp only [RL] at h2
    refine W.seq_region fun K hK => ?_
    simp (disch := omega) only [↓RU, RV, RH, ↓reduceIte, Nat.reduceEqDiff, reduceCtorEq, if_pos]
    refine hK _ _ ?_
    clear hK K
    refine W.ret ?_
    refine XThen.ret ?_
    refine BodyQ.ret rfl ?_
    rw [show sz p left = -1 by simp only [sz]; rw [if_neg (by omega)]]
    rfl
  · try simp only [RL] at h2
    refine W.skip ?_
    refine XThen.norm ?_
    refine W.seq ?_
    refine W.seq_region fun K hK => ?_
    simp (disch := omega) only [↓RU, RV, RH, ↓reduceIte, Nat.reduceEqDiff, reduceCtorEq, if_pos]
    refine hK _ _ ?_
    clear hK K
    refine W.block ?_
    refine W.loop [0, 1, 5] (fun n vs S => ∃ i : Nat, n = p.length - i ∧ i ≤ p.length ∧ ((szAll (p.take i) : Int) ≤ left - p.length) ∧ vs = [eStrs p, .int .i64 (left - p.length - szAll (p.take i)), .int .i64 i] ∧ S = ⟨[], 0⟩) (p.length) ?_ ?_
    · refine ⟨0, 0, rfl, Nat.zero_le _, by simp [szAll]; omega, ?_, rfl⟩
      simp [Env.put, Env.of, argEnv, szAll]
    rintro n vs S - ⟨i, rfl, h_i, hge, rfl, rfl⟩
    refine W.seq ?_
    refine W.seq_region fun K hK => ?_
    simp (disch := omega) only [↓RU, RV, RH, ↓reduceIte, Nat.reduceEqDiff, reduceCtorEq, if_pos, w64, tyLstring, tyint, tystring]
    refine hK _ _ ?_
    clear hK K
    refine W.cond rfl (fun h3 => ?_) (fun h3 => ?_)
    · try simp only [RL] at h3
      obtain ⟨r, hr1, hrm⟩ := get_of (show i < p.length by omega)
      have hrl := hr r hrm
      have hst := szAll_take hr1
      have hsl := szAll_le (p := p) (i := i + 1)
      refine W.skip ?_
      refine XThen.norm ?_
      refine W.seq ?_
      refine W.block ?_
      refine W.seq_region fun K hK => ?_
      simp (disch := omega) only [↓RU, RV, RH, ↓reduceIte, Nat.reduceEqDiff, reduceCtorEq, if_pos, w64, tyLstring, tyint, tystring, hr1]
      refine hK _ _ ?_
      clear hK K
      refine W.seq_region fun K hK => ?_
      simp (disch := omega) only [↓RU, RV, RH, ↓reduceIte, Nat.reduceEqDiff, reduceCtorEq, if_pos, w64, tyint]
      refine hK _ _ ?_
      clear hK K
      refine W.cond rfl (fun h4 => ?_) (fun h4 => ?_)
      · try simp only [RL] at h4
        refine W.seq_region fun K hK => ?_
        simp (disch := omega) only [↓RU, RV, RH, ↓reduceIte, Nat.reduceEqDiff, reduceCtorEq, if_pos]
        refine hK _ _ ?_
        clear hK K
        refine W.ret ?_
        refine XBlock.ret ?_
        refine XThen.ret ?_
        refine XThen.ret ?_
        refine XBlock.ret ?_
        refine XThen.ret ?_
        refine BodyQ.ret rfl ?_
        rw [show sz p left = -1 by simp only [sz]; rw [if_neg (by omega)]]
        rfl
      · try simp only [RL] at h4
        refine W.skip ?_
        refine XBlock.norm ?_
        refine XThen.norm ?_
        refine W.region_k fun K hK => ?_
        simp (disch := omega) only [↓RU, RV, RH, ↓reduceIte, Nat.reduceEqDiff, reduceCtorEq, if_pos, w64, tyint]
        refine hK _ _ ?_
        clear hK K
        refine XThen.norm ?_
        refine ⟨p.length - (i + 1), by omega, 0, i + 1, rfl, by omega, by omega, ?_, rfl⟩
        simp [Env.put, Env.of, hst]
        omega
    · try simp only [RL] at h3
      refine W.exit ?_
      refine XThen.exit ?_
      refine XThen.exit ?_
      refine XBlock.hit ?_
      refine XThen.norm ?_
      refine W.seq_region fun K hK => ?_
      simp (disch := omega) only [↓RU, RV, RH, ↓reduceIte, Nat.reduceEqDiff, reduceCtorEq, if_pos]
      refine hK _ _ ?_
      clear hK K
      refine W.ret ?_
      refine BodyQ.ret rfl ?_
      have hip : p.take i = p := List.take_of_length_le (by omega)
      rw [hip] at hge ⊢
      rw [show sz p left = left - p.length - szAll p by simp only [sz]; rw [if_pos (by omega)]; omega]
      rfl

theorem toStringS_pn {p : List Txt} (hp : p.length ≤ 1048576) : PN Try.prog 20 [eStrs p] (.loc 0 0 0 p.length) [.arr 0 9 1 (p.map .str)] false := by
  refine PN.of ⟨Try.func20, by kernel_rfl, rfl, by kernel_rfl⟩ tabOk mixed (by show 1 ≤ Try.f20.ntmps; decide) ?_
  refine W.seq_region fun K hK => ?_
  simp (disch := omega) only [↓RU, RV, RH, ↓reduceIte, Nat.reduceEqDiff, reduceCtorEq, if_pos, ↓RS, RG, Nat.reduceAdd, Nat.reduceMul, Nat.reduceLeDiff]
  refine hK _ _ ?_
  clear hK K
  refine W.seq_region fun K hK => ?_
  simp (disch := omega) only [↓RU, RV, RH, ↓reduceIte, Nat.reduceEqDiff, reduceCtorEq, if_pos, ↓RS, RG, Nat.reduceAdd, Nat.reduceMul, Nat.reduceLeDiff, tyLstring, tystring, repz_str, ile_true]
  refine hK _ _ ?_
  clear hK K
  refine W.seq ?_
  refine W.seq_region fun K hK => ?_
  simp (disch := omega) only [↓RU, RV, RH, ↓reduceIte, Nat.reduceEqDiff, reduceCtorEq, if_pos, ↓RS, RG, Nat.reduceAdd, Nat.reduceMul, Nat.reduceLeDiff]
  refine hK _ _ ?_
  clear hK K
  refine W.block ?_
  refine W.loop [0, 3, 4] (fun n vs S => ∃ i : Nat, n = p.length - i ∧ i ≤ p.length ∧ vs = [eStrs p, .loc 0 0 0 p.length, .int .i64 i] ∧ S = ⟨[.arr 0 9 1 ((p.take i ++ List.replicate (p.length - i) []).map .str)], 1⟩) (p.length) ?_ ?_
  · refine ⟨1, 0, rfl, Nat.zero_le _, ?_, by simp [take_eq]⟩
    simp [Env.put, Env.of, argEnv]
  rintro n vs S - ⟨i, rfl, h_i, rfl, rfl⟩
  refine W.seq ?_
  refine W.seq_region fun K hK => ?_
  simp (disch := omega) only [↓RU, RV, RH, ↓reduceIte, Nat.reduceEqDiff, reduceCtorEq, if_pos, w64, ↓RS, RG, Nat.reduceAdd, Nat.reduceMul, Nat.reduceLeDiff, tyLstring, tyint, tystring]
  refine hK _ _ ?_
  clear hK K
  refine W.cond rfl (fun h => ?_) (fun h => ?_)
  · try simp only [RL] at h
    obtain ⟨r, hr, hrm⟩ := get_of (show i < p.length by omega)
    have hcl : (p.take i ++ List.replicate (p.length - i) []).length = p.length := by simp; omega
    refine W.skip ?_
    refine XThen.norm ?_
    refine W.seq ?_
    refine W.block ?_
    refine W.region_k fun K hK => ?_
    simp (disch := omega) only [↓RU, RV, RH, ↓reduceIte, Nat.reduceEqDiff, reduceCtorEq, if_pos, ↓RS, RG, Nat.reduceAdd, Nat.reduceMul, Nat.reduceLeDiff, tyLstring, tystring, hr, hcl, set_spl, set_str]
    refine hK _ _ ?_
    clear hK K
    refine XBlock.norm ?_
    refine XThen.norm ?_
    refine W.region_k fun K hK => ?_
    simp (disch := omega) only [↓RU, RV, RH, ↓reduceIte, Nat.reduceEqDiff, reduceCtorEq, if_pos, w64, ↓RS, RG, Nat.reduceAdd, Nat.reduceMul, Nat.reduceLeDiff, tyint]
    refine hK _ _ ?_
    clear hK K
    refine XThen.norm ?_
    refine ⟨p.length - (i + 1), by omega, 1, i + 1, rfl, by omega, ?_, ?_⟩
    · simp [Env.put, Env.of]
    · simp only [take_eq]; rw [copy_succ hr]; rfl
  · try simp only [RL] at h
    obtain rfl : i = p.length := by omega
    refine W.exit ?_
    refine XThen.exit ?_
    refine XThen.exit ?_
    refine XBlock.hit ?_
    refine XThen.norm ?_
    refine W.seq_region fun K hK => ?_
    simp (disch := omega) only [↓RU, RV, RH, ↓reduceIte, Nat.reduceEqDiff, reduceCtorEq, if_pos, ↓RS, RG, Nat.reduceAdd, Nat.reduceMul, Nat.reduceLeDiff]
    refine hK _ _ ?_
    clear hK K
    refine W.ret ?_
    refine BodyQ.ret rfl ?_
    rw [List.take_length, Nat.sub_self, List.replicate_zero, List.append_nil]
    exact sh_one rfl (sh_strs _)

theorem toIntS_pn {p : List Int} (hp : p.length ≤ 1048576) : PN Try.prog 21 [eInts p] (.loc 0 0 0 p.length) [.arr 0 3 1 (p.map (.int .i64))] false := by
  refine PN.of ⟨Try.func21, by kernel_rfl, rfl, by kernel_rfl⟩ tabOk mixed (by show 1 ≤ Try.f21.ntmps; decide) ?_
  refine W.seq_region fun K hK => ?_
  simp (disch := omega) only [↓RU, RV, RH, ↓reduceIte, Nat.reduceEqDiff, reduceCtorEq, if_pos, ↓RS, RG, Nat.reduceAdd, Nat.reduceMul, Nat.reduceLeDiff]
  refine hK _ _ ?_
  clear hK K
  refine W.seq_region fun K hK => ?_
  simp (disch := omega) only [↓RU, RV, RH, ↓reduceIte, Nat.reduceEqDiff, reduceCtorEq, if_pos, ↓RS, RG, Nat.reduceAdd, Nat.reduceMul, Nat.reduceLeDiff, tyLint, tyint, repz_int, ile_true]
  refine hK _ _ ?_
  clear hK K
  refine W.seq ?_
  refine W.seq_region fun K hK => ?_
  simp (disch := omega) only [↓RU, RV, RH, ↓reduceIte, Nat.reduceEqDiff, reduceCtorEq, if_pos, ↓RS, RG, Nat.reduceAdd, Nat.reduceMul, Nat.reduceLeDiff]
  refine hK _ _ ?_
  clear hK K
  refine W.block ?_
  refine W.loop [0, 3, 4] (fun n vs S => ∃ i : Nat, n = p.length - i ∧ i ≤ p.length ∧ vs = [eInts p, .loc 0 0 0 p.length, .int .i64 i] ∧ S = ⟨[.arr 0 3 1 ((p.take i ++ List.replicate (p.length - i) 0).map (.int .i64))], 1⟩) (p.length) ?_ ?_
  · refine ⟨1, 0, rfl, Nat.zero_le _, ?_, by simp [take_eq]⟩
    simp [Env.put, Env.of, argEnv]
  rintro n vs S - ⟨i, rfl, h_i, rfl, rfl⟩
  refine W.seq ?_
  refine W.seq_region fun K hK => ?_
  simp (disch := omega) only [↓RU, RV, RH, ↓reduceIte, Nat.reduceEqDiff, reduceCtorEq, if_pos, w64, ↓RS, RG, Nat.reduceAdd, Nat.reduceMul, Nat.reduceLeDiff, tyLint, tyint]
  refine hK _ _ ?_
  clear hK K
  refine W.cond rfl (fun h => ?_) (fun h => ?_)
  · try simp only [RL] at h
    obtain ⟨r, hr, hrm⟩ := get_of (show i < p.length by omega)
    have hcl : (p.take i ++ List.replicate (p.length - i) 0).length = p.length := by simp; omega
    refine W.skip ?_
    refine XThen.norm ?_
    refine W.seq ?_
    refine W.block ?_
    refine W.region_k fun K hK => ?_
    simp (disch := omega) only [↓RU, RV, RH, ↓reduceIte, Nat.reduceEqDiff, reduceCtorEq, if_pos, ↓RS, RG, Nat.reduceAdd, Nat.reduceMul, Nat.reduceLeDiff, tyLint, tyint, hr, hcl, set_spl, set_int]
    refine hK _ _ ?_
    clear hK K
    refine XBlock.norm ?_
    refine XThen.norm ?_
    refine W.region_k fun K hK => ?_
    simp (disch := omega) only [↓RU, RV, RH, ↓reduceIte, Nat.reduceEqDiff, reduceCtorEq, if_pos, w64, ↓RS, RG, Nat.reduceAdd, Nat.reduceMul, Nat.reduceLeDiff, tyint]
    refine hK _ _ ?_
    clear hK K
    refine XThen.norm ?_
    refine ⟨p.length - (i + 1), by omega, 1, i + 1, rfl, by omega, ?_, ?_⟩
    · simp [Env.put, Env.of]
    · simp only [take_eq]; rw [copy_succ hr]; rfl
  · try simp only [RL] at h
    obtain rfl : i = p.length := by omega
    refine W.exit ?_
    refine XThen.exit ?_
    refine XThen.exit ?_
    refine XBlock.hit ?_
    refine XThen.norm ?_
    refine W.seq_region fun K hK => ?_
    simp (disch := omega) only [↓RU, RV, RH, ↓reduceIte, Nat.reduceEqDiff, reduceCtorEq, if_pos, ↓RS, RG, Nat.reduceAdd, Nat.reduceMul, Nat.reduceLeDiff]
    refine hK _ _ ?_
    clear hK K
    refine W.ret ?_
    refine BodyQ.ret rfl ?_
    rw [List.take_length, Nat.sub_self, List.replicate_zero, List.append_nil]
    exact sh_one rfl (sh_ints _)

theorem toStringS_pc {p : List Txt} (hp : p.length ≤ 1048576) : PC Try.prog 20 [eStrs p] (eStrs p) true :=
  PN.pc (toStringS_pn hp) rfl (by simp only [List.map_cons, List.map_nil, upOb_arr, up_loc, up_strs, Nat.add_zero]; exact reify_loc rfl (by simp) (mapM_str _))
theorem toIntS_pc {p : List Int} (hp : p.length ≤ 1048576) : PC Try.prog 21 [eInts p] (eInts p) true :=
  PN.pc (toIntS_pn hp) rfl (by simp only [List.map_cons, List.map_nil, upOb_arr, up_loc, up_ints, Nat.add_zero]; exact reify_loc rfl (by simp) (mapM_int _))

theorem eqStringS_pc {p q : List Txt} (hp : p.length < 2147483648) (hq : q.length < 2147483648) : PC Try.prog 24 [eStrs p, eStrs q] (.bool (decide (p = q))) true := by
  refine PC.of ⟨Try.func24, by kernel_rfl, rfl, by kernel_rfl⟩ tabOk mixed (by show 2 ≤ Try.f24.ntmps; decide) ?_
  refine W.seq_region fun K hK => ?_
  simp (disch := omega) only [↓RU, RV, RH, ↓reduceIte, Nat.reduceEqDiff, reduceCtorEq, if_pos]
  refine hK _ _ ?_
  clear hK K
  refine W.seq ?_
  refine W.seq_region fun K hK => ?_
  simp (disch := omega) only [↓RU, RV, RH, ↓reduceIte, Nat.reduceEqDiff, reduceCtorEq, if_pos, w64, tyLstring, tyint, tystring]
  refine hK _ _ ?_
  clear hK K
  refine W.cond rfl (fun h => ?_) (fun h => ?_)
  · try simp only [RL] at h
    refine W.seq_region fun K hK => ?_
    simp (disch := omega) only [↓RU, RV, RH, ↓reduceIte, Nat.reduceEqDiff, reduceCtorEq, if_pos]
    refine hK _ _ ?_
    clear hK K
    refine W.ret ?_
    refine XThen.ret ?_
    refine BodyQ.ret rfl ?_
    rw [show decide (p = q) = false by simp; rintro rfl; exact h rfl]
    rfl
  · try simp only [RL] at h
    refine W.skip ?_
    refine XThen.norm ?_
    refine W.seq ?_
    refine W.seq_region fun K hK => ?_
    simp (disch := omega) only [↓RU, RV, RH, ↓reduceIte, Nat.reduceEqDiff, reduceCtorEq, if_pos]
    refine hK _ _ ?_
    clear hK K
    refine W.block ?_
    refine W.loop [0, 1, 5] (fun n vs S => ∃ i : Nat, n = p.length - i ∧ i ≤ p.length ∧ (p.take i = q.take i) ∧ vs = [eStrs p, eStrs q, .int .i64 i] ∧ S = ⟨[], 0⟩) (p.length) ?_ ?_
    · refine ⟨0, 0, rfl, Nat.zero_le _, rfl, ?_, rfl⟩
      simp [Env.put, Env.of, argEnv]
    rintro n vs S - ⟨i, rfl, h_i, htk, rfl, rfl⟩
    refine W.seq ?_
    refine W.seq_region fun K hK => ?_
    simp (disch := omega) only [↓RU, RV, RH, ↓reduceIte, Nat.reduceEqDiff, reduceCtorEq, if_pos, w64, tyLstring, tyint, tystring]
    refine hK _ _ ?_
    clear hK K
    refine W.cond rfl (fun h1 => ?_) (fun h1 => ?_)
    · try simp only [RL] at h1
      obtain ⟨x, hx, -⟩ := get_of (show i < p.length by omega)
      obtain ⟨y, hy, -⟩ := get_of (show i < q.length by omega)
      refine W.skip ?_
      refine XThen.norm ?_
      refine W.seq ?_
      refine W.block ?_
      refine W.seq_draw (by kernel_rfl) fun K hK => ?_
      simp (disch := omega) only [↓RU, RV, RH, ↓reduceIte, Nat.reduceEqDiff, reduceCtorEq, if_pos, w64, tyLstring, tystring, hx, hy]
      refine hK _ _ ?_
      clear hK K
      refine W.cond rfl (fun h2 => ?_) (fun h2 => ?_)
      · try simp only [RL] at h2
        refine W.seq_region fun K hK => ?_
        simp (disch := omega) only [↓RU, RV, RH, ↓reduceIte, Nat.reduceEqDiff, reduceCtorEq, if_pos]
        refine hK _ _ ?_
        clear hK K
        refine W.ret ?_
        refine XBlock.ret ?_
        refine XThen.ret ?_
        refine XThen.ret ?_
        refine XBlock.ret ?_
        refine XThen.ret ?_
        refine BodyQ.ret rfl ?_
        rw [show decide (p = q) = false by simp; rintro rfl; rw [hx] at hy; simp_all]
        rfl
      · try simp only [RL] at h2
        refine W.skip ?_
        refine XBlock.norm ?_
        refine XThen.norm ?_
        refine W.region_k fun K hK => ?_
        simp (disch := omega) only [↓RU, RV, RH, ↓reduceIte, Nat.reduceEqDiff, reduceCtorEq, if_pos, w64, tyint]
        refine hK _ _ ?_
        clear hK K
        refine XThen.norm ?_
        refine ⟨p.length - (i + 1), by omega, 0, i + 1, rfl, by omega, take_eq_succ htk hx hy h2, ?_, rfl⟩
        simp [Env.put, Env.of]
    · try simp only [RL] at h1
      refine W.exit ?_
      refine XThen.exit ?_
      refine XThen.exit ?_
      refine XBlock.hit ?_
      refine XThen.norm ?_
      refine W.seq_region fun K hK => ?_
      simp (disch := omega) only [↓RU, RV, RH, ↓reduceIte, Nat.reduceEqDiff, reduceCtorEq, if_pos]
      refine hK _ _ ?_
      clear hK K
      refine W.ret ?_
      refine BodyQ.ret rfl ?_
      have h1 : p.take i = p := List.take_of_length_le (by omega)
      have h2 : q.take i = q := List.take_of_length_le (by omega)
      rw [show decide (p = q) = true by simp; rw [← h1, ← h2]; exact htk]
      rfl

theorem eqIntS_pc {p q : List Int} (hp : p.length < 2147483648) (hq : q.length < 2147483648) : PC Try.prog 23 [eInts p, eInts q] (.bool (decide (p = q))) true := by
  refine PC.of ⟨Try.func23, by kernel_rfl, rfl, by kernel_rfl⟩ tabOk mixed (by show 2 ≤ Try.f23.ntmps; decide) ?_
  refine W.seq_region fun K hK => ?_
  simp (disch := omega) only [↓RU, RV, RH, ↓reduceIte, Nat.reduceEqDiff, reduceCtorEq, if_pos]
  refine hK _ _ ?_
  clear hK K
  refine W.seq ?_
  refine W.seq_region fun K hK => ?_
  simp (disch := omega) only [↓RU, RV, RH, ↓reduceIte, Nat.reduceEqDiff, reduceCtorEq, if_pos, w64, tyLint, tyint]
  refine hK _ _ ?_
  clear hK K
  refine W.cond rfl (fun h => ?_) (fun h => ?_)
  · try simp only [RL] at h
    refine W.seq_region fun K hK => ?_
    simp (disch := omega) only [↓RU, RV, RH, ↓reduceIte, Nat.reduceEqDiff, reduceCtorEq, if_pos]
    refine hK _ _ ?_
    clear hK K
    refine W.ret ?_
    refine XThen.ret ?_
    refine BodyQ.ret rfl ?_
    rw [show decide (p = q) = false by simp; rintro rfl; exact h rfl]
    rfl
  · try simp only [RL] at h
    refine W.skip ?_
    refine XThen.norm ?_
    refine W.seq ?_
    refine W.seq_region fun K hK => ?_
    simp (disch := omega) only [↓RU, RV, RH, ↓reduceIte, Nat.reduceEqDiff, reduceCtorEq, if_pos]
    refine hK _ _ ?_
    clear hK K
    refine W.block ?_
    refine W.loop [0, 1, 5] (fun n vs S => ∃ i : Nat, n = p.length - i ∧ i ≤ p.length ∧ (p.take i = q.take i) ∧ vs = [eInts p, eInts q, .int .i64 i] ∧ S = ⟨[], 0⟩) (p.length) ?_ ?_
    · refine ⟨0, 0, rfl, Nat.zero_le _, rfl, ?_, rfl⟩
      simp [Env.put, Env.of, argEnv]
    rintro n vs S - ⟨i, rfl, h_i, htk, rfl, rfl⟩
    refine W.seq ?_
    refine W.seq_region fun K hK => ?_
    simp (disch := omega) only [↓RU, RV, RH, ↓reduceIte, Nat.reduceEqDiff, reduceCtorEq, if_pos, w64, tyLint, tyint]
    refine hK _ _ ?_
    clear hK K
    refine W.cond rfl (fun h1 => ?_) (fun h1 => ?_)
    · try simp only [RL] at h1
      obtain ⟨x, hx, -⟩ := get_of (show i < p.length by omega)
      obtain ⟨y, hy, -⟩ := get_of (show i < q.length by omega)
      refine W.skip ?_
      refine XThen.norm ?_
      refine W.seq ?_
      refine W.block ?_
      refine W.seq_draw (by kernel_rfl) fun K hK => ?_
      simp (disch := omega) only [↓RU, RV, RH, ↓reduceIte, Nat.reduceEqDiff, reduceCtorEq, if_pos, w64, tyLint, tyint, hx, hy]
      refine hK _ _ ?_
      clear hK K
      refine W.cond rfl (fun h2 => ?_) (fun h2 => ?_)
      · try simp only [RL] at h2
        refine W.seq_region fun K hK => ?_
        simp (disch := omega) only [↓RU, RV, RH, ↓reduceIte, Nat.reduceEqDiff, reduceCtorEq, if_pos]
        refine hK _ _ ?_
        clear hK K
        refine W.ret ?_
        refine XBlock.ret ?_
        refine XThen.ret ?_
        refine XThen.ret ?_
        refine XBlock.ret ?_
        refine XThen.ret ?_
        refine BodyQ.ret rfl ?_
        rw [show decide (p = q) = false by simp; rintro rfl; rw [hx] at hy; simp_all]
        rfl
      · try simp only [RL] at h2
        refine W.skip ?_
        refine XBlock.norm ?_
        refine XThen.norm ?_
        refine W.region_k fun K hK => ?_
        simp (disch := omega) only [↓RU, RV, RH, ↓reduceIte, Nat.reduceEqDiff, reduceCtorEq, if_pos, w64, tyint]
        refine hK _ _ ?_
        clear hK K
        refine XThen.norm ?_
        refine ⟨p.length - (i + 1), by omega, 0, i + 1, rfl, by omega, take_eq_succ htk hx hy h2, ?_, rfl⟩
        simp [Env.put, Env.of]
    · try simp only [RL] at h1
      refine W.exit ?_
      refine XThen.exit ?_
      refine XThen.exit ?_
      refine XBlock.hit ?_
      refine XThen.norm ?_
      refine W.seq_region fun K hK => ?_
      simp (disch := omega) only [↓RU, RV, RH, ↓reduceIte, Nat.reduceEqDiff, reduceCtorEq, if_pos]
      refine hK _ _ ?_
      clear hK K
      refine W.ret ?_
      refine BodyQ.ret rfl ?_
      have h1 : p.take i = p := List.take_of_length_le (by omega)
      have h2 : q.take i = q := List.take_of_length_le (by omega)
      rw [show decide (p = q) = true by simp; rw [← h1, ← h2]; exact htk]
      rfl

end Fw
end Go.Proofs.Ytmhcknpjgikgmaa

/-! strings.Builder: copyCheck and String, in the model's own words. -/
namespace Go.Proofs.Ytmhcknpjgikgmaa
namespace Fw
open Go Go.RowKit

set_option maxHeartbeats 1000000 in
set_option maxRecDepth 100000 in
theorem copyCheck_used (b : Nat) (w : World) (h0 : w.cell? ⟨b, 0, none⟩ = some (.pointer (some ⟨b, 0, none⟩))) :
    Calls Try.prog 130 #[.pointer (some ⟨b, 0, none⟩)] w fun e w' => e = .returned (.tuple #[]) ∧ w' = w := by
  obtain ⟨j, d, z, hj, _⟩ := (tabOk 118 (by decide)).1
  go_enter Try.func130, Try.ntmps130
  go_wp2
  rw [Lib.run_neq_ptr_same w _ Try.underlying116 hj]
  go_wp2
  go_end0
  exact ⟨rfl, rfl⟩

theorem liesB (count : Nat) (hn : 1 ≤ count) : liesAt Try.prog Try.prog.depth 118 count 0 118 1 = true := by
  have hc : Try.prog.cellsOf 118 = 2 := by kernel_rfl
  have hd : Try.prog.depth = (2 * (Try.prog.types.size + Made.depth) + 1) + 1 := rfl
  rw [hd]
  simp only [liesAt, Bool.or_eq_true]
  left
  rw [hd]
  simp [rowAt, hc, hn, sameLayout]

set_option maxHeartbeats 1000000 in
set_option maxRecDepth 100000 in
theorem copyCheck_fresh (b n : Nat) (hn : 2 ≤ n) (w : World) (h0 : w.cell? ⟨b, 0, none⟩ = some (.pointer none)) (hsh : w.shape? b = some (118, n)) (hfz : w.frozen? ⟨b, 0, none⟩ = false) :
    Calls Try.prog 130 #[.pointer (some ⟨b, 0, none⟩)] w fun e w' => e = .returned (.tuple #[]) ∧ w' = w.setCell ⟨b, 0, none⟩ (.pointer (some ⟨b, 0, none⟩)) := by
  obtain ⟨j, d, z, hj, hd, hf, hsz, hby, hz, _⟩ := (tabOk 118 (by decide)).1
  have hjs : j.size ≠ 0 := by rw [hsz]; decide
  have hlies : liesAt Try.prog Try.prog.depth 118 (n / Try.prog.cellsOf 118) 0 118 1 = true := by
    rw [show Try.prog.cellsOf 118 = 2 by kernel_rfl]
    exact liesB _ (by omega)
  go_enter Try.func130, Try.ntmps130
  go_wp2
  rw [Lib.run_to_unsafe w ⟨b, 0, none⟩ Try.underlying116 Try.underlying155 hj hjs hsh (show 0 < n by omega)]
  simp only [Result.andThen]
  rw [Oper.upon_value]
  go_wp2
  rw [run_callFunc_extern Try.func146 (by kernel_rfl) (by kernel_rfl) (by kernel_rfl) (e := Extern.AbiNoEscape.same) (by kernel_rfl)]
  rw [Lib.run_noEscape]
  simp only [Result.andThen]
  rw [Oper.upon_value]
  go_wp2
  rw [Lib.run_from_unsafe w ⟨b, 0, none⟩ Try.underlying155 Try.underlying116 hj hsh hlies]
  simp only [Result.andThen]
  rw [Oper.upon_value]
  go_wp2
  go_end0
  exact ⟨rfl, rfl⟩

set_option maxHeartbeats 1000000 in
set_option maxRecDepth 100000 in
theorem builderString (b g cap : Nat) (cur : Array Value) (l : List UInt8) (w : World) (hbk : w.cell? ⟨b, 1, none⟩ = some (.slice (some ⟨g, 0, none⟩) l.length cap))
    (hg : w.heap[g]? = some (.cells cur 5 (0, 0))) (hc : l.length ≤ cur.size) (hcap : cap ≠ 0) (h63 : l.length ≤ 9223372036854775807) (h0 : l ≠ [])
    (hl : ∀ (j : Nat) x, l[j]? = some x → cur[j]? = some (.int .u8 x.toNat)) :
    Calls Try.prog 103 #[.pointer (some ⟨b, 0, none⟩)] w fun e w' => e = .returned (.string ⟨l.toArray⟩) ∧ w' = w.drew.freeze ⟨g, 0, none⟩ l.length := by
  have c1 : w.drew.cell? ⟨b, 1, none⟩ = some (.slice (some ⟨g, 0, none⟩) l.length cap) := hbk
  have hSD : (Builtin.unsafeSliceData_ #[22] 139 #[.slice (some ⟨g, 0, none⟩) l.length cap]).run Try.prog w.drew = .ok (.pointer (some ⟨g, 0, none⟩)) w.drew :=
    Lib.run_unsafeSliceData_row _ _ _ _ _ _ hcap
  have hUS : (Builtin.unsafeString_ #[139, 3] 9 #[.pointer (some ⟨g, 0, none⟩), .int .i64 l.length]).run Try.prog w.drew = .ok (.string ⟨l.toArray⟩) (w.drew.freeze ⟨g, 0, none⟩ l.length) := by
    have hg' : w.drew.heap[g]? = some (.cells cur 5 (0, 0)) := hg
    refine Lib.run_unsafeString_row w.drew 139 3 9 5 Try.underlying139 (by kernel_rfl) g cur.size (by simp [World.shape?, hg']) l h0 hc h63 ?_
    intro j x hx
    by_cases hj : j = 0
    · subst hj; simp [World.cell?, Addr.add, hg', hl 0 x hx]
    · simp [World.cell?, Addr.add, hj, hg', hl j x hx]
  go_enter Try.func103, Try.ntmps103
  go_wp2
  go_region
  all_goals (go_wp2; go_ret; exact ⟨rfl, rfl⟩)

variable {F : Nat → Prop} {G : GSt} {w : World}

theorem copyCheck_ev {S : Store} {o ver : Nat} {c0 c1 : PV} (hS : S.obs[o]? = some (.arr ver 118 2 [c0, c1])) (h0 : c0 = .nilp ∨ c0 = .ref o ver 0) :
    Ev Try.prog 130 [.ref o ver 0] S fun v S' => v = .tup [] ∧ S' = ⟨S.obs.set o (.arr ver 118 2 [.ref o ver 0, c1]), S.tick⟩ := by
  refine ⟨Fn.ent ⟨Try.func130, by kernel_rfl, rfl, by kernel_rfl⟩, fun F G w cargs hE hi hl hv => ?_⟩
  subst hE
  obtain ⟨c, rfl⟩ : ∃ c, cargs = #[c] := by
    match cargs, hl with
    | ⟨[c]⟩, _ => exact ⟨c, rfl⟩
  have hco : G.er.cellsOf o ver = some [c0, c1] := by simp [Store.cellsOf, hS]
  obtain ⟨et, sz, l, hG, rfl, hver⟩ := (hv 0 _ c rfl rfl).ref_at hi hco
  obtain ⟨l2, hG2⟩ := er_get hS
  rw [hG] at hG2
  cases hG2
  obtain ⟨cs, hb, hcs, hle, hcell⟩ := hi.arr o _ _ _ _ l hG
  obtain ⟨-, v0, hv0, hr0⟩ := hcell 0 c0 rfl
  obtain ⟨hc1, v1, hv1, hr1⟩ := hcell 1 c1 rfl
  have hle2 : 2 ≤ cs.size := by simp only [List.length_cons, List.length_nil] at hle; omega
  have hself : ∀ (G' : GSt), G.tick ≤ G'.tick → (∀ ob l', G'.obs[o]? = some (ob, l') → ob.ver = ver → ∃ et sz cells, ob = .arr ver et sz cells ∧ l' = l) → VR w.heap F G' (.ref o ver 0) (.pointer (some ⟨l.blk, 0, none⟩)) := by
    intro G' ht h
    refine .ref _ _ _ _ (Nat.lt_of_lt_of_le hver ht) fun ob l' h1 h2 => ?_
    obtain ⟨a, b, c, d, rfl⟩ := h ob l' h1 h2
    exact ⟨a, b, c, d, rfl⟩
  have hcell0 : w.cell? ⟨l.blk, 0, none⟩ = some v0 := by simp [World.cell?, hb, hv0]
  have put : ∀ w' : World, w'.os = w.os → w'.tape = w.tape → w'.output = w.output → w'.heap.size = w.heap.size → (∀ b, b ≠ l.blk → w'.heap[b]? = w.heap[b]?) →
      (∃ cs' : Array Value, w'.heap[l.blk]? = some (.cells cs' 118 (0, 0)) ∧ cs'.size = cs.size ∧ cs'[0]? = some (.pointer (some ⟨l.blk, 0, none⟩)) ∧ cs'[1]? = some v1) →
      Inv F ⟨G.obs.set o (.arr ver 118 2 [.ref o ver 0, c1], l), G.tick⟩ w' ∧ Next F G w F ⟨G.obs.set o (.arr ver 118 2 [.ref o ver 0, c1], l), G.tick⟩ w' := by
    rintro w' h1 h2 h3 h4 h5 ⟨cs', k1, k2, k3, k4⟩
    refine put_obj hi hG _ l G.tick w' h1 h2 h3 (by omega) (.inl rfl) (fun b _ hb => h5 b hb) (Nat.le_refl _) (show ver < G.tick from hver) (.inl ⟨rfl, by simp [Ob.like], rfl⟩) ?_
    refine ⟨cs', k1, by omega, by simp; omega, ?_⟩
    rintro (_ | _ | i) p hp
    · simp at hp; subst hp
      exact ⟨rfl, _, k3, hself G (Nat.le_refl _) fun ob l' h1 h2 => by rw [hG] at h1; cases h1; exact ⟨_, _, _, rfl, rfl⟩⟩
    · simp at hp; subst hp
      exact ⟨hc1, v1, k4, hr1⟩
    · simp at hp
  have er : ∀ ob, (⟨G.obs.set o (ob, l), G.tick⟩ : GSt).er = ⟨G.er.obs.set o ob, G.er.tick⟩ := by intro ob; simp [GSt.er, List.map_set]
  rcases h0 with rfl | rfl
  · have hv0' : v0 = .pointer none := by cases hr0 with | imm _ _ h => cases h; rfl
    subst hv0'
    refine (copyCheck_fresh l.blk cs.size hle2 w hcell0 (by simp [World.shape?, hb]) (by simp [World.frozen?, hb])).mono ?_
    rintro e w' ⟨rfl, rfl⟩
    obtain ⟨i1, n1⟩ := put (w.setCell ⟨l.blk, 0, none⟩ (.pointer (some ⟨l.blk, 0, none⟩))) rfl rfl rfl (by simp) (fun b hb => by simp [World.setCell, Array.getElem?_modify, Ne.symm hb])
      ⟨cs.setIfInBounds 0 (.pointer (some ⟨l.blk, 0, none⟩)), by simp [World.setCell, Array.getElem?_modify, hb], by simp, by rw [Array.getElem?_setIfInBounds, if_pos rfl, if_pos (by omega)], by simp [Array.getElem?_setIfInBounds, hv1]⟩
    exact ⟨_, _, F, _, rfl, ⟨rfl, er _⟩, i1, n1, .tup [] #[] rfl (by simp)⟩
  · have hv0' : v0 = .pointer (some ⟨l.blk, 0, none⟩) := by
      obtain ⟨_, _, l3, h1, h2, _⟩ := hr0.ref_at hi hco
      rw [hG] at h1; cases h1; exact h2
    subst hv0'
    refine (copyCheck_used l.blk w hcell0).mono ?_
    rintro e w' ⟨rfl, rfl⟩
    obtain ⟨i1, n1⟩ := put w' rfl rfl rfl rfl (fun _ _ => rfl) ⟨cs, hb, rfl, hv0, hv1⟩
    exact ⟨_, _, F, _, rfl, ⟨rfl, er _⟩, i1, n1, .tup [] #[] rfl (by simp)⟩

theorem builderString_ev {A : List Ob} {t ver vq : Nat} {c0 : PV} {l : Txt} (h0 : l ≠ []) :
    Ev Try.prog 103 [.ref A.length ver 0] ⟨A ++ [.arr ver 118 2 [c0, .loc (A.length + 1) vq 0 l.length], .arr vq 5 1 (l.map eB)], t⟩ fun v S' => v = .str l ∧ S' = ⟨A, t⟩ := by
  refine ⟨Fn.ent ⟨Try.func103, by kernel_rfl, rfl, by kernel_rfl⟩, fun F G w cargs hE hi hl hv => ?_⟩
  obtain ⟨c, rfl⟩ : ∃ c, cargs = #[c] := by
    match cargs, hl with
    | ⟨[c]⟩, _ => exact ⟨c, rfl⟩
  have hobs : G.er.obs = A ++ [.arr ver 118 2 [c0, .loc (A.length + 1) vq 0 l.length], .arr vq 5 1 (l.map eB)] := by rw [hE]
  have htk : G.tick = t := congrArg Store.tick hE
  have hSo : G.er.obs[A.length]? = some (.arr ver 118 2 [c0, .loc (A.length + 1) vq 0 l.length]) := by rw [hobs]; simp
  have hSq : G.er.obs[A.length + 1]? = some (.arr vq 5 1 (l.map eB)) := by rw [hobs]; simp
  obtain ⟨et, sz, lo, hGo, rfl, hver⟩ := (hv 0 _ c rfl rfl).ref_at hi (cells := [c0, .loc (A.length + 1) vq 0 l.length]) (by simp [Store.cellsOf, hSo])
  obtain ⟨lo2, hGo2⟩ := er_get hSo
  rw [hGo] at hGo2
  cases hGo2
  obtain ⟨lq, hGq⟩ := er_get hSq
  obtain ⟨cs, hb, hcs, hle, hcell⟩ := hi.arr _ _ _ _ _ lo hGo
  obtain ⟨cq, hbq, hcq, hleq, hcellq⟩ := hi.arr _ _ _ _ _ lq hGq
  obtain ⟨-, v0, hv0, hr0⟩ := hcell 0 c0 rfl
  obtain ⟨-, v1, hv1, hr1⟩ := hcell 1 _ rfl
  obtain ⟨_, _, lq2, cap, hGq2, rfl, _, hnc, hcm, hroom⟩ := hr1.loc_at hi (cells := l.map eB) (by simp [Store.cellsOf, hSq])
  rw [hGq] at hGq2
  cases hGq2
  have hl0 : l.length ≠ 0 := by simpa using h0
  have hc1 : w.cell? ⟨lo.blk, 1, none⟩ = some (.slice (some ⟨lq.blk, 0, none⟩) l.length cap) := by simp [World.cell?, hb, hv1]
  refine (builderString lo.blk lq.blk cap cq l w hc1 hbq (by simp at hleq; omega) (by omega) (by unfold maxLen at hcm; omega) h0 ?_).mono ?_
  · intro j x hx
    obtain ⟨-, v, k1, k2⟩ := hcellq j (eB x) (by simp [hx])
    rw [k1, k2.int]
  · rintro e w' ⟨rfl, rfl⟩
    have hoth : ∀ b, b ≠ lq.blk → (w.drew.freeze ⟨lq.blk, 0, none⟩ l.length).heap[b]? = w.heap[b]? := by
      intro b hb'
      show _ = w.drew.heap[b]?
      simp only [World.freeze, if_neg hl0, Array.getElem?_modify, Ne.symm hb', if_false]
    have hsz : (w.drew.freeze ⟨lq.blk, 0, none⟩ l.length).heap.size = w.heap.size := by
      show (w.drew.freeze ⟨lq.blk, 0, none⟩ l.length).heap.size = w.drew.heap.size
      simp only [World.freeze, if_neg hl0, Array.size_modify]
    have hos : ∀ w2 : World, (w2.freeze ⟨lq.blk, 0, none⟩ l.length).os = w2.os ∧ (w2.freeze ⟨lq.blk, 0, none⟩ l.length).tape = w2.tape ∧ (w2.freeze ⟨lq.blk, 0, none⟩ l.length).output = w2.output := by
      intro w2; simp [World.freeze, hl0]
    have nx : Next F G w F (G.take A.length) (w.drew.freeze ⟨lq.blk, 0, none⟩ l.length) :=
      ⟨(hos _).1, (hos _).2.1, (hos _).2.2, by omega, fun _ h => h, fun _ h => .inl h, fun o x h => .inr ⟨o, x, take_get h, rfl⟩, Nat.le_refl _,
        fun b _ hG => hoth b fun e => hG _ _ hGq e.symm, fun _ ob' _ h _ => ⟨ob', take_get h, rfl, Ob.like.refl _⟩⟩
    have tlt : ∀ (o : Nat) x, (G.take A.length).obs[o]? = some x → o < A.length := by
      intro o x hx
      have := (List.getElem?_eq_some_iff.1 hx).1
      simp only [GSt.take, List.length_take] at this; omega
    refine ⟨.str l, _, F, G.take A.length, rfl, ⟨rfl, ?_⟩, inv_of (fun b hb => by rw [hsz]; exact hi.fr b hb) (fun o ob l' h => hi.ver o ob l' (take_get h)) (fun o ob l' h => hi.nF o ob l' (take_get h))
      (fun o ob l' h => (hi.holds (take_get h)).next hi nx (hoth _ fun e => ?_)) (fun o o' x x' h h' => hi.inj o o' x x' (take_get h) (take_get h')), nx, .imm _ _ (.str _ _ rfl)⟩
    · rw [take_er, hE]; simp [Store.take]
    · have := hi.inj o _ _ _ (take_get h) hGq e
      have := tlt o _ h
      omega

end Fw
end Go.Proofs.Ytmhcknpjgikgmaa

/-! Small functions of the program and of the library, gone through. -/
namespace Go.Proofs.Ytmhcknpjgikgmaa
namespace Fw
open Go

theorem high_pc (g : List (List Int)) (rs : List Rect) : PC Try.prog 101 [eFloor g rs] (.int .i64 g.length) true := by
  refine PC.of ⟨Try.func101, by kernel_rfl, rfl, by kernel_rfl⟩ tabOk mixed (by show 1 ≤ Try.f101.ntmps; decide) ?_
  refine W.seq_region fun K hK => ?_
  simp (disch := omega) only [↓RU, RV, RH, ↓reduceIte, Nat.reduceEqDiff, reduceCtorEq, if_pos, ↓RS, RG, Nat.reduceAdd, Nat.reduceMul, Nat.reduceLeDiff]
  refine hK _ _ ?_
  clear hK K
  refine W.seq_region fun K hK => ?_
  simp (disch := omega) only [↓RU, RV, RH, ↓reduceIte, Nat.reduceEqDiff, reduceCtorEq, if_pos, ↓RS, RG, Nat.reduceAdd, Nat.reduceMul, Nat.reduceLeDiff, tyLLint, tyLimpl_rect, tyLint, tyimpl_floor, tyimpl_grid, tyimpl_rect, tyint, tystruct_cells_impl_grid_rooms_Limpl_rect_, tystruct_row_int_col_int_high_int_wide_int_]
  refine hK _ _ ?_
  clear hK K
  refine W.ret ?_
  refine BodyQ.ret rfl ?_
  rfl

theorem wide_pc {g : List (List Int)} {row : List Int} (h : g[0]? = some row) (rs : List Rect) : PC Try.prog 106 [eFloor g rs] (.int .i64 row.length) true := by
  have hl := len_of h
  refine PC.of ⟨Try.func106, by kernel_rfl, rfl, by kernel_rfl⟩ tabOk mixed (by show 1 ≤ Try.f106.ntmps; decide) ?_
  refine W.seq_region fun K hK => ?_
  simp (disch := omega) only [↓RU, RV, RH, ↓reduceIte, Nat.reduceEqDiff, reduceCtorEq, if_pos, ↓RS, RG, Nat.reduceAdd, Nat.reduceMul, Nat.reduceLeDiff]
  refine hK _ _ ?_
  clear hK K
  refine W.seq_region fun K hK => ?_
  simp (disch := omega) only [↓RU, RV, RH, ↓reduceIte, Nat.reduceEqDiff, reduceCtorEq, if_pos, ↓RS, RG, Nat.reduceAdd, Nat.reduceMul, Nat.reduceLeDiff, tyLLint, tyLimpl_rect, tyLint, tyimpl_floor, tyimpl_grid, tyimpl_rect, tyint, tystruct_cells_impl_grid_rooms_Limpl_rect_, tystruct_row_int_col_int_high_int_wide_int_, h, Int.toNat_zero, Nat.zero_mul, Int.reduceToNat]
  refine hK _ _ ?_
  clear hK K
  refine W.ret ?_
  refine BodyQ.ret rfl ?_
  rfl

theorem area_pc {r : Rect} (h1 : 0 ≤ r.high * r.wide) (h2 : r.high * r.wide ≤ 1048576) : PC Try.prog 129 [eRect r] (.int .i64 (r.high * r.wide)) true := by
  simp only [eRect, Rect.cells]
  refine PC.of ⟨Try.func129, by kernel_rfl, rfl, by kernel_rfl⟩ tabOk mixed (by show 1 ≤ Try.f129.ntmps; decide) ?_
  refine W.seq_region fun K hK => ?_
  simp (disch := omega) only [↓RU, RV, RH, ↓reduceIte, Nat.reduceEqDiff, reduceCtorEq, if_pos, ↓RS, RG, Nat.reduceAdd, Nat.reduceMul, Nat.reduceLeDiff, tyimpl_rect, tyint, tystruct_row_int_col_int_high_int_wide_int_]
  refine hK _ _ ?_
  clear hK K
  refine W.seq_region fun K hK => ?_
  simp (disch := omega) only [↓RU, RV, RH, ↓reduceIte, Nat.reduceEqDiff, reduceCtorEq, if_pos, w64, ↓RS, RG, Nat.reduceAdd, Nat.reduceMul, Nat.reduceLeDiff, tyimpl_rect, tyint, tystruct_row_int_col_int_high_int_wide_int_]
  refine hK _ _ ?_
  clear hK K
  refine W.ret ?_
  refine BodyQ.ret rfl ?_
  rfl

theorem both_pc {b o : Rect} (hb : b.In 1000) (ho : o.In 1000) : PC Try.prog 128 [eRect b, eRect o] (eRect (b.both o)) true := by
  unfold Rect.In at hb ho
  simp only [eRect, Rect.cells, Rect.both]
  refine PC.of ⟨Try.func128, by kernel_rfl, rfl, by kernel_rfl⟩ tabOk mixed (by show 2 ≤ Try.f128.ntmps; decide) ?_
  refine W.seq_region fun K hK => ?_
  simp (disch := omega) only [↓RU, RV, RH, ↓reduceIte, Nat.reduceEqDiff, reduceCtorEq, if_pos, ↓RS, RG, Nat.reduceAdd, Nat.reduceMul, Nat.reduceLeDiff, tyimpl_rect, tyint, tystruct_row_int_col_int_high_int_wide_int_]
  refine hK _ _ ?_
  clear hK K
  refine W.seq_draw (by kernel_rfl) fun K hK => ?_
  simp (disch := omega) only [↓RU, RV, RH, ↓reduceIte, Nat.reduceEqDiff, reduceCtorEq, if_pos, ite_min, ↓RS, RG, Nat.reduceAdd, Nat.reduceMul, Nat.reduceLeDiff, tyimpl_rect, tyint, tystruct_row_int_col_int_high_int_wide_int_]
  refine hK _ _ ?_
  clear hK K
  refine W.seq_region fun K hK => ?_
  simp (disch := omega) only [↓RU, RV, RH, ↓reduceIte, Nat.reduceEqDiff, reduceCtorEq, if_pos, w64, ite_max, ↓RS, RG, Nat.reduceAdd, Nat.reduceMul, Nat.reduceLeDiff, tyimpl_rect, tyint, tystruct_row_int_col_int_high_int_wide_int_]
  refine hK _ _ ?_
  clear hK K
  refine W.ret ?_
  refine BodyQ.ret rfl ?_
  rfl

theorem needing1_pc (n : Int) : PC Try.prog 83 [.int .i64 n] (.bool (!needB n)) true := by
  refine PC.of ⟨Try.func83, by kernel_rfl, rfl, by kernel_rfl⟩ tabOk mixed (by show 1 ≤ Try.f83.ntmps; decide) ?_
  refine W.seq_region fun K hK => ?_
  simp (disch := omega) only [↓RU, RV, RH, ↓reduceIte, Nat.reduceEqDiff, reduceCtorEq, if_pos]
  refine hK _ _ ?_
  clear hK K
  refine W.seq_region fun K hK => ?_
  by_cases h : n < 1
  · skip
    simp (disch := omega) only [↓RU, RV, RH, ↓reduceIte, Nat.reduceEqDiff, reduceCtorEq, if_pos, w64, tyint, h, decide_true]
    refine hK _ _ ?_
    clear hK K
    refine W.ret ?_
    refine BodyQ.ret rfl ?_
    rw [show needB n = false by simp [needB]; omega]
    rfl
  · skip
    simp (disch := omega) only [↓RU, RV, RH, ↓reduceIte, Nat.reduceEqDiff, reduceCtorEq, if_pos, w64, tyint, h, decide_false]
    refine hK _ _ ?_
    clear hK K
    refine W.ret ?_
    refine BodyQ.ret rfl ?_
    have hx : needB n = decide (n ≤ 9) := by simp [needB]; omega
    rw [show (!needB n) = decide (9 < n) by rw [hx, ← decide_not]; apply decide_eq_decide.2; omega]
    rfl

theorem settled1_pc (row : List Int) (w : Int) (hr : row.length < 2147483648) : PC Try.prog 125 [eInts row, .ip [.int .i64 w] 0] (.bool (decide ((row.length : Int) ≠ w))) true := by
  refine PC.of ⟨Try.func125, by kernel_rfl, rfl, by kernel_rfl⟩ tabOk mixed (by show 2 ≤ Try.f125.ntmps; decide) ?_
  refine W.seq_region fun K hK => ?_
  simp (disch := omega) only [↓RU, RV, RH, ↓reduceIte, Nat.reduceEqDiff, reduceCtorEq, if_pos, ↓RS, RG, Nat.reduceAdd, Nat.reduceMul, Nat.reduceLeDiff]
  refine hK _ _ ?_
  clear hK K
  refine W.seq_region fun K hK => ?_
  simp (disch := omega) only [↓RU, RV, RH, ↓reduceIte, Nat.reduceEqDiff, reduceCtorEq, if_pos, w64, ↓RS, RG, Nat.reduceAdd, Nat.reduceMul, Nat.reduceLeDiff, tyLint, tyint]
  refine hK _ _ ?_
  clear hK K
  refine W.ret ?_
  refine BodyQ.ret rfl ?_
  rw [show decide ((row.length : Int) ≠ w) = ((row.length : Int) != w) by rw [bne_int]; simp]
  rfl

theorem indexInt_pc {l : List Int} (hl : l.length < 2147483648) {g : FuncId} {cap : List PV} (hc : cap.mapM (reify ⟨[], 0⟩ true 10) = some cap) {test : Int → Bool} (hg : ∀ x ∈ l, PC Try.prog g (.int .i64 x :: cap) (.bool (test x)) true) : PC Try.prog 105 [eInts l, .fn g cap] (.int .i64 (ixf test l)) true := by
  refine PC.of ⟨Try.func105, by kernel_rfl, rfl, by kernel_rfl⟩ tabOk mixed (by show 2 ≤ Try.f105.ntmps; decide) ?_
  refine W.seq_region fun K hK => ?_
  simp (disch := omega) only [↓RU, RV, RH, ↓reduceIte, Nat.reduceEqDiff, reduceCtorEq, if_pos]
  refine hK _ _ ?_
  clear hK K
  refine W.seq ?_
  refine W.seq_region fun K hK => ?_
  simp (disch := omega) only [↓RU, RV, RH, ↓reduceIte, Nat.reduceEqDiff, reduceCtorEq, if_pos, tyLint, tyint]
  refine hK _ _ ?_
  clear hK K
  refine W.block ?_
  refine W.loop [0, 1, 6, 7, 8] (fun n vs S => ∃ i : Nat, n = l.length - i ∧ i ≤ l.length ∧ ((l.take i).any test = false) ∧ vs = [eInts l, .fn g cap, eInts l, .int .i64 l.length, .int .i64 i] ∧ S = ⟨[], 0⟩) (l.length) ?_ ?_
  · refine ⟨0, 0, rfl, Nat.zero_le _, rfl, ?_, rfl⟩
    simp [Env.put, Env.of, argEnv]
  rintro n vs S - ⟨i, rfl, h_i, hall, rfl, rfl⟩
  refine W.seq_region fun K hK => ?_
  simp (disch := omega) only [↓RU, RV, RH, ↓reduceIte, Nat.reduceEqDiff, reduceCtorEq, if_pos, w64, tyint]
  refine hK _ _ ?_
  clear hK K
  refine W.seq ?_
  refine W.cond rfl (fun h => ?_) (fun h => ?_)
  · try simp only [RL] at h
    obtain ⟨x, hx, hxm⟩ := get_of (show i < l.length by omega)
    refine W.skip ?_
    refine XThen.norm ?_
    refine W.seq ?_
    refine W.block ?_
    refine W.seq_region fun K hK => ?_
    simp (disch := omega) only [↓RU, RV, RH, ↓reduceIte, Nat.reduceEqDiff, reduceCtorEq, if_pos]
    refine hK _ _ ?_
    clear hK K
    refine W.seq_region fun K hK => ?_
    simp (disch := omega) only [↓RU, RV, RH, ↓reduceIte, Nat.reduceEqDiff, reduceCtorEq, if_pos, List.append_nil, tyLint, tyint, hx]
    refine CallR.pc (hg x hxm) (mapM_one rfl hc) (.inl rfl) ?_
    simp (disch := omega) only [↓RU, RV, RH, ↓reduceIte, Nat.reduceEqDiff, reduceCtorEq, if_pos, List.append_nil, tyLint, tyint, hx]
    refine hK _ _ ?_
    clear hK K
    refine W.cond rfl (fun h1 => ?_) (fun h1 => ?_)
    · try simp only [RL] at h1
      refine W.seq_region fun K hK => ?_
      simp (disch := omega) only [↓RU, RV, RH, ↓reduceIte, Nat.reduceEqDiff, reduceCtorEq, if_pos]
      refine hK _ _ ?_
      clear hK K
      refine W.ret ?_
      refine XBlock.ret ?_
      refine XThen.ret ?_
      refine XThen.ret ?_
      refine XBlock.ret ?_
      refine XThen.ret ?_
      refine BodyQ.ret rfl ?_
      rw [ixf_at hx hall h1]
      rfl
    · try simp only [RL] at h1
      refine W.skip ?_
      refine XBlock.norm ?_
      refine XThen.norm ?_
      refine W.region_k fun K hK => ?_
      simp (disch := omega) only [↓RU, RV, RH, ↓reduceIte, Nat.reduceEqDiff, reduceCtorEq, if_pos, w64, tyint]
      refine hK _ _ ?_
      clear hK K
      refine XThen.norm ?_
      refine ⟨l.length - (i + 1), by omega, 0, i + 1, rfl, by omega, any_tk hx (by assumption) h1, ?_, rfl⟩
      simp [Env.put, Env.of]
  · try simp only [RL] at h
    refine W.exit ?_
    refine XThen.exit ?_
    refine XThen.exit ?_
    refine XBlock.hit ?_
    refine XThen.norm ?_
    refine W.seq_region fun K hK => ?_
    simp (disch := omega) only [↓RU, RV, RH, ↓reduceIte, Nat.reduceEqDiff, reduceCtorEq, if_pos]
    refine hK _ _ ?_
    clear hK K
    refine W.ret ?_
    refine BodyQ.ret rfl ?_
    have hip : l.take i = l := List.take_of_length_le (by omega)
    rw [hip] at hall
    rw [ixf_none hall]
    rfl

theorem indexRow_pc {l : List (List Int)} (hl : l.length < 2147483648) {g : FuncId} {cap : List PV} (hc : cap.mapM (reify ⟨[], 0⟩ true 10) = some cap) {test : (List Int) → Bool} (hg : ∀ x ∈ l, PC Try.prog g (eInts x :: cap) (.bool (test x)) true) : PC Try.prog 145 [eGrid l, .fn g cap] (.int .i64 (ixf test l)) true := by
  refine PC.of ⟨Try.func145, by kernel_rfl, rfl, by kernel_rfl⟩ tabOk mixed (by show 2 ≤ Try.f145.ntmps; decide) ?_
  refine W.seq_region fun K hK => ?_
  simp (disch := omega) only [↓RU, RV, RH, ↓reduceIte, Nat.reduceEqDiff, reduceCtorEq, if_pos]
  refine hK _ _ ?_
  clear hK K
  refine W.seq ?_
  refine W.seq_region fun K hK => ?_
  simp (disch := omega) only [↓RU, RV, RH, ↓reduceIte, Nat.reduceEqDiff, reduceCtorEq, if_pos, tyLLint, tyLint, tyimpl_grid, tyint]
  refine hK _ _ ?_
  clear hK K
  refine W.block ?_
  refine W.loop [0, 1, 6, 7, 8] (fun n vs S => ∃ i : Nat, n = l.length - i ∧ i ≤ l.length ∧ ((l.take i).any test = false) ∧ vs = [eGrid l, .fn g cap, eGrid l, .int .i64 l.length, .int .i64 i] ∧ S = ⟨[], 0⟩) (l.length) ?_ ?_
  · refine ⟨0, 0, rfl, Nat.zero_le _, rfl, ?_, rfl⟩
    simp [Env.put, Env.of, argEnv]
  rintro n vs S - ⟨i, rfl, h_i, hall, rfl, rfl⟩
  refine W.seq_region fun K hK => ?_
  simp (disch := omega) only [↓RU, RV, RH, ↓reduceIte, Nat.reduceEqDiff, reduceCtorEq, if_pos, w64, tyint]
  refine hK _ _ ?_
  clear hK K
  refine W.seq ?_
  refine W.cond rfl (fun h => ?_) (fun h => ?_)
  · try simp only [RL] at h
    obtain ⟨x, hx, hxm⟩ := get_of (show i < l.length by omega)
    refine W.skip ?_
    refine XThen.norm ?_
    refine W.seq ?_
    refine W.block ?_
    refine W.seq_region fun K hK => ?_
    simp (disch := omega) only [↓RU, RV, RH, ↓reduceIte, Nat.reduceEqDiff, reduceCtorEq, if_pos]
    refine hK _ _ ?_
    clear hK K
    refine W.seq_region fun K hK => ?_
    simp (disch := omega) only [↓RU, RV, RH, ↓reduceIte, Nat.reduceEqDiff, reduceCtorEq, if_pos, List.append_nil, tyLLint, tyLint, tyimpl_grid, tyint, hx]
    refine CallR.pc (hg x hxm) (mapM_one rfl hc) (.inl rfl) ?_
    simp (disch := omega) only [↓RU, RV, RH, ↓reduceIte, Nat.reduceEqDiff, reduceCtorEq, if_pos, List.append_nil, tyLLint, tyLint, tyimpl_grid, tyint, hx]
    refine hK _ _ ?_
    clear hK K
    refine W.cond rfl (fun h1 => ?_) (fun h1 => ?_)
    · try simp only [RL] at h1
      refine W.seq_region fun K hK => ?_
      simp (disch := omega) only [↓RU, RV, RH, ↓reduceIte, Nat.reduceEqDiff, reduceCtorEq, if_pos]
      refine hK _ _ ?_
      clear hK K
      refine W.ret ?_
      refine XBlock.ret ?_
      refine XThen.ret ?_
      refine XThen.ret ?_
      refine XBlock.ret ?_
      refine XThen.ret ?_
      refine BodyQ.ret rfl ?_
      rw [ixf_at hx hall h1]
      rfl
    · try simp only [RL] at h1
      refine W.skip ?_
      refine XBlock.norm ?_
      refine XThen.norm ?_
      refine W.region_k fun K hK => ?_
      simp (disch := omega) only [↓RU, RV, RH, ↓reduceIte, Nat.reduceEqDiff, reduceCtorEq, if_pos, w64, tyint]
      refine hK _ _ ?_
      clear hK K
      refine XThen.norm ?_
      refine ⟨l.length - (i + 1), by omega, 0, i + 1, rfl, by omega, any_tk hx (by assumption) h1, ?_, rfl⟩
      simp [Env.put, Env.of]
  · try simp only [RL] at h
    refine W.exit ?_
    refine XThen.exit ?_
    refine XThen.exit ?_
    refine XBlock.hit ?_
    refine XThen.norm ?_
    refine W.seq_region fun K hK => ?_
    simp (disch := omega) only [↓RU, RV, RH, ↓reduceIte, Nat.reduceEqDiff, reduceCtorEq, if_pos]
    refine hK _ _ ?_
    clear hK K
    refine W.ret ?_
    refine BodyQ.ret rfl ?_
    have hip : l.take i = l := List.take_of_length_le (by omega)
    rw [hip] at hall
    rw [ixf_none hall]
    rfl

theorem containsInt_pc {l : List Int} (hl : l.length < 2147483648) {g : FuncId} {cap : List PV} (hc9 : cap.mapM (reify ⟨[], 0⟩ true 9) = some cap) (hc : cap.mapM (reify ⟨[], 0⟩ true 10) = some cap) {test : Int → Bool} (hg : ∀ x ∈ l, PC Try.prog g (.int .i64 x :: cap) (.bool (test x)) true) : PC Try.prog 84 [eInts l, .fn g cap] (.bool (l.any test)) true := by
  have hcr : [eInts l, .fn g cap].mapM (reify ⟨[], 0⟩ true 10) = some [eInts l, .fn g cap] := mapM_one rfl (mapM_one (by rw [reify_fn, hc9]; rfl) rfl)
  refine PC.of ⟨Try.func84, by kernel_rfl, rfl, by kernel_rfl⟩ tabOk mixed (by show 2 ≤ Try.f84.ntmps; decide) ?_
  refine W.seq_region fun K hK => ?_
  simp (disch := omega) only [↓RU, RV, RH, ↓reduceIte, Nat.reduceEqDiff, reduceCtorEq, if_pos]
  refine hK _ _ ?_
  clear hK K
  refine W.seq_region fun K hK => ?_
  simp (disch := omega) only [↓RU, RV, RH, ↓reduceIte, Nat.reduceEqDiff, reduceCtorEq, if_pos, List.append_nil, w64, tyint]
  refine CallR.pc (indexInt_pc hl hc hg) hcr (.inl rfl) ?_
  simp (disch := omega) only [↓RU, RV, RH, ↓reduceIte, Nat.reduceEqDiff, reduceCtorEq, if_pos, List.append_nil, w64, tyint]
  refine hK _ _ ?_
  clear hK K
  refine W.ret ?_
  refine BodyQ.ret rfl ?_
  rw [← ixf_any]
  rfl

theorem containsRow_pc {l : List (List Int)} (hl : l.length < 2147483648) {g : FuncId} {cap : List PV} (hc9 : cap.mapM (reify ⟨[], 0⟩ true 9) = some cap) (hc : cap.mapM (reify ⟨[], 0⟩ true 10) = some cap) {test : (List Int) → Bool} (hg : ∀ x ∈ l, PC Try.prog g (eInts x :: cap) (.bool (test x)) true) : PC Try.prog 124 [eGrid l, .fn g cap] (.bool (l.any test)) true := by
  have hcr : [eGrid l, .fn g cap].mapM (reify ⟨[], 0⟩ true 10) = some [eGrid l, .fn g cap] := mapM_one rfl (mapM_one (by rw [reify_fn, hc9]; rfl) rfl)
  refine PC.of ⟨Try.func124, by kernel_rfl, rfl, by kernel_rfl⟩ tabOk mixed (by show 2 ≤ Try.f124.ntmps; decide) ?_
  refine W.seq_region fun K hK => ?_
  simp (disch := omega) only [↓RU, RV, RH, ↓reduceIte, Nat.reduceEqDiff, reduceCtorEq, if_pos]
  refine hK _ _ ?_
  clear hK K
  refine W.seq_region fun K hK => ?_
  simp (disch := omega) only [↓RU, RV, RH, ↓reduceIte, Nat.reduceEqDiff, reduceCtorEq, if_pos, List.append_nil, w64, tyint]
  refine CallR.pc (indexRow_pc hl hc hg) hcr (.inl rfl) ?_
  simp (disch := omega) only [↓RU, RV, RH, ↓reduceIte, Nat.reduceEqDiff, reduceCtorEq, if_pos, List.append_nil, w64, tyint]
  refine hK _ _ ?_
  clear hK K
  refine W.ret ?_
  refine BodyQ.ret rfl ?_
  rw [← ixf_any]
  rfl

theorem equalStrs_pc {p q : List Txt} (hp : p.length < 2147483648) (hq : q.length < 2147483648) : PC Try.prog 79 [eStrs p, eStrs q] (.bool (decide (p = q))) true := by
  refine PC.of ⟨Try.func79, by kernel_rfl, rfl, by kernel_rfl⟩ tabOk mixed (by show 2 ≤ Try.f79.ntmps; decide) ?_
  refine W.seq_region fun K hK => ?_
  simp (disch := omega) only [↓RU, RV, RH, ↓reduceIte, Nat.reduceEqDiff, reduceCtorEq, if_pos]
  refine hK _ _ ?_
  clear hK K
  refine W.seq ?_
  refine W.seq_region fun K hK => ?_
  simp (disch := omega) only [↓RU, RV, RH, ↓reduceIte, Nat.reduceEqDiff, reduceCtorEq, if_pos, w64, tyLstring, tyint, tystring]
  refine hK _ _ ?_
  clear hK K
  refine W.cond rfl (fun h => ?_) (fun h => ?_)
  · try simp only [RL] at h
    refine W.seq_region fun K hK => ?_
    simp (disch := omega) only [↓RU, RV, RH, ↓reduceIte, Nat.reduceEqDiff, reduceCtorEq, if_pos]
    refine hK _ _ ?_
    clear hK K
    refine W.ret ?_
    refine XThen.ret ?_
    refine BodyQ.ret rfl ?_
    rw [show decide (p = q) = false by simp; rintro rfl; exact h rfl]
    rfl
  · try simp only [RL] at h
    refine W.skip ?_
    refine XThen.norm ?_
    refine W.seq ?_
    refine W.seq_region fun K hK => ?_
    simp (disch := omega) only [↓RU, RV, RH, ↓reduceIte, Nat.reduceEqDiff, reduceCtorEq, if_pos, tyLstring, tystring]
    refine hK _ _ ?_
    clear hK K
    refine W.block ?_
    refine W.loop [0, 1, 11, 12, 13] (fun n vs S => ∃ i : Nat, n = p.length - i ∧ i ≤ p.length ∧ (p.take i = q.take i) ∧ vs = [eStrs p, eStrs q, eStrs p, .int .i64 p.length, .int .i64 i] ∧ S = ⟨[], 0⟩) (p.length) ?_ ?_
    · refine ⟨0, 0, rfl, Nat.zero_le _, rfl, ?_, rfl⟩
      simp [Env.put, Env.of, argEnv]
    rintro n vs S - ⟨i, rfl, h_i, htk, rfl, rfl⟩
    refine W.seq_region fun K hK => ?_
    simp (disch := omega) only [↓RU, RV, RH, ↓reduceIte, Nat.reduceEqDiff, reduceCtorEq, if_pos, w64, tyint]
    refine hK _ _ ?_
    clear hK K
    refine W.seq ?_
    refine W.cond rfl (fun h1 => ?_) (fun h1 => ?_)
    · try simp only [RL] at h1
      obtain ⟨x, hx, -⟩ := get_of (show i < p.length by omega)
      obtain ⟨y, hy, -⟩ := get_of (show i < q.length by omega)
      refine W.skip ?_
      refine XThen.norm ?_
      refine W.seq ?_
      refine W.block ?_
      refine W.seq_region fun K hK => ?_
      simp (disch := omega) only [↓RU, RV, RH, ↓reduceIte, Nat.reduceEqDiff, reduceCtorEq, if_pos]
      refine hK _ _ ?_
      clear hK K
      refine W.seq_draw (by kernel_rfl) fun K hK => ?_
      simp (disch := omega) only [↓RU, RV, RH, ↓reduceIte, Nat.reduceEqDiff, reduceCtorEq, if_pos, w64, tyLstring, tystring, hx, hy]
      refine hK _ _ ?_
      clear hK K
      refine W.cond rfl (fun h2 => ?_) (fun h2 => ?_)
      · try simp only [RL] at h2
        refine W.seq_region fun K hK => ?_
        simp (disch := omega) only [↓RU, RV, RH, ↓reduceIte, Nat.reduceEqDiff, reduceCtorEq, if_pos]
        refine hK _ _ ?_
        clear hK K
        refine W.ret ?_
        refine XBlock.ret ?_
        refine XThen.ret ?_
        refine XThen.ret ?_
        refine XBlock.ret ?_
        refine XThen.ret ?_
        refine BodyQ.ret rfl ?_
        rw [show decide (p = q) = false by simp; rintro rfl; rw [hx] at hy; simp_all]
        rfl
      · try simp only [RL] at h2
        refine W.skip ?_
        refine XBlock.norm ?_
        refine XThen.norm ?_
        refine W.region_k fun K hK => ?_
        simp (disch := omega) only [↓RU, RV, RH, ↓reduceIte, Nat.reduceEqDiff, reduceCtorEq, if_pos, w64, tyint]
        refine hK _ _ ?_
        clear hK K
        refine XThen.norm ?_
        refine ⟨p.length - (i + 1), by omega, 0, i + 1, rfl, by omega, take_eq_succ htk hx hy h2, ?_, rfl⟩
        simp [Env.put, Env.of]
    · try simp only [RL] at h1
      refine W.exit ?_
      refine XThen.exit ?_
      refine XThen.exit ?_
      refine XBlock.hit ?_
      refine XThen.norm ?_
      refine W.seq_region fun K hK => ?_
      simp (disch := omega) only [↓RU, RV, RH, ↓reduceIte, Nat.reduceEqDiff, reduceCtorEq, if_pos]
      refine hK _ _ ?_
      clear hK K
      refine W.ret ?_
      refine BodyQ.ret rfl ?_
      have h1 : p.take i = p := List.take_of_length_le (by omega)
      have h2 : q.take i = q := List.take_of_length_le (by omega)
      rw [show decide (p = q) = true by simp; rw [← h1, ← h2]; exact htk]
      rfl

end Fw
end Go.Proofs.Ytmhcknpjgikgmaa

/-! Walls of the program, gone through. -/
namespace Go.Proofs.Ytmhcknpjgikgmaa
namespace Fw
open Go

theorem sides_pc {g : List (List Int)} {nh nw : Nat} (hg : GW g nh nw) (rs : List Rect) {level : Bool} {line at_ : Nat} (hi : InL nh nw level line at_) : PC Try.prog 108 [eFloor g rs, .bool level, .int .i64 line, .int .i64 at_] (.tup [.int .i64 (sidesG g level line at_).1, .int .i64 (sidesG g level line at_).2]) true := by
  have hl := hg.1
  obtain ⟨hi1, hi2⟩ := hi
  have hb : line ≤ 6 ∧ at_ ≤ 6 := by have := hg.2.2; cases level <;> simp at hi2 <;> omega
  refine PC.of ⟨Try.func108, by kernel_rfl, rfl, by kernel_rfl⟩ tabOk mixed (by show 4 ≤ Try.f108.ntmps; decide) ?_
  refine W.seq_region fun K hK => ?_
  simp (disch := omega) only [↓RU, RV, RH, ↓reduceIte, Nat.reduceEqDiff, reduceCtorEq, if_pos, ↓RS, RG, Nat.reduceAdd, Nat.reduceMul, Nat.reduceLeDiff]
  refine hK _ _ ?_
  clear hK K
  refine W.seq ?_
  refine W.seq_region fun K hK => ?_
  simp (disch := omega) only [↓RU, RV, RH, ↓reduceIte, Nat.reduceEqDiff, reduceCtorEq, if_pos, ↓RS, RG, Nat.reduceAdd, Nat.reduceMul, Nat.reduceLeDiff]
  refine hK _ _ ?_
  clear hK K
  refine W.cond rfl (fun h0 => ?_) (fun h0 => ?_)
  · try simp only [RL] at h0
    subst h0
    simp only [if_true] at hi2
    obtain ⟨r1, hr1, hl1, hx1⟩ := hg.at_ (i := line - 1) (j := at_) (by omega) hi2.2
    obtain ⟨r2, hr2, hl2, hx2⟩ := hg.at_ (i := line) (j := at_) hi2.1 hi2.2
    refine W.seq_draw (by kernel_rfl) fun K hK => ?_
    simp (disch := omega) only [↓RU, RV, RH, ↓reduceIte, Nat.reduceEqDiff, reduceCtorEq, if_pos, w64, ↓RS, RG, Nat.reduceAdd, Nat.reduceMul, Nat.reduceLeDiff, tyLLint, tyLimpl_rect, tyLint, tyimpl_floor, tyimpl_grid, tyimpl_rect, tyint, tystruct_cells_impl_grid_rooms_Limpl_rect_, tystruct_row_int_col_int_high_int_wide_int_, hr1, hx1, hr2, hx2, toNat_pred]
    refine hK _ _ ?_
    clear hK K
    refine W.ret ?_
    refine XThen.ret ?_
    refine BodyQ.ret rfl ?_
    rfl
  · try simp only [RL] at h0
    subst h0
    simp only [Bool.false_eq_true, if_false] at hi2
    obtain ⟨r1, hr1, hl1, hx1⟩ := hg.at_ (i := at_) (j := line - 1) hi2.2 (by omega)
    obtain ⟨r2, hr2, hl2, hx2⟩ := hg.at_ (i := at_) (j := line) hi2.2 hi2.1
    obtain rfl : r1 = r2 := by rw [hr1] at hr2; exact Option.some.inj hr2
    refine W.skip ?_
    refine XThen.norm ?_
    refine W.seq_draw (by kernel_rfl) fun K hK => ?_
    simp (disch := omega) only [↓RU, RV, RH, ↓reduceIte, Nat.reduceEqDiff, reduceCtorEq, if_pos, w64, ↓RS, RG, Nat.reduceAdd, Nat.reduceMul, Nat.reduceLeDiff, tyLLint, tyLimpl_rect, tyLint, tyimpl_floor, tyimpl_grid, tyimpl_rect, tyint, tystruct_cells_impl_grid_rooms_Limpl_rect_, tystruct_row_int_col_int_high_int_wide_int_, hr1, hx1, hr2, hx2, toNat_pred]
    refine hK _ _ ?_
    clear hK K
    refine W.ret ?_
    refine BodyQ.ret rfl ?_
    rfl

theorem differ_pc {g : List (List Int)} {nh nw : Nat} (hg : GW g nh nw) (rs : List Rect) {level : Bool} {line at_ : Nat} (hi : InL nh nw level line at_) : PC Try.prog 107 [eFloor g rs, .bool level, .int .i64 line, .int .i64 at_] (.bool (difG g level line at_)) true := by
  refine PC.of ⟨Try.func107, by kernel_rfl, rfl, by kernel_rfl⟩ tabOk mixed (by show 4 ≤ Try.f107.ntmps; decide) ?_
  refine W.seq_region fun K hK => ?_
  simp (disch := omega) only [↓RU, RV, RH, ↓reduceIte, Nat.reduceEqDiff, reduceCtorEq, if_pos]
  refine hK _ _ ?_
  clear hK K
  refine W.seq_region fun K hK => ?_
  simp (disch := omega) only [↓RU, RV, RH, ↓reduceIte, Nat.reduceEqDiff, reduceCtorEq, if_pos, List.append_nil]
  refine CallR.pc (sides_pc hg rs hi) rfl (.inl rfl) ?_
  simp (disch := omega) only [↓RU, RV, RH, ↓reduceIte, Nat.reduceEqDiff, reduceCtorEq, if_pos, List.append_nil]
  refine hK _ _ ?_
  clear hK K
  refine W.seq_region fun K hK => ?_
  simp (disch := omega) only [↓RU, RV, RH, ↓reduceIte, Nat.reduceEqDiff, reduceCtorEq, if_pos, w64, tyint]
  refine hK _ _ ?_
  clear hK K
  refine W.ret ?_
  refine BodyQ.ret rfl ?_
  rw [show difG g level line at_ = ((sidesG g level line at_).1 != (sidesG g level line at_).2) by rw [bne_int, difG]; simp]
  rfl

theorem walls_pc {g : List (List Int)} {nh nw : Nat} (hg : GW g nh nw) (rs : List Rect) : PC Try.prog 86 [eFloor g rs] (eWalls (wallsG g nh nw)) true := by
  have hl := hg.1
  obtain ⟨hg1, hg2, hg3, hg4⟩ := hg.2.2
  obtain ⟨row0, hrow0, hrl0, -⟩ := hg.at_ (i := 0) (j := 0) (by omega) (by omega)
  refine PC.of ⟨Try.func86, by kernel_rfl, rfl, by kernel_rfl⟩ tabOk mixed (by show 1 ≤ Try.f86.ntmps; decide) ?_
  refine W.seq_region fun K hK => ?_
  simp (disch := omega) only [↓RU, RV, RH, ↓reduceIte, Nat.reduceEqDiff, reduceCtorEq, if_pos, ↓RS, RG, Nat.reduceAdd, Nat.reduceMul, Nat.reduceLeDiff]
  refine hK _ _ ?_
  clear hK K
  refine W.seq_region fun K hK => ?_
  simp (disch := omega) only [↓RU, RV, RH, ↓reduceIte, Nat.reduceEqDiff, reduceCtorEq, if_pos, ↓RS, RG, Nat.reduceAdd, Nat.reduceMul, Nat.reduceLeDiff]
  refine hK _ _ ?_
  clear hK K
  refine W.seq ?_
  refine W.seq_region fun K hK => ?_
  simp (disch := omega) only [↓RU, RV, RH, ↓reduceIte, Nat.reduceEqDiff, reduceCtorEq, if_pos, ↓RS, RG, Nat.reduceAdd, Nat.reduceMul, Nat.reduceLeDiff, tyLbool, tybool]
  refine hK _ _ ?_
  clear hK K
  refine W.block ?_
  refine W.loopS [0, 12, 13, 14, 3] (fun n vs S => ∃ i v t : Nat, n = 2 - i ∧ (i ≤ 2) ∧ vs = [eFloor g rs, .sl [.bool false, .bool true] 2, .int .i64 2, .int .i64 i, slW (wsI g nh nw i) v] ∧ S = stW (wsI g nh nw i) v t) 2 ?_ ?_
  · refine ⟨0, [], [eFloor g rs, .sl [.bool false, .bool true] 2, .int .i64 2, .int .i64 (0 : Nat), .nils], ⟨[], 2⟩, ?_, ?_, 0, 0, 2, rfl, by omega, rfl, rfl⟩
    · simp [-List.mapM_map, Env.put, Env.of, argEnv, Srn_eq, rnObs_cons, rnObs_nil, rnOb_arr, rnOb_map, rn_loc, rn_ref, rn_mp, rn_int, rn_bool, rn_str, rn_ip, rn_sl, rn_nils, rn_nilp, rn_undef, rn_agg, rn_tup, rn_fn, rfq_loc, rfq_int, rfq_bool, rfq_str, rfq_sl, frOf, List.range_succ, List.mapM_append, List.mapM_cons]
    · simp [-List.mapM_map, Env.put, Env.of, argEnv, Srn_eq, rnObs_cons, rnObs_nil, rnOb_arr, rnOb_map, rn_loc, rn_ref, rn_mp, rn_int, rn_bool, rn_str, rn_ip, rn_sl, rn_nils, rn_nilp, rn_undef, rn_agg, rn_tup, rn_fn, rfq_loc, rfq_int, rfq_bool, rfq_str, rfq_sl, frOf, List.range_succ, List.mapM_append, List.mapM_cons]
  rintro n vs S - ⟨i, v, t, rfl, h_i, rfl, rfl⟩
  refine W.seq_region fun K hK => ?_
  simp (disch := omega) only [↓RU, RV, RH, ↓reduceIte, Nat.reduceEqDiff, reduceCtorEq, if_pos, w64, ↓RS, RG, Nat.reduceAdd, Nat.reduceMul, Nat.reduceLeDiff, tyint]
  refine hK _ _ ?_
  clear hK K
  refine W.seq ?_
  refine W.cond rfl (fun h => ?_) (fun h => ?_)
  · try simp only [RL] at h
    have hi2 : i < 2 := by omega
    obtain ⟨ls, hls⟩ : ∃ ls : Nat, (if i = 1 then nh else nw) = ls := ⟨_, rfl⟩
    obtain ⟨ps, hps⟩ : ∃ ps : Nat, (if i = 1 then nw else nh) = ps := ⟨_, rfl⟩
    have hlp : 1 ≤ ls ∧ ls ≤ 6 ∧ 1 ≤ ps ∧ ps ≤ 6 := by subst hls hps; split <;> omega
    have hwl := wsI_len (g := g) (nh := nh) (nw := nw) (i := i) hg2 hg4
    have hlong := wsI_long (g := g) (nh := nh) (nw := nw) (i := i) hg2 hg4
    have hlev : [PV.bool false, PV.bool true][i]? = some (.bool (decide (i = 1))) := by rcases (show i = 0 ∨ i = 1 by omega) with rfl | rfl <;> rfl
    refine W.skip ?_
    refine XThen.norm ?_
    refine W.seq ?_
    refine W.block ?_
    refine W.seq_region fun K hK => ?_
    simp (disch := omega) only [↓RU, RV, RH, ↓reduceIte, Nat.reduceEqDiff, reduceCtorEq, if_pos, ↓RS, RG, Nat.reduceAdd, Nat.reduceMul, Nat.reduceLeDiff, tyLbool, tybool, hlev]
    refine hK _ _ ?_
    clear hK K
    refine W.seq_region fun K hK => ?_
    simp (disch := omega) only [↓RU, RV, RH, ↓reduceIte, Nat.reduceEqDiff, reduceCtorEq, if_pos, List.append_nil, ↓RS, RG, Nat.reduceAdd, Nat.reduceMul, Nat.reduceLeDiff, hl, hrl0]
    refine CallR.pc (wide_pc hrow0 rs) rfl (.inl rfl) ?_
    simp (disch := omega) only [↓RU, RV, RH, ↓reduceIte, Nat.reduceEqDiff, reduceCtorEq, if_pos, List.append_nil, ↓RS, RG, Nat.reduceAdd, Nat.reduceMul, Nat.reduceLeDiff, hl, hrl0]
    refine CallR.pc (high_pc g rs) rfl (.inl rfl) ?_
    simp (disch := omega) only [↓RU, RV, RH, ↓reduceIte, Nat.reduceEqDiff, reduceCtorEq, if_pos, List.append_nil, ↓RS, RG, Nat.reduceAdd, Nat.reduceMul, Nat.reduceLeDiff, hl, hrl0]
    refine hK _ _ ?_
    clear hK K
    refine W.join [0, 12, 13, 14, 3, 5, 6, 7] (fun vs S => vs = [eFloor g rs, .sl [.bool false, .bool true] 2, .int .i64 2, .int .i64 i, slW (wsI g nh nw i) v, .bool (decide (i = 1)), .int .i64 ls, .int .i64 ps] ∧ S = stW (wsI g nh nw i) v t) ?_ ?_
    ·
      refine W.seq_region fun K hK => ?_
      simp (disch := omega) only [↓RU, RV, RH, ↓reduceIte, Nat.reduceEqDiff, reduceCtorEq, if_pos, ↓RS, RG, Nat.reduceAdd, Nat.reduceMul, Nat.reduceLeDiff]
      refine hK _ _ ?_
      clear hK K
      refine W.cond rfl (fun h1 => ?_) (fun h1 => ?_)
      · try simp only [RL] at h1
        refine W.region_k fun K hK => ?_
        simp (disch := omega) only [↓RU, RV, RH, ↓reduceIte, Nat.reduceEqDiff, reduceCtorEq, if_pos, ↓RS, RG, Nat.reduceAdd, Nat.reduceMul, Nat.reduceLeDiff]
        refine hK _ _ ?_
        clear hK K
        refine XThen.norm ?_
        refine ⟨_, ?_, take_all⟩
        subst hls hps
        simp [Env.put, Env.of, h1]
      · try simp only [RL] at h1
        refine W.skip ?_
        refine XThen.norm ?_
        refine ⟨_, ?_, take_all⟩
        subst hls hps
        simp [Env.put, Env.of, h1]
    rintro vs S - ⟨rfl, rfl⟩
    refine W.seq_region fun K hK => ?_
    simp (disch := omega) only [↓RU, RV, RH, ↓reduceIte, Nat.reduceEqDiff, reduceCtorEq, if_pos, ↓RS, RG, Nat.reduceAdd, Nat.reduceMul, Nat.reduceLeDiff]
    refine hK _ _ ?_
    clear hK K
    refine W.block ?_
    refine W.loopS [0, 12, 13, 14, 3, 5, 6, 7, 8] (fun n vs S => ∃ line v t : Nat, n = ls - line ∧ (1 ≤ line) ∧ (line ≤ ls) ∧ vs = [eFloor g rs, .sl [.bool false, .bool true] 2, .int .i64 2, .int .i64 i, slW (wlLevel g (decide (i = 1)) ps (wsI g nh nw i) line) v, .bool (decide (i = 1)), .int .i64 ls, .int .i64 ps, .int .i64 line] ∧ S = stW (wlLevel g (decide (i = 1)) ps (wsI g nh nw i) line) v t) (ls - 1) ?_ ?_
    · refine ⟨_, [], [eFloor g rs, .sl [.bool false, .bool true] 2, .int .i64 2, .int .i64 i, slW (wsI g nh nw i) v, .bool (decide (i = 1)), .int .i64 ls, .int .i64 ps, .int .i64 (1 : Nat)], stW (wsI g nh nw i) v (t + 1), ?_, rn_stW, 1, v, t + 1, rfl, by omega, by omega, by rw [wlLevel_one], by rw [wlLevel_one]⟩
      simp [-List.mapM_map, Env.put, Env.of, argEnv, Srn_eq, rnObs_cons, rnObs_nil, rnOb_arr, rnOb_map, rn_loc, rn_ref, rn_mp, rn_int, rn_bool, rn_str, rn_ip, rn_sl, rn_nils, rn_nilp, rn_undef, rn_agg, rn_tup, rn_fn, rfq_loc, rfq_int, rfq_bool, rfq_str, rfq_sl, frOf, List.range_succ, List.mapM_append, List.mapM_cons, rn_slW]
    rintro n vs S - ⟨line, v, t, rfl, h1l, h_l, rfl, rfl⟩
    refine W.seq ?_
    refine W.seq_region fun K hK => ?_
    simp (disch := omega) only [↓RU, RV, RH, ↓reduceIte, Nat.reduceEqDiff, reduceCtorEq, if_pos, w64, ↓RS, RG, Nat.reduceAdd, Nat.reduceMul, Nat.reduceLeDiff, tyint]
    refine hK _ _ ?_
    clear hK K
    refine W.cond rfl (fun h2 => ?_) (fun h2 => ?_)
    · try simp only [RL] at h2
      have hwl2 := wlLevel_len g (decide (i = 1)) hlp.2.2.2 (wsI g nh nw i) line
      have hlong2 := wlLevel_long g (decide (i = 1)) hlp.2.2.2 (M := 100) (by omega) hlong line
      generalize hWs : (wlLevel g (decide (i = 1)) ps (wsI g nh nw i) line) = Ws at hwl2 hlong2
      refine W.skip ?_
      refine XThen.norm ?_
      refine W.seq ?_
      refine W.block ?_
      refine W.seq_region fun K hK => ?_
      simp (disch := omega) only [↓RU, RV, RH, ↓reduceIte, Nat.reduceEqDiff, reduceCtorEq, if_pos, ↓RS, RG, Nat.reduceAdd, Nat.reduceMul, Nat.reduceLeDiff]
      refine hK _ _ ?_
      clear hK K
      refine W.seq_region fun K hK => ?_
      simp (disch := omega) only [↓RU, RV, RH, ↓reduceIte, Nat.reduceEqDiff, reduceCtorEq, if_pos, ↓RS, RG, Nat.reduceAdd, Nat.reduceMul, Nat.reduceLeDiff]
      refine hK _ _ ?_
      clear hK K
      refine W.block ?_
      refine W.loopS [0, 12, 13, 14, 3, 5, 6, 7, 8, 9, 30, 31] (fun n vs S => ∃ at_ v t : Nat, n = ps - at_ ∧ (at_ ≤ ps) ∧ vs = [eFloor g rs, .sl [.bool false, .bool true] 2, .int .i64 2, .int .i64 i, slW (wlLine g (decide (i = 1)) line Ws at_).1 v, .bool (decide (i = 1)), .int .i64 ls, .int .i64 ps, .int .i64 line, .bool (wlLine g (decide (i = 1)) line Ws at_).2, .int .i64 ps, .int .i64 at_] ∧ S = stW (wlLine g (decide (i = 1)) line Ws at_).1 v t) ps ?_ ?_
      · refine ⟨_, [], [eFloor g rs, .sl [.bool false, .bool true] 2, .int .i64 2, .int .i64 i, slW Ws v, .bool (decide (i = 1)), .int .i64 ls, .int .i64 ps, .int .i64 line, .bool false, .int .i64 ps, .int .i64 (0 : Nat)], stW Ws v (t + 1), ?_, rn_stW, 0, v, t + 1, rfl, by omega, rfl, rfl⟩
        simp [-List.mapM_map, Env.put, Env.of, argEnv, Srn_eq, rnObs_cons, rnObs_nil, rnOb_arr, rnOb_map, rn_loc, rn_ref, rn_mp, rn_int, rn_bool, rn_str, rn_ip, rn_sl, rn_nils, rn_nilp, rn_undef, rn_agg, rn_tup, rn_fn, rfq_loc, rfq_int, rfq_bool, rfq_str, rfq_sl, frOf, List.range_succ, List.mapM_append, List.mapM_cons, rn_slW]
      rintro n vs S - ⟨at_, v, t, rfl, h_a, rfl, rfl⟩
      refine W.seq_region fun K hK => ?_
      simp (disch := omega) only [↓RU, RV, RH, ↓reduceIte, Nat.reduceEqDiff, reduceCtorEq, if_pos, w64, ↓RS, RG, Nat.reduceAdd, Nat.reduceMul, Nat.reduceLeDiff, tyint]
      refine hK _ _ ?_
      clear hK K
      refine W.seq ?_
      refine W.cond rfl (fun h3 => ?_) (fun h3 => ?_)
      · try simp only [RL] at h3
        have hop := (wlLine_open g (decide (i = 1)) line Ws at_)
        have hlong3 := wlLine_long g (decide (i = 1)) line (M := 100 + 6 * line) (by omega) hlong2 at_
        have hin : InL nh nw (decide (i = 1)) line at_ := by refine ⟨h1l, ?_⟩; rcases (show i = 0 ∨ i = 1 by omega) with rfl | rfl <;> simp at hls hps ⊢ <;> omega
        generalize hs : wlLine g (decide (i = 1)) line Ws at_ = s at hop hlong3
        obtain ⟨ws, op⟩ := s
        simp only at hop hlong3
        refine W.skip ?_
        refine XThen.norm ?_
        refine W.seq ?_
        refine W.block ?_
        refine W.seq_region fun K hK => ?_
        simp (disch := omega) only [↓RU, RV, RH, ↓reduceIte, Nat.reduceEqDiff, reduceCtorEq, if_pos, ↓RS, RG, Nat.reduceAdd, Nat.reduceMul, Nat.reduceLeDiff]
        refine hK _ _ ?_
        clear hK K
        refine W.seq_region fun K hK => ?_
        simp (disch := omega) only [↓RU, RV, RH, ↓reduceIte, Nat.reduceEqDiff, reduceCtorEq, if_pos, List.append_nil, ↓RS, RG, Nat.reduceAdd, Nat.reduceMul, Nat.reduceLeDiff]
        refine CallR.pc (differ_pc hg rs hin) rfl (.inl rfl) ?_
        simp (disch := omega) only [↓RU, RV, RH, ↓reduceIte, Nat.reduceEqDiff, reduceCtorEq, if_pos, List.append_nil, ↓RS, RG, Nat.reduceAdd, Nat.reduceMul, Nat.reduceLeDiff]
        refine hK _ _ ?_
        clear hK K
        refine W.seq ?_
        refine W.block ?_
        refine W.seq_region fun K hK => ?_
        obtain hd | ⟨hd, rfl, rfl⟩ | ⟨hd, rfl, hw⟩ | ⟨hd, rfl, hw⟩ := wl_cases (d := difG g (decide (i = 1)) line at_) hop.1
        · skip
          simp (disch := omega) only [↓RU, RV, RH, ↓reduceIte, Nat.reduceEqDiff, reduceCtorEq, if_pos, ↓RS, RG, Nat.reduceAdd, Nat.reduceMul, Nat.reduceLeDiff, hd]
          refine hK _ _ ?_
          clear hK K
          refine W.cond rfl (fun h4 => ?_) (fun h4 => ?_)
          · try simp only [RL] at h4
            exact absurd h4 (by simp)
          · try simp only [RL] at h4
            refine W.seq_region fun K hK => ?_
            simp (disch := omega) only [↓RU, RV, RH, ↓reduceIte, Nat.reduceEqDiff, reduceCtorEq, if_pos, ↓RS, RG, Nat.reduceAdd, Nat.reduceMul, Nat.reduceLeDiff]
            refine hK _ _ ?_
            clear hK K
            refine W.cond rfl (fun h5 => ?_) (fun h5 => ?_)
            · try simp only [RL] at h5
              exact absurd h5 (by simp)
            · try simp only [RL] at h5
              refine W.skip ?_
              refine XBlock.norm ?_
              refine XThen.norm ?_
              refine W.region_k fun K hK => ?_
              simp (disch := omega) only [↓RU, RV, RH, ↓reduceIte, Nat.reduceEqDiff, reduceCtorEq, if_pos, ↓RS, RG, Nat.reduceAdd, Nat.reduceMul, Nat.reduceLeDiff]
              refine hK _ _ ?_
              clear hK K
              refine XBlock.norm ?_
              refine XThen.norm ?_
              refine W.region_k fun K hK => ?_
              simp (disch := omega) only [↓RU, RV, RH, ↓reduceIte, Nat.reduceEqDiff, reduceCtorEq, if_pos, w64, ↓RS, RG, Nat.reduceAdd, Nat.reduceMul, Nat.reduceLeDiff, tyint]
              refine hK _ _ ?_
              clear hK K
              refine XThen.norm ?_
              have hnx : wlLine g (decide (i = 1)) line Ws (at_ + 1) = (ws, false) := by rw [wlLine_succ, hs, hd]; simp [wlStep]
              refine ⟨ps - (at_ + 1), by omega, (stW ws v t).obs.length, [], [eFloor g rs, .sl [.bool false, .bool true] 2, .int .i64 2, .int .i64 i, slW (wlLine g (decide (i = 1)) line Ws (at_ + 1)).1 v, .bool (decide (i = 1)), .int .i64 ls, .int .i64 ps, .int .i64 line, .bool (wlLine g (decide (i = 1)) line Ws (at_ + 1)).2, .int .i64 ps, .int .i64 ((at_ + 1 : Nat) : Int)], stW (wlLine g (decide (i = 1)) line Ws (at_ + 1)).1 v (t + 1), ?_, ?_, at_ + 1, v, (t + 1), rfl, by omega, rfl, rfl⟩
              · rw [hnx]; simp [-List.mapM_map, Env.put, Env.of, argEnv, Srn_eq, rnObs_cons, rnObs_nil, rnOb_arr, rnOb_map, rn_loc, rn_ref, rn_mp, rn_int, rn_bool, rn_str, rn_ip, rn_sl, rn_nils, rn_nilp, rn_undef, rn_agg, rn_tup, rn_fn, rfq_loc, rfq_int, rfq_bool, rfq_str, rfq_sl, frOf, List.range_succ, List.mapM_append, List.mapM_cons, rn_slW]
              · rw [hnx]; exact rn_stW
        · skip
          rw [slW_nil, stW_nil]
          simp (disch := omega) only [↓RU, RV, RH, ↓reduceIte, Nat.reduceEqDiff, reduceCtorEq, if_pos, ↓RS, RG, Nat.reduceAdd, Nat.reduceMul, Nat.reduceLeDiff, hd]
          refine hK _ _ ?_
          clear hK K
          refine W.cond rfl (fun h4 => ?_) (fun h4 => ?_)
          · try simp only [RL] at h4
            exact absurd h4 (by simp)
          · try simp only [RL] at h4
            refine W.seq_region fun K hK => ?_
            simp (disch := omega) only [↓RU, RV, RH, ↓reduceIte, Nat.reduceEqDiff, reduceCtorEq, if_pos, ↓RS, RG, Nat.reduceAdd, Nat.reduceMul, Nat.reduceLeDiff]
            refine hK _ _ ?_
            clear hK K
            refine W.cond rfl (fun h5 => ?_) (fun h5 => ?_)
            · try simp only [RL] at h5
              refine W.region_k fun K hK => ?_
              simp (disch := omega) only [↓RU, RV, RH, ↓reduceIte, Nat.reduceEqDiff, reduceCtorEq, if_pos, ↓RS, RG, Nat.reduceAdd, Nat.reduceMul, Nat.reduceLeDiff, tyLimpl_wall, tybool, tyimpl_wall, tyint, tystruct_level_bool_line_int_from_int_long_int_, wcs_len, wcs_tk]
              refine hK _ _ ?_
              clear hK K
              refine XBlock.norm ?_
              refine XThen.norm ?_
              refine W.region_k fun K hK => ?_
              simp (disch := omega) only [↓RU, RV, RH, ↓reduceIte, Nat.reduceEqDiff, reduceCtorEq, if_pos, ↓RS, RG, Nat.reduceAdd, Nat.reduceMul, Nat.reduceLeDiff]
              refine hK _ _ ?_
              clear hK K
              refine XBlock.norm ?_
              refine XThen.norm ?_
              refine W.region_k fun K hK => ?_
              simp (disch := omega) only [↓RU, RV, RH, ↓reduceIte, Nat.reduceEqDiff, reduceCtorEq, if_pos, w64, ↓RS, RG, Nat.reduceAdd, Nat.reduceMul, Nat.reduceLeDiff, tyint]
              refine hK _ _ ?_
              clear hK K
              refine XThen.norm ?_
              have hnx : wlLine g (decide (i = 1)) line Ws (at_ + 1) = ([⟨decide (i = 1), line, at_, 1⟩], true) := by rw [wlLine_succ, hs, hd]; simp [wlStep]
              refine ⟨ps - (at_ + 1), by omega, 0, [1], [eFloor g rs, .sl [.bool false, .bool true] 2, .int .i64 2, .int .i64 i, slW (wlLine g (decide (i = 1)) line Ws (at_ + 1)).1 (t + 2), .bool (decide (i = 1)), .int .i64 ls, .int .i64 ps, .int .i64 line, .bool (wlLine g (decide (i = 1)) line Ws (at_ + 1)).2, .int .i64 ps, .int .i64 ((at_ + 1 : Nat) : Int)], stW (wlLine g (decide (i = 1)) line Ws (at_ + 1)).1 (t + 2) (t + 3), ?_, ?_, at_ + 1, (t + 2), (t + 3), rfl, by omega, rfl, rfl⟩
              · rw [hnx]; simp [-List.mapM_map, Env.put, Env.of, argEnv, Srn_eq, rnObs_cons, rnObs_nil, rnOb_arr, rnOb_map, rn_loc, rn_ref, rn_mp, rn_int, rn_bool, rn_str, rn_ip, rn_sl, rn_nils, rn_nilp, rn_undef, rn_agg, rn_tup, rn_fn, rfq_loc, rfq_int, rfq_bool, rfq_str, rfq_sl, frOf, List.range_succ, List.mapM_append, List.mapM_cons, slW_ne]
              · rw [hnx]; simp [-List.mapM_map, Env.put, Env.of, argEnv, Srn_eq, rnObs_cons, rnObs_nil, rnOb_arr, rnOb_map, rn_loc, rn_ref, rn_mp, rn_int, rn_bool, rn_str, rn_ip, rn_sl, rn_nils, rn_nilp, rn_undef, rn_agg, rn_tup, rn_fn, rfq_loc, rfq_int, rfq_bool, rfq_str, rfq_sl, frOf, List.range_succ, List.mapM_append, List.mapM_cons, stW_ne, wcs, Wall.cells]
            · try simp only [RL] at h5
              exact absurd h5 (by simp)
        · skip
          rw [slW_ne hw, stW_ne hw]
          simp (disch := omega) only [↓RU, RV, RH, ↓reduceIte, Nat.reduceEqDiff, reduceCtorEq, if_pos, ↓RS, RG, Nat.reduceAdd, Nat.reduceMul, Nat.reduceLeDiff, hd]
          refine hK _ _ ?_
          clear hK K
          refine W.cond rfl (fun h4 => ?_) (fun h4 => ?_)
          · try simp only [RL] at h4
            exact absurd h4 (by simp)
          · try simp only [RL] at h4
            refine W.seq_region fun K hK => ?_
            simp (disch := omega) only [↓RU, RV, RH, ↓reduceIte, Nat.reduceEqDiff, reduceCtorEq, if_pos, ↓RS, RG, Nat.reduceAdd, Nat.reduceMul, Nat.reduceLeDiff]
            refine hK _ _ ?_
            clear hK K
            refine W.cond rfl (fun h5 => ?_) (fun h5 => ?_)
            · try simp only [RL] at h5
              refine W.region_k fun K hK => ?_
              simp (disch := omega) only [↓RU, RV, RH, ↓reduceIte, Nat.reduceEqDiff, reduceCtorEq, if_pos, ↓RS, RG, Nat.reduceAdd, Nat.reduceMul, Nat.reduceLeDiff, tyLimpl_wall, tybool, tyimpl_wall, tyint, tystruct_level_bool_line_int_from_int_long_int_, wcs_len, wcs_tk]
              refine hK _ _ ?_
              clear hK K
              refine XBlock.norm ?_
              refine XThen.norm ?_
              refine W.region_k fun K hK => ?_
              simp (disch := omega) only [↓RU, RV, RH, ↓reduceIte, Nat.reduceEqDiff, reduceCtorEq, if_pos, ↓RS, RG, Nat.reduceAdd, Nat.reduceMul, Nat.reduceLeDiff]
              refine hK _ _ ?_
              clear hK K
              refine XBlock.norm ?_
              refine XThen.norm ?_
              refine W.region_k fun K hK => ?_
              simp (disch := omega) only [↓RU, RV, RH, ↓reduceIte, Nat.reduceEqDiff, reduceCtorEq, if_pos, w64, ↓RS, RG, Nat.reduceAdd, Nat.reduceMul, Nat.reduceLeDiff, tyint]
              refine hK _ _ ?_
              clear hK K
              refine XThen.norm ?_
              have hnx : wlLine g (decide (i = 1)) line Ws (at_ + 1) = (ws ++ [⟨decide (i = 1), line, at_, 1⟩], true) := by rw [wlLine_succ, hs, hd]; simp [wlStep]
              refine ⟨ps - (at_ + 1), by omega, 1, [], [eFloor g rs, .sl [.bool false, .bool true] 2, .int .i64 2, .int .i64 i, slW (wlLine g (decide (i = 1)) line Ws (at_ + 1)).1 (t + 1), .bool (decide (i = 1)), .int .i64 ls, .int .i64 ps, .int .i64 line, .bool (wlLine g (decide (i = 1)) line Ws (at_ + 1)).2, .int .i64 ps, .int .i64 ((at_ + 1 : Nat) : Int)], stW (wlLine g (decide (i = 1)) line Ws (at_ + 1)).1 (t + 1) (t + 3), ?_, ?_, at_ + 1, (t + 1), (t + 3), rfl, by omega, rfl, rfl⟩
              · rw [hnx]; simp [-List.mapM_map, Env.put, Env.of, argEnv, Srn_eq, rnObs_cons, rnObs_nil, rnOb_arr, rnOb_map, rn_loc, rn_ref, rn_mp, rn_int, rn_bool, rn_str, rn_ip, rn_sl, rn_nils, rn_nilp, rn_undef, rn_agg, rn_tup, rn_fn, rfq_loc, rfq_int, rfq_bool, rfq_str, rfq_sl, frOf, List.range_succ, List.mapM_append, List.mapM_cons, slW_ne]
              · rw [hnx]; simp [-List.mapM_map, Env.put, Env.of, argEnv, Srn_eq, rnObs_cons, rnObs_nil, rnOb_arr, rnOb_map, rn_loc, rn_ref, rn_mp, rn_int, rn_bool, rn_str, rn_ip, rn_sl, rn_nils, rn_nilp, rn_undef, rn_agg, rn_tup, rn_fn, rfq_loc, rfq_int, rfq_bool, rfq_str, rfq_sl, frOf, List.range_succ, List.mapM_append, List.mapM_cons, stW_ne, rn_wcs, wcs_snoc, Wall.cells]
            · try simp only [RL] at h5
              exact absurd h5 (by simp)
        · skip
          obtain ⟨ws, w, rfl⟩ := last_of hw
          rw [slW_ne hw, stW_ne hw]
          have hwlg := hlong3 w (by simp)
          have hwl3 : ws.length + 1 ≤ 200 := by have := hop.2.1; simp at this; omega
          simp (disch := omega) only [↓RU, RV, RH, ↓reduceIte, Nat.reduceEqDiff, reduceCtorEq, if_pos, ↓RS, RG, Nat.reduceAdd, Nat.reduceMul, Nat.reduceLeDiff, hd]
          refine hK _ _ ?_
          clear hK K
          refine W.cond rfl (fun h4 => ?_) (fun h4 => ?_)
          · try simp only [RL] at h4
            refine W.region_k fun K hK => ?_
            simp (disch := omega) only [↓RU, RV, RH, ↓reduceIte, Nat.reduceEqDiff, reduceCtorEq, if_pos, w64, ↓RS, RG, Nat.reduceAdd, Nat.reduceMul, Nat.reduceLeDiff, tyLimpl_wall, tybool, tyimpl_wall, tyint, tystruct_level_bool_line_int_from_int_long_int_, List.length_append, wcs_len, wcs_long, wcs_set, toNat_last]
            refine hK _ _ ?_
            clear hK K
            refine XBlock.norm ?_
            refine XThen.norm ?_
            refine W.region_k fun K hK => ?_
            simp (disch := omega) only [↓RU, RV, RH, ↓reduceIte, Nat.reduceEqDiff, reduceCtorEq, if_pos, ↓RS, RG, Nat.reduceAdd, Nat.reduceMul, Nat.reduceLeDiff]
            refine hK _ _ ?_
            clear hK K
            refine XBlock.norm ?_
            refine XThen.norm ?_
            refine W.region_k fun K hK => ?_
            simp (disch := omega) only [↓RU, RV, RH, ↓reduceIte, Nat.reduceEqDiff, reduceCtorEq, if_pos, w64, ↓RS, RG, Nat.reduceAdd, Nat.reduceMul, Nat.reduceLeDiff, tyint]
            refine hK _ _ ?_
            clear hK K
            refine XThen.norm ?_
            have hnx : wlLine g (decide (i = 1)) line Ws (at_ + 1) = (ws ++ [{ w with long := w.long + 1 }], true) := by rw [wlLine_succ, hs, hd]; simp [wlStep]
            refine ⟨ps - (at_ + 1), by omega, 1, [], [eFloor g rs, .sl [.bool false, .bool true] 2, .int .i64 2, .int .i64 i, slW (wlLine g (decide (i = 1)) line Ws (at_ + 1)).1 v, .bool (decide (i = 1)), .int .i64 ls, .int .i64 ps, .int .i64 line, .bool (wlLine g (decide (i = 1)) line Ws (at_ + 1)).2, .int .i64 ps, .int .i64 ((at_ + 1 : Nat) : Int)], stW (wlLine g (decide (i = 1)) line Ws (at_ + 1)).1 v (t + 1), ?_, ?_, at_ + 1, v, (t + 1), rfl, by omega, rfl, rfl⟩
            · rw [hnx]; simp [-List.mapM_map, Env.put, Env.of, argEnv, Srn_eq, rnObs_cons, rnObs_nil, rnOb_arr, rnOb_map, rn_loc, rn_ref, rn_mp, rn_int, rn_bool, rn_str, rn_ip, rn_sl, rn_nils, rn_nilp, rn_undef, rn_agg, rn_tup, rn_fn, rfq_loc, rfq_int, rfq_bool, rfq_str, rfq_sl, frOf, List.range_succ, List.mapM_append, List.mapM_cons, slW_ne]
            · rw [hnx]; simp [-List.mapM_map, Env.put, Env.of, argEnv, Srn_eq, rnObs_cons, rnObs_nil, rnOb_arr, rnOb_map, rn_loc, rn_ref, rn_mp, rn_int, rn_bool, rn_str, rn_ip, rn_sl, rn_nils, rn_nilp, rn_undef, rn_agg, rn_tup, rn_fn, rfq_loc, rfq_int, rfq_bool, rfq_str, rfq_sl, frOf, List.range_succ, List.mapM_append, List.mapM_cons, stW_ne, rn_wcs]
          · try simp only [RL] at h4
            exact absurd h4 (by simp)
      · try simp only [RL] at h3
        obtain rfl : ps = at_ := by omega
        refine W.exit ?_
        refine XThen.exit ?_
        refine XThen.exit ?_
        refine XBlock.hit ?_
        refine XBlock.norm ?_
        refine XThen.norm ?_
        refine W.region_k fun K hK => ?_
        simp (disch := omega) only [↓RU, RV, RH, ↓reduceIte, Nat.reduceEqDiff, reduceCtorEq, if_pos, w64, ↓RS, RG, Nat.reduceAdd, Nat.reduceMul, Nat.reduceLeDiff, tyint]
        refine hK _ _ ?_
        clear hK K
        refine XThen.norm ?_
        refine ⟨ls - (line + 1), by omega, (stW (wlLine g (decide (i = 1)) line Ws ps).1 v t).obs.length, [], [eFloor g rs, .sl [.bool false, .bool true] 2, .int .i64 2, .int .i64 i, slW (wlLevel g (decide (i = 1)) ps (wsI g nh nw i) (line + 1)) v, .bool (decide (i = 1)), .int .i64 ls, .int .i64 ps, .int .i64 ((line + 1 : Nat) : Int)], stW (wlLevel g (decide (i = 1)) ps (wsI g nh nw i) (line + 1)) v (t + 1), ?_, ?_, line + 1, v, t + 1, rfl, by omega, by omega, rfl, rfl⟩
        rotate_left
        · rw [wlLevel_succ h1l, hWs]; exact rn_stW
        · rw [wlLevel_succ h1l, hWs]; simp [-List.mapM_map, Env.put, Env.of, argEnv, Srn_eq, rnObs_cons, rnObs_nil, rnOb_arr, rnOb_map, rn_loc, rn_ref, rn_mp, rn_int, rn_bool, rn_str, rn_ip, rn_sl, rn_nils, rn_nilp, rn_undef, rn_agg, rn_tup, rn_fn, rfq_loc, rfq_int, rfq_bool, rfq_str, rfq_sl, frOf, List.range_succ, List.mapM_append, List.mapM_cons, rn_slW]
    · try simp only [RL] at h2
      obtain rfl : ls = line := by omega
      refine W.exit ?_
      refine XThen.exit ?_
      refine XThen.exit ?_
      refine XBlock.hit ?_
      refine XBlock.norm ?_
      refine XThen.norm ?_
      refine W.region_k fun K hK => ?_
      simp (disch := omega) only [↓RU, RV, RH, ↓reduceIte, Nat.reduceEqDiff, reduceCtorEq, if_pos, w64, ↓RS, RG, Nat.reduceAdd, Nat.reduceMul, Nat.reduceLeDiff, tyint]
      refine hK _ _ ?_
      clear hK K
      refine XThen.norm ?_
      have hwn := wsI_succ (g := g) (nh := nh) (nw := nw) hi2
      rw [hps, hls] at hwn
      refine ⟨2 - (i + 1), by omega, (stW (wlLevel g (decide (i = 1)) ps (wsI g nh nw i) ls) v t).obs.length, [], [eFloor g rs, .sl [.bool false, .bool true] 2, .int .i64 2, .int .i64 ((i + 1 : Nat) : Int), slW (wsI g nh nw (i + 1)) v], stW (wsI g nh nw (i + 1)) v (t + 1), ?_, ?_, i + 1, v, t + 1, rfl, by omega, rfl, rfl⟩
      rotate_left
      · rw [hwn]; exact rn_stW
      · rw [hwn]; simp [-List.mapM_map, Env.put, Env.of, argEnv, Srn_eq, rnObs_cons, rnObs_nil, rnOb_arr, rnOb_map, rn_loc, rn_ref, rn_mp, rn_int, rn_bool, rn_str, rn_ip, rn_sl, rn_nils, rn_nilp, rn_undef, rn_agg, rn_tup, rn_fn, rfq_loc, rfq_int, rfq_bool, rfq_str, rfq_sl, frOf, List.range_succ, List.mapM_append, List.mapM_cons, rn_slW]
  · try simp only [RL] at h
    refine W.exit ?_
    refine XThen.exit ?_
    refine XThen.exit ?_
    refine XBlock.hit ?_
    refine XThen.norm ?_
    refine W.seq_region fun K hK => ?_
    simp (disch := omega) only [↓RU, RV, RH, ↓reduceIte, Nat.reduceEqDiff, reduceCtorEq, if_pos, ↓RS, RG, Nat.reduceAdd, Nat.reduceMul, Nat.reduceLeDiff]
    refine hK _ _ ?_
    clear hK K
    refine W.ret ?_
    refine BodyQ.ret rfl ?_
    obtain rfl : i = 2 := by omega
    rw [show wsI g nh nw 2 = wallsG g nh nw from rfl]
    exact reify_slW

end Fw
end Go.Proofs.Ytmhcknpjgikgmaa

/-! Compact and the sides of walls of the program, gone through. -/
namespace Go.Proofs.Ytmhcknpjgikgmaa
namespace Fw
open Go

theorem compact_ev {F R : List Ob} {ver t : Nat} {l : List Int} (hl : l.length < 2147483648) : Ev Try.prog 109 [.loc F.length ver 0 l.length] ⟨F ++ .arr ver 3 1 (l.map (.int .i64)) :: R, t⟩ fun v S => ∃ z : List Int, v = .loc F.length ver 0 (ddp l).length ∧ S = ⟨F ++ .arr ver 3 1 ((ddp l ++ z).map (.int .i64)) :: R, t⟩ := by
  refine Ev.of ⟨Try.func109, by kernel_rfl, rfl, by kernel_rfl⟩ tabOk mixed (by show 1 ≤ Try.f109.ntmps; decide) ?_
  refine W.seq_region fun K hK => ?_
  simp (disch := omega) only [↓RU, RV, RH, ↓reduceIte, Nat.reduceEqDiff, reduceCtorEq, if_pos, ↓RS, RG, Nat.reduceAdd, Nat.reduceMul, Nat.reduceLeDiff, gF, setF]
  refine hK _ _ ?_
  clear hK K
  refine W.seq ?_
  refine W.seq_region fun K hK => ?_
  simp (disch := omega) only [↓RU, RV, RH, ↓reduceIte, Nat.reduceEqDiff, reduceCtorEq, if_pos, w64, ↓RS, RG, Nat.reduceAdd, Nat.reduceMul, Nat.reduceLeDiff, tyLint, tyint, gF, setF]
  refine hK _ _ ?_
  clear hK K
  refine W.cond rfl (fun h => ?_) (fun h => ?_)
  · try simp only [RL] at h
    refine W.seq_region fun K hK => ?_
    simp (disch := omega) only [↓RU, RV, RH, ↓reduceIte, Nat.reduceEqDiff, reduceCtorEq, if_pos, ↓RS, RG, Nat.reduceAdd, Nat.reduceMul, Nat.reduceLeDiff, gF, setF]
    refine hK _ _ ?_
    clear hK K
    refine W.ret ?_
    refine XThen.ret ?_
    refine BodyQ.ret rfl ?_
    refine ⟨(F ++ Ob.arr ver 3 1 (l.map (.int .i64)) :: R).length, [], ?_, ?_⟩
    · rw [ddp_short (by omega)]; rfl
    · rw [List.append_nil, ddp_short (by omega)]; exact take_all
  · try simp only [RL] at h
    refine W.skip ?_
    refine XThen.norm ?_
    refine W.seq ?_
    refine W.seq_region fun K hK => ?_
    simp (disch := omega) only [↓RU, RV, RH, ↓reduceIte, Nat.reduceEqDiff, reduceCtorEq, if_pos, ↓RS, RG, Nat.reduceAdd, Nat.reduceMul, Nat.reduceLeDiff, gF, setF]
    refine hK _ _ ?_
    clear hK K
    refine W.block ?_
    refine W.loop [0, 3] (fun n vs S => ∃ k0 : Nat, n = l.length - k0 ∧ k0 ≤ l.length ∧ (1 ≤ k0) ∧ (ddp (l.take k0) = l.take k0) ∧ vs = [.loc F.length ver 0 l.length, .int .i64 k0] ∧ S = ⟨F ++ .arr ver 3 1 (l.map (.int .i64)) :: R, t⟩) (l.length - 1) ?_ ?_
    · refine ⟨_, 1, rfl, by omega, Nat.le_refl _, ddp_one (by omega), ?_, take_all⟩
      simp [Env.put, Env.of, argEnv]
    rintro n vs S - ⟨k0, rfl, h_k0, h1k, hd, rfl, rfl⟩
    refine W.seq ?_
    refine W.seq_region fun K hK => ?_
    simp (disch := omega) only [↓RU, RV, RH, ↓reduceIte, Nat.reduceEqDiff, reduceCtorEq, if_pos, w64, ↓RS, RG, Nat.reduceAdd, Nat.reduceMul, Nat.reduceLeDiff, tyLint, tyint, gF, setF]
    refine hK _ _ ?_
    clear hK K
    refine W.cond rfl (fun h1 => ?_) (fun h1 => ?_)
    · try simp only [RL] at h1
      obtain ⟨x, hx, -⟩ := get_of (show k0 < l.length by omega)
      obtain ⟨y, hy, -⟩ := get_of (show k0 - 1 < l.length by omega)
      refine W.skip ?_
      refine XThen.norm ?_
      refine W.seq ?_
      refine W.block ?_
      refine W.seq_draw (by kernel_rfl) fun K hK => ?_
      simp (disch := omega) only [↓RU, RV, RH, ↓reduceIte, Nat.reduceEqDiff, reduceCtorEq, if_pos, w64, ↓RS, RG, Nat.reduceAdd, Nat.reduceMul, Nat.reduceLeDiff, tyLint, tyint, gF, setF, hx, hy, toNat_pred]
      refine hK _ _ ?_
      clear hK K
      refine W.cond rfl (fun h2 => ?_) (fun h2 => ?_)
      · try simp only [RL] at h2
        refine W.seq_region fun K hK => ?_
        simp (disch := omega) only [↓RU, RV, RH, ↓reduceIte, Nat.reduceEqDiff, reduceCtorEq, if_pos, Option.map_none, ↓RS, RG, Nat.reduceAdd, Nat.reduceMul, Nat.reduceLeDiff, tyLint, tyint, gF, setF]
        refine hK _ _ ?_
        clear hK K
        refine W.seq ?_
        refine W.seq_region fun K hK => ?_
        simp (disch := omega) only [↓RU, RV, RH, ↓reduceIte, Nat.reduceEqDiff, reduceCtorEq, if_pos, ↓RS, RG, Nat.reduceAdd, Nat.reduceMul, Nat.reduceLeDiff, gF, setF]
        refine hK _ _ ?_
        clear hK K
        refine W.block ?_
        refine W.loop [0, 3, 4, 5] (fun n vs S => ∃ k p : Nat, ∃ c : List Int, n = l.length - p ∧ DC l c k p ∧ k0 + 1 ≤ p ∧ p ≤ l.length ∧ vs = [.loc F.length ver 0 l.length, .int .i64 k, .loc F.length ver k0 (l.length - k0), .int .i64 ((p - k0 : Nat) : Int)] ∧ S = ⟨F ++ .arr ver 3 1 (c.map (.int .i64)) :: R, t⟩) (l.length - (k0 + 1)) ?_ ?_
        · refine ⟨_, k0, k0 + 1, l, rfl, DC.first h1k hd hy hx h2, Nat.le_refl _, by omega, ?_, take_all⟩
          simp [Env.put, Env.of]
        rintro n vs S - ⟨k, p, c, rfl, hdc, hk0, h_p, rfl, rfl⟩
        refine W.seq ?_
        refine W.seq_region fun K hK => ?_
        simp (disch := omega) only [↓RU, RV, RH, ↓reduceIte, Nat.reduceEqDiff, reduceCtorEq, if_pos, w64, ↓RS, RG, Nat.reduceAdd, Nat.reduceMul, Nat.reduceLeDiff, tyLint, tyint, gF, setF]
        refine hK _ _ ?_
        clear hK K
        refine W.cond rfl (fun h3 => ?_) (fun h3 => ?_)
        · try simp only [RL] at h3
          have hkp := hdc.kp
          obtain ⟨x2, hx2, -⟩ := get_of (show p < l.length by omega)
          obtain ⟨y2, hy2, -⟩ := get_of (show p - 1 < l.length by omega)
          have hcx := hdc.get (j := p) (by omega)
          have hcy := hdc.get (j := p - 1) (by omega)
          rw [hx2] at hcx
          rw [hy2] at hcy
          have hcl := hdc.len
          have e1 : k0 + (p - k0) = p := by omega
          have e2 : k0 + (p - k0 - 1) = p - 1 := by omega
          refine W.skip ?_
          refine XThen.norm ?_
          refine W.seq ?_
          refine W.block ?_
          refine W.seq_draw (by kernel_rfl) fun K hK => ?_
          simp (disch := omega) only [↓RU, RV, RH, ↓reduceIte, Nat.reduceEqDiff, reduceCtorEq, if_pos, w64, ↓RS, RG, Nat.reduceAdd, Nat.reduceMul, Nat.reduceLeDiff, tyLint, tyint, gF, setF, hcx, hcy, toNat_pred, e1, e2]
          refine hK _ _ ?_
          clear hK K
          refine W.cond rfl (fun h4 => ?_) (fun h4 => ?_)
          · try simp only [RL] at h4
            refine W.seq_region fun K hK => ?_
            simp (disch := omega) only [↓RU, RV, RH, ↓reduceIte, Nat.reduceEqDiff, reduceCtorEq, if_pos, ↓RS, RG, Nat.reduceAdd, Nat.reduceMul, Nat.reduceLeDiff, tyLint, tyint, gF, setF, hcx, e1, hcl, set_spl, set_int]
            refine hK _ _ ?_
            clear hK K
            refine W.region_k fun K hK => ?_
            simp (disch := omega) only [↓RU, RV, RH, ↓reduceIte, Nat.reduceEqDiff, reduceCtorEq, if_pos, w64, ↓RS, RG, Nat.reduceAdd, Nat.reduceMul, Nat.reduceLeDiff, tyint, gF, setF]
            refine hK _ _ ?_
            clear hK K
            refine XBlock.norm ?_
            refine XThen.norm ?_
            refine W.region_k fun K hK => ?_
            simp (disch := omega) only [↓RU, RV, RH, ↓reduceIte, Nat.reduceEqDiff, reduceCtorEq, if_pos, w64, ↓RS, RG, Nat.reduceAdd, Nat.reduceMul, Nat.reduceLeDiff, tyint, gF, setF]
            refine hK _ _ ?_
            clear hK K
            refine XThen.norm ?_
            refine ⟨l.length - (p + 1), by omega, _, k + 1, p + 1, c.set k x2, rfl, hdc.new (by omega) hy2 hx2 h4, by omega, by omega, ?_, take_all⟩
            simp [Env.put, Env.of, show p + 1 - k0 = p - k0 + 1 by omega]
          · try simp only [RL] at h4
            refine W.skip ?_
            refine XBlock.norm ?_
            refine XThen.norm ?_
            refine W.region_k fun K hK => ?_
            simp (disch := omega) only [↓RU, RV, RH, ↓reduceIte, Nat.reduceEqDiff, reduceCtorEq, if_pos, w64, ↓RS, RG, Nat.reduceAdd, Nat.reduceMul, Nat.reduceLeDiff, tyint, gF, setF]
            refine hK _ _ ?_
            clear hK K
            refine XThen.norm ?_
            refine ⟨l.length - (p + 1), by omega, _, k, p + 1, c, rfl, hdc.same (by omega) hy2 hx2 h4, by omega, by omega, ?_, take_all⟩
            simp [Env.put, Env.of, show p + 1 - k0 = p - k0 + 1 by omega]
        · try simp only [RL] at h3
          have hkp := hdc.kp
          have hcl := hdc.len
          obtain rfl : p = l.length := by omega
          refine W.exit ?_
          refine XThen.exit ?_
          refine XThen.exit ?_
          refine XBlock.hit ?_
          refine XThen.norm ?_
          refine W.seq_region fun K hK => ?_
          simp (disch := omega) only [↓RU, RV, RH, ↓reduceIte, Nat.reduceEqDiff, reduceCtorEq, if_pos, Option.map_none, repz_length, repz_int, ↓RS, RG, Nat.reduceAdd, Nat.reduceMul, Nat.reduceLeDiff, tyLint, tyint, gF, setF, hcl, repz_int, set_app2, allc_int, List.length_replicate]
          refine hK _ _ ?_
          clear hK K
          refine W.seq_region fun K hK => ?_
          simp (disch := omega) only [↓RU, RV, RH, ↓reduceIte, Nat.reduceEqDiff, reduceCtorEq, if_pos, Option.map_none, ↓RS, RG, Nat.reduceAdd, Nat.reduceMul, Nat.reduceLeDiff, tyLint, tyint, gF, setF]
          refine hK _ _ ?_
          clear hK K
          refine W.ret ?_
          refine XBlock.ret ?_
          refine XThen.ret ?_
          refine XThen.ret ?_
          refine XBlock.ret ?_
          refine XThen.ret ?_
          refine BodyQ.ret rfl ?_
          have hdk := hdc.dk
          rw [List.take_length] at hdk
          have htk := hdc.hd
          rw [List.take_length] at htk
          have hdrop : c.drop (k + (l.length - k)) = [] := List.drop_of_length_le (by omega)
          rw [hdrop, List.append_nil, htk]
          refine ⟨(F ++ Ob.arr ver 3 1 ((ddp l ++ List.replicate (l.length - k) 0).map (.int .i64)) :: R).length, _, ?_, take_all⟩
          rw [hdk]; rfl
      · try simp only [RL] at h2
        refine W.skip ?_
        refine XBlock.norm ?_
        refine XThen.norm ?_
        refine W.region_k fun K hK => ?_
        simp (disch := omega) only [↓RU, RV, RH, ↓reduceIte, Nat.reduceEqDiff, reduceCtorEq, if_pos, w64, ↓RS, RG, Nat.reduceAdd, Nat.reduceMul, Nat.reduceLeDiff, tyint, gF, setF]
        refine hK _ _ ?_
        clear hK K
        refine XThen.norm ?_
        refine ⟨l.length - (k0 + 1), by omega, _, k0 + 1, rfl, by omega, by omega, by rw [ddp_new h1k hy hx h2, hd, ← tk hx], ?_, take_all⟩
        simp [Env.put, Env.of]
    · try simp only [RL] at h1
      refine W.exit ?_
      refine XThen.exit ?_
      refine XThen.exit ?_
      refine XBlock.hit ?_
      refine XThen.norm ?_
      refine W.seq_region fun K hK => ?_
      simp (disch := omega) only [↓RU, RV, RH, ↓reduceIte, Nat.reduceEqDiff, reduceCtorEq, if_pos, ↓RS, RG, Nat.reduceAdd, Nat.reduceMul, Nat.reduceLeDiff, gF, setF]
      refine hK _ _ ?_
      clear hK K
      refine W.ret ?_
      refine BodyQ.ret rfl ?_
      obtain rfl : k0 = l.length := by omega
      refine ⟨(F ++ Ob.arr ver 3 1 (l.map (.int .i64)) :: R).length, [], ?_, ?_⟩
      · rw [show ddp l = l by simpa using hd]; rfl
      · rw [List.append_nil, show ddp l = l by simpa using hd]; exact take_all

theorem along_pc {g : List (List Int)} {nh nw : Nat} (hg : GW g nh nw) (rs : List Rect) {level : Bool} {line fr long : Nat} (h1 : 1 ≤ long) (hin : ∀ j, fr ≤ j → j < fr + long → InL nh nw level line j) : PC Try.prog 87 [eFloor g rs, eWall ⟨level, line, fr, long⟩] (.tup [eInts (ddp (alongG g level line fr long).1), eInts (ddp (alongG g level line fr long).2)]) true := by
  have hgg := hg.2.2
  have hb : fr + long ≤ 6 := by have h := hin (fr + long - 1) (by omega) (by omega); unfold InL at h; cases level <;> simp at h <;> omega
  simp only [eWall, Wall.cells]
  refine PC.of ⟨Try.func87, by kernel_rfl, rfl, by kernel_rfl⟩ tabOk mixed (by show 2 ≤ Try.f87.ntmps; decide) ?_
  refine W.seq_region fun K hK => ?_
  simp (disch := omega) only [↓RU, RV, RH, ↓reduceIte, Nat.reduceEqDiff, reduceCtorEq, if_pos, ↓RS, RG, Nat.reduceAdd, Nat.reduceMul, Nat.reduceLeDiff, tybool, tyimpl_wall, tyint, tystruct_level_bool_line_int_from_int_long_int_]
  refine hK _ _ ?_
  clear hK K
  refine W.seq_region fun K hK => ?_
  simp (disch := omega) only [↓RU, RV, RH, ↓reduceIte, Nat.reduceEqDiff, reduceCtorEq, if_pos, ↓RS, RG, Nat.reduceAdd, Nat.reduceMul, Nat.reduceLeDiff]
  refine hK _ _ ?_
  clear hK K
  refine W.seq ?_
  refine W.seq_region fun K hK => ?_
  simp (disch := omega) only [↓RU, RV, RH, ↓reduceIte, Nat.reduceEqDiff, reduceCtorEq, if_pos, ↓RS, RG, Nat.reduceAdd, Nat.reduceMul, Nat.reduceLeDiff, tybool, tyimpl_wall, tyint, tystruct_level_bool_line_int_from_int_long_int_]
  refine hK _ _ ?_
  clear hK K
  refine W.block ?_
  refine W.loopS [0, 3, 6, 7, 8] (fun n vs S => ∃ j v0 v1 t : Nat, n = long - j ∧ j ≤ long ∧ vs = [eFloor g rs, .ref 0 0 0, slL (alongG g level line fr j).1 1 v0, slL (alongG g level line fr j).2 2 v1, .int .i64 (((fr + j : Nat) : Int))] ∧ S = ⟨(.arr 0 98 4 [.bool level, .int .i64 line, .int .i64 fr, .int .i64 long]) :: tlL (alongG g level line fr j).1 (alongG g level line fr j).2 v0 v1, t⟩) long ?_ ?_
  · refine ⟨1, [], [eFloor g rs, .ref 0 0 0, slL (alongG g level line fr 0).1 1 0, slL (alongG g level line fr 0).2 2 0, .int .i64 (((fr + 0 : Nat) : Int))], ⟨(.arr 0 98 4 [.bool level, .int .i64 line, .int .i64 fr, .int .i64 long]) :: tlL (alongG g level line fr 0).1 (alongG g level line fr 0).2 0 0, 2⟩, ?_, ?_, 0, 0, 0, 2, rfl, by omega, rfl, rfl⟩
    · simp [-List.mapM_map, Env.put, Env.of, argEnv, Srn_eq, rnObs_cons, rnObs_nil, rnOb_arr, rnOb_map, rn_loc, rn_ref, rn_mp, rn_int, rn_bool, rn_str, rn_ip, rn_sl, rn_nils, rn_nilp, rn_undef, rn_agg, rn_tup, rn_fn, rfq_loc, rfq_int, rfq_bool, rfq_str, rfq_sl, frOf, List.range_succ, List.mapM_append, List.mapM_cons, alongG, slL]
    · simp [-List.mapM_map, Env.put, Env.of, argEnv, Srn_eq, rnObs_cons, rnObs_nil, rnOb_arr, rnOb_map, rn_loc, rn_ref, rn_mp, rn_int, rn_bool, rn_str, rn_ip, rn_sl, rn_nils, rn_nilp, rn_undef, rn_agg, rn_tup, rn_fn, rfq_loc, rfq_int, rfq_bool, rfq_str, rfq_sl, frOf, List.range_succ, List.mapM_append, List.mapM_cons, alongG, tlL]
  rintro n vs S - ⟨j, v0, v1, t, rfl, h_j, rfl, rfl⟩
  refine W.seq ?_
  refine W.seq_region fun K hK => ?_
  simp (disch := omega) only [↓RU, RV, RH, ↓reduceIte, Nat.reduceEqDiff, reduceCtorEq, if_pos, w64, ↓RS, RG, Nat.reduceAdd, Nat.reduceMul, Nat.reduceLeDiff, tybool, tyimpl_wall, tyint, tystruct_level_bool_line_int_from_int_long_int_]
  refine hK _ _ ?_
  clear hK K
  refine W.cond rfl (fun h => ?_) (fun h => ?_)
  · try simp only [RL] at h
    have hjl : j < long := by omega
    have hij := hin (fr + j) (by omega) (by omega)
    have hal := alongG_len (g := g) (level := level) (line := line) (fr := fr) (n := j)
    refine W.skip ?_
    refine XThen.norm ?_
    refine W.seq ?_
    refine W.block ?_
    refine W.seq_region fun K hK => ?_
    simp (disch := omega) only [↓RU, RV, RH, ↓reduceIte, Nat.reduceEqDiff, reduceCtorEq, if_pos, List.append_nil, ↓RS, RG, Nat.reduceAdd, Nat.reduceMul, Nat.reduceLeDiff, tybool, tyimpl_wall, tyint, tystruct_level_bool_line_int_from_int_long_int_]
    refine CallR.pc (sides_pc hg rs hij) rfl (.inl rfl) ?_
    simp (disch := omega) only [↓RU, RV, RH, ↓reduceIte, Nat.reduceEqDiff, reduceCtorEq, if_pos, List.append_nil, ↓RS, RG, Nat.reduceAdd, Nat.reduceMul, Nat.reduceLeDiff, tybool, tyimpl_wall, tyint, tystruct_level_bool_line_int_from_int_long_int_]
    refine hK _ _ ?_
    clear hK K
    refine W.region_k fun K hK => ?_
    by_cases hj0 : j = 0
    · skip
      subst hj0
      rw [show (alongG g level line fr 0) = ([], []) from rfl]
      rw [show slL ([], []).1 1 v0 = .nils from rfl, show slL ([], []).2 2 v1 = .nils from rfl, show tlL ([], []).1 ([], []).2 v0 v1 = [] from rfl]
      simp (disch := omega) only [↓RU, RV, RH, ↓reduceIte, Nat.reduceEqDiff, reduceCtorEq, if_pos, ↓RS, RG, Nat.reduceAdd, Nat.reduceMul, Nat.reduceLeDiff, tyLint, tyint]
      refine hK _ _ ?_
      clear hK K
      refine XBlock.norm ?_
      refine XThen.norm ?_
      refine W.region_k fun K hK => ?_
      simp (disch := omega) only [↓RU, RV, RH, ↓reduceIte, Nat.reduceEqDiff, reduceCtorEq, if_pos, w64, ↓RS, RG, Nat.reduceAdd, Nat.reduceMul, Nat.reduceLeDiff, tyint]
      refine hK _ _ ?_
      clear hK K
      refine XThen.norm ?_
      refine ⟨long - ((0 + 1)), by omega, 1, [2, 4], [eFloor g rs, .ref 0 0 0, slL (alongG g level line fr (0 + 1)).1 1 (t + 4), slL (alongG g level line fr (0 + 1)).2 2 (t + 4), .int .i64 (((fr + (0 + 1) : Nat) : Int))], ⟨(.arr 0 98 4 [.bool level, .int .i64 line, .int .i64 fr, .int .i64 long]) :: tlL (alongG g level line fr (0 + 1)).1 (alongG g level line fr (0 + 1)).2 (t + 4) (t + 4), (t + 5)⟩, ?_, ?_, (0 + 1), (t + 4), (t + 4), (t + 5), rfl, by omega, rfl, rfl⟩
      · simp [-List.mapM_map, Env.put, Env.of, argEnv, Srn_eq, rnObs_cons, rnObs_nil, rnOb_arr, rnOb_map, rn_loc, rn_ref, rn_mp, rn_int, rn_bool, rn_str, rn_ip, rn_sl, rn_nils, rn_nilp, rn_undef, rn_agg, rn_tup, rn_fn, rfq_loc, rfq_int, rfq_bool, rfq_str, rfq_sl, frOf, List.range_succ, List.mapM_append, List.mapM_cons, show alongG g level line fr 0 = ([], []) from rfl, show List.idxOf 4 [2, 4] = 1 from rfl, Int.add_assoc, alongG_succ1, alongG_succ2, slL_ne, hal.1, hal.2]
      · simp [-List.mapM_map, Env.put, Env.of, argEnv, Srn_eq, rnObs_cons, rnObs_nil, rnOb_arr, rnOb_map, rn_loc, rn_ref, rn_mp, rn_int, rn_bool, rn_str, rn_ip, rn_sl, rn_nils, rn_nilp, rn_undef, rn_agg, rn_tup, rn_fn, rfq_loc, rfq_int, rfq_bool, rfq_str, rfq_sl, frOf, List.range_succ, List.mapM_append, List.mapM_cons, show alongG g level line fr 0 = ([], []) from rfl, show List.idxOf 4 [2, 4] = 1 from rfl, alongG_succ1, alongG_succ2, tlL_ne, rn_ints, tk_le, hal.1, hal.2]
    · skip
      have hne1 : (alongG g level line fr j).1 ≠ [] := by intro h; have := hal.1; rw [h] at this; simp at this; omega
      have hne2 : (alongG g level line fr j).2 ≠ [] := by intro h; have := hal.2; rw [h] at this; simp at this; omega
      rw [slL_ne hne1, slL_ne hne2, tlL_ne hne1]
      simp (disch := omega) only [↓RU, RV, RH, ↓reduceIte, Nat.reduceEqDiff, reduceCtorEq, if_pos, ↓RS, RG, Nat.reduceAdd, Nat.reduceMul, Nat.reduceLeDiff, tyLint, tyint, hal.1, hal.2]
      refine hK _ _ ?_
      clear hK K
      refine XBlock.norm ?_
      refine XThen.norm ?_
      refine W.region_k fun K hK => ?_
      simp (disch := omega) only [↓RU, RV, RH, ↓reduceIte, Nat.reduceEqDiff, reduceCtorEq, if_pos, w64, ↓RS, RG, Nat.reduceAdd, Nat.reduceMul, Nat.reduceLeDiff, tyint]
      refine hK _ _ ?_
      clear hK K
      refine XThen.norm ?_
      refine ⟨long - ((j + 1)), by omega, 3, [], [eFloor g rs, .ref 0 0 0, slL (alongG g level line fr (j + 1)).1 1 (t + 1), slL (alongG g level line fr (j + 1)).2 2 (t + 3), .int .i64 (((fr + (j + 1) : Nat) : Int))], ⟨(.arr 0 98 4 [.bool level, .int .i64 line, .int .i64 fr, .int .i64 long]) :: tlL (alongG g level line fr (j + 1)).1 (alongG g level line fr (j + 1)).2 (t + 1) (t + 3), (t + 5)⟩, ?_, ?_, (j + 1), (t + 1), (t + 3), (t + 5), rfl, by omega, rfl, rfl⟩
      · simp [-List.mapM_map, Env.put, Env.of, argEnv, Srn_eq, rnObs_cons, rnObs_nil, rnOb_arr, rnOb_map, rn_loc, rn_ref, rn_mp, rn_int, rn_bool, rn_str, rn_ip, rn_sl, rn_nils, rn_nilp, rn_undef, rn_agg, rn_tup, rn_fn, rfq_loc, rfq_int, rfq_bool, rfq_str, rfq_sl, frOf, List.range_succ, List.mapM_append, List.mapM_cons, Int.add_assoc, alongG_succ1, alongG_succ2, slL_ne, hal.1, hal.2]
      · simp [-List.mapM_map, Env.put, Env.of, argEnv, Srn_eq, rnObs_cons, rnObs_nil, rnOb_arr, rnOb_map, rn_loc, rn_ref, rn_mp, rn_int, rn_bool, rn_str, rn_ip, rn_sl, rn_nils, rn_nilp, rn_undef, rn_agg, rn_tup, rn_fn, rfq_loc, rfq_int, rfq_bool, rfq_str, rfq_sl, frOf, List.range_succ, List.mapM_append, List.mapM_cons, alongG_succ1, alongG_succ2, tlL_ne, rn_ints, tk_le, hal.1, hal.2]
  · try simp only [RL] at h
    obtain rfl : long = j := by omega
    refine W.exit ?_
    refine XThen.exit ?_
    refine XThen.exit ?_
    refine XBlock.hit ?_
    refine XThen.norm ?_
    refine W.seq_region fun K hK => ?_
    have hal := alongG_len (g := g) (level := level) (line := line) (fr := fr) (n := long)
    have hne1 : (alongG g level line fr long).1 ≠ [] := by intro h; have := hal.1; rw [h] at this; simp at this; omega
    have hne2 : (alongG g level line fr long).2 ≠ [] := by intro h; have := hal.2; rw [h] at this; simp at this; omega
    rw [slL_ne hne1, slL_ne hne2, tlL_ne hne1]
    simp (disch := omega) only [↓RU, RV, RH, ↓reduceIte, Nat.reduceEqDiff, reduceCtorEq, if_pos, List.append_nil, ↓RS, RG, Nat.reduceAdd, Nat.reduceMul, Nat.reduceLeDiff]
    refine CallR.ev (compact_ev (F := [(.arr 0 98 4 [.bool level, .int .i64 line, .int .i64 fr, .int .i64 long])]) (R := [.arr v1 3 1 ((alongG g level line fr long).2.map (.int .i64))]) (l := (alongG g level line fr long).1) (by omega)) ?_
    rintro _ _ ⟨z1, rfl, rfl⟩
    simp (disch := omega) only [↓RU, RV, RH, ↓reduceIte, Nat.reduceEqDiff, reduceCtorEq, if_pos, List.append_nil, ↓RS, RG, Nat.reduceAdd, Nat.reduceMul, Nat.reduceLeDiff]
    refine CallR.ev (compact_ev (F := [(.arr 0 98 4 [.bool level, .int .i64 line, .int .i64 fr, .int .i64 long]), .arr v0 3 1 ((ddp (alongG g level line fr long).1 ++ z1).map (.int .i64))]) (R := []) (l := (alongG g level line fr long).2) (by omega)) ?_
    rintro _ _ ⟨z2, rfl, rfl⟩
    simp (disch := omega) only [↓RU, RV, RH, ↓reduceIte, Nat.reduceEqDiff, reduceCtorEq, if_pos, List.append_nil, ↓RS, RG, Nat.reduceAdd, Nat.reduceMul, Nat.reduceLeDiff]
    refine hK _ _ ?_
    clear hK K
    refine W.ret ?_
    refine BodyQ.ret rfl ?_
    exact reify_tup2 (reify_pre (k := 7) rfl) (reify_pre (k := 7) rfl)

end Fw
end Go.Proofs.Ytmhcknpjgikgmaa

/-! Relations, gone through. -/
namespace Go.Proofs.Ytmhcknpjgikgmaa
namespace Fw
open Go

theorem emptyRel_pn {nr : Nat} (hn : nr ≤ 9) : PN Try.prog 85 [.int .i64 nr] (.loc 0 0 0 nr) (relObs 0 0 (emptyM nr)) false := by
  refine PN.of ⟨Try.func85, by kernel_rfl, rfl, by kernel_rfl⟩ tabOk mixed (by show 1 ≤ Try.f85.ntmps; decide) ?_
  refine W.seq_region fun K hK => ?_
  simp (disch := omega) only [↓RU, RV, RH, ↓reduceIte, Nat.reduceEqDiff, reduceCtorEq, if_pos, ↓RS, RG, Nat.reduceAdd, Nat.reduceMul, Nat.reduceLeDiff]
  refine hK _ _ ?_
  clear hK K
  refine W.seq_region fun K hK => ?_
  simp (disch := omega) only [↓RU, RV, RH, ↓reduceIte, Nat.reduceEqDiff, reduceCtorEq, if_pos, ↓RS, RG, Nat.reduceAdd, Nat.reduceMul, Nat.reduceLeDiff, tyLLbool, tyLbool, tybool, tyimpl_relation, repz_nils, ile_true]
  refine hK _ _ ?_
  clear hK K
  refine W.seq ?_
  refine W.seq_region fun K hK => ?_
  simp (disch := omega) only [↓RU, RV, RH, ↓reduceIte, Nat.reduceEqDiff, reduceCtorEq, if_pos, ↓RS, RG, Nat.reduceAdd, Nat.reduceMul, Nat.reduceLeDiff, tyLLbool, tyLbool, tybool, tyimpl_relation]
  refine hK _ _ ?_
  clear hK K
  refine W.block ?_
  refine W.loop [0, 3, 8, 9] (fun n vs S => ∃ i : Nat, n = nr - i ∧ i ≤ nr ∧ vs = [.int .i64 nr, .loc 0 0 0 nr, .int .i64 nr, .int .i64 i] ∧ S = ⟨.arr 0 89 1 (grX nr i) :: grY nr i, i + 1⟩) (nr) ?_ ?_
  · refine ⟨_, 0, rfl, Nat.zero_le _, ?_, take_all_of (by simp [grX, grY])⟩
    simp [Env.put, Env.of, argEnv]
  rintro n vs S - ⟨i, rfl, h_i, rfl, rfl⟩
  refine W.seq_region fun K hK => ?_
  simp (disch := omega) only [↓RU, RV, RH, ↓reduceIte, Nat.reduceEqDiff, reduceCtorEq, if_pos, w64, ↓RS, RG, Nat.reduceAdd, Nat.reduceMul, Nat.reduceLeDiff, tyint]
  refine hK _ _ ?_
  clear hK K
  refine W.seq ?_
  refine W.cond rfl (fun h => ?_) (fun h => ?_)
  · try simp only [RL] at h
    have hx := grX_len (show i ≤ nr by omega)
    refine W.skip ?_
    refine XThen.norm ?_
    refine W.seq ?_
    refine W.block ?_
    refine W.seq_region fun K hK => ?_
    simp (disch := omega) only [↓RU, RV, RH, ↓reduceIte, Nat.reduceEqDiff, reduceCtorEq, if_pos, ↓RS, RG, Nat.reduceAdd, Nat.reduceMul, Nat.reduceLeDiff]
    refine hK _ _ ?_
    clear hK K
    refine W.region_k fun K hK => ?_
    simp (disch := omega) only [↓RU, RV, RH, ↓reduceIte, Nat.reduceEqDiff, reduceCtorEq, if_pos, ↓RS, RG, Nat.reduceAdd, Nat.reduceMul, Nat.reduceLeDiff, tyLLbool, tyLbool, tybool, tyimpl_relation, repz_bool, ile_true, grY_len, hx, grX_succ]
    refine hK _ _ ?_
    clear hK K
    refine XBlock.norm ?_
    refine XThen.norm ?_
    refine W.region_k fun K hK => ?_
    simp (disch := omega) only [↓RU, RV, RH, ↓reduceIte, Nat.reduceEqDiff, reduceCtorEq, if_pos, w64, ↓RS, RG, Nat.reduceAdd, Nat.reduceMul, Nat.reduceLeDiff, tyint]
    refine hK _ _ ?_
    clear hK K
    refine XThen.norm ?_
    refine ⟨nr - (i + 1), by omega, _, i + 1, rfl, by omega, ?_, take_all_of (by simp [grY_succ])⟩
    simp [Env.put, Env.of]
  · try simp only [RL] at h
    refine W.exit ?_
    refine XThen.exit ?_
    refine XThen.exit ?_
    refine XBlock.hit ?_
    refine XThen.norm ?_
    refine W.seq_region fun K hK => ?_
    simp (disch := omega) only [↓RU, RV, RH, ↓reduceIte, Nat.reduceEqDiff, reduceCtorEq, if_pos, ↓RS, RG, Nat.reduceAdd, Nat.reduceMul, Nat.reduceLeDiff]
    refine hK _ _ ?_
    clear hK K
    refine W.ret ?_
    refine BodyQ.ret rfl ?_
    obtain rfl : nr = i := by omega
    exact grow_sh

theorem close_ev {F R : List Ob} {t tk nr : Nat} {M : List (List Bool)} (hM : Sq nr M) (hn : nr ≤ 9) : Ev Try.prog 88 [.loc F.length t 0 nr] ⟨F ++ (relObs F.length t (M) ++ R), tk⟩ fun v S => v = .tup [] ∧ S = ⟨F ++ (relObs F.length t (closeM M) ++ R), tk⟩ := by
  refine Ev.of ⟨Try.func88, by kernel_rfl, rfl, by kernel_rfl⟩ tabOk mixed (by show 1 ≤ Try.f88.ntmps; decide) ?_
  refine W.seq_region fun K hK => ?_
  simp (disch := omega) only [↓RU, RV, RH, ↓reduceIte, Nat.reduceEqDiff, reduceCtorEq, if_pos, ↓RS, RG, Nat.reduceAdd, Nat.reduceMul, Nat.reduceLeDiff, tyLLbool, tyLbool, tybool, tyimpl_relation, rel0 hM.1]
  refine hK _ _ ?_
  clear hK K
  refine W.block ?_
  refine W.loop [0, 6, 7] (fun n vs S => ∃ k : Nat, n = nr - k ∧ k ≤ nr ∧ vs = [.loc F.length t 0 nr, .int .i64 nr, .int .i64 k] ∧ S = ⟨F ++ (relObs F.length t ((List.range k).foldl (clK nr) M) ++ R), tk⟩) (nr) ?_ ?_
  · refine ⟨_, 0, rfl, Nat.zero_le _, ?_, take_all_of rfl⟩
    simp [Env.put, Env.of, argEnv]
  rintro n vs S - ⟨k, rfl, h_k, rfl, rfl⟩
  refine W.seq_region fun K hK => ?_
  simp (disch := omega) only [↓RU, RV, RH, ↓reduceIte, Nat.reduceEqDiff, reduceCtorEq, if_pos, w64, ↓RS, RG, Nat.reduceAdd, Nat.reduceMul, Nat.reduceLeDiff, tyint]
  refine hK _ _ ?_
  clear hK K
  refine W.seq ?_
  refine W.cond rfl (fun h => ?_) (fun h => ?_)
  · try simp only [RL] at h
    have hX := Sq.foldl (f := clK nr) k (fun _ _ _ h => h.clK) hM
    generalize hXe : (List.range k).foldl (clK nr) M = X at hX
    refine W.skip ?_
    refine XThen.norm ?_
    refine W.seq ?_
    refine W.block ?_
    refine W.seq_region fun K hK => ?_
    simp (disch := omega) only [↓RU, RV, RH, ↓reduceIte, Nat.reduceEqDiff, reduceCtorEq, if_pos, ↓RS, RG, Nat.reduceAdd, Nat.reduceMul, Nat.reduceLeDiff]
    refine hK _ _ ?_
    clear hK K
    refine W.seq_region fun K hK => ?_
    simp (disch := omega) only [↓RU, RV, RH, ↓reduceIte, Nat.reduceEqDiff, reduceCtorEq, if_pos, ↓RS, RG, Nat.reduceAdd, Nat.reduceMul, Nat.reduceLeDiff, tyLLbool, tyLbool, tybool, tyimpl_relation, hXe, rel0 hX.1]
    refine hK _ _ ?_
    clear hK K
    refine W.block ?_
    refine W.loop [0, 2, 6, 7, 11, 12] (fun n vs S => ∃ a : Nat, n = nr - a ∧ a ≤ nr ∧ vs = [.loc F.length t 0 nr, .int .i64 k, .int .i64 nr, .int .i64 k, .int .i64 nr, .int .i64 a] ∧ S = ⟨F ++ (relObs F.length t ((List.range a).foldl (clA nr k) X) ++ R), tk⟩) (nr) ?_ ?_
    · refine ⟨_, 0, rfl, Nat.zero_le _, ?_, take_all_of rfl⟩
      simp [Env.put, Env.of, argEnv]
    rintro n vs S - ⟨a, rfl, h_a, rfl, rfl⟩
    refine W.seq_region fun K hK => ?_
    simp (disch := omega) only [↓RU, RV, RH, ↓reduceIte, Nat.reduceEqDiff, reduceCtorEq, if_pos, w64, ↓RS, RG, Nat.reduceAdd, Nat.reduceMul, Nat.reduceLeDiff, tyint]
    refine hK _ _ ?_
    clear hK K
    refine W.seq ?_
    refine W.cond rfl (fun h1 => ?_) (fun h1 => ?_)
    · try simp only [RL] at h1
      have hY := Sq.foldl (f := clA nr k) a (fun _ _ hj h => h.clA (by omega)) hX
      generalize hYe : (List.range a).foldl (clA nr k) X = Y at hY
      refine W.skip ?_
      refine XThen.norm ?_
      refine W.seq ?_
      refine W.block ?_
      refine W.seq_region fun K hK => ?_
      simp (disch := omega) only [↓RU, RV, RH, ↓reduceIte, Nat.reduceEqDiff, reduceCtorEq, if_pos, ↓RS, RG, Nat.reduceAdd, Nat.reduceMul, Nat.reduceLeDiff]
      refine hK _ _ ?_
      clear hK K
      refine W.seq_region fun K hK => ?_
      simp (disch := omega) only [↓RU, RV, RH, ↓reduceIte, Nat.reduceEqDiff, reduceCtorEq, if_pos, ↓RS, RG, Nat.reduceAdd, Nat.reduceMul, Nat.reduceLeDiff, tyLLbool, tyLbool, tybool, tyimpl_relation, hYe, rel0 hY.1]
      refine hK _ _ ?_
      clear hK K
      refine W.block ?_
      refine W.loop [0, 2, 3, 6, 7, 11, 12, 16, 17] (fun n vs S => ∃ b : Nat, n = nr - b ∧ b ≤ nr ∧ vs = [.loc F.length t 0 nr, .int .i64 k, .int .i64 a, .int .i64 nr, .int .i64 k, .int .i64 nr, .int .i64 a, .int .i64 nr, .int .i64 b] ∧ S = ⟨F ++ (relObs F.length t ((List.range b).foldl (clB k a) Y) ++ R), tk⟩) (nr) ?_ ?_
      · refine ⟨_, 0, rfl, Nat.zero_le _, ?_, take_all_of rfl⟩
        simp [Env.put, Env.of, argEnv]
      rintro n vs S - ⟨b, rfl, h_b, rfl, rfl⟩
      refine W.seq_region fun K hK => ?_
      simp (disch := omega) only [↓RU, RV, RH, ↓reduceIte, Nat.reduceEqDiff, reduceCtorEq, if_pos, w64, ↓RS, RG, Nat.reduceAdd, Nat.reduceMul, Nat.reduceLeDiff, tyint]
      refine hK _ _ ?_
      clear hK K
      refine W.seq ?_
      refine W.cond rfl (fun h2 => ?_) (fun h2 => ?_)
      · try simp only [RL] at h2
        have hZ := Sq.foldl (f := clB k a) b (fun _ _ _ h => h.clB (show a < nr by omega)) hY
        generalize hZe : (List.range b).foldl (clB k a) Y = Z at hZ
        have hZl := hZ.1
        obtain ⟨ra, hra, hral, hrab⟩ := hZ.at_ (show a < nr by omega) (show b < nr by omega)
        obtain ⟨ra2, hra2, -, hrak⟩ := hZ.at_ (show a < nr by omega) (show k < nr by omega)
        obtain ⟨rk, hrk, hrkl, hrkb⟩ := hZ.at_ (show k < nr by omega) (show b < nr by omega)
        obtain rfl : ra = ra2 := by rw [hra] at hra2; exact Option.some.inj hra2
        refine W.skip ?_
        refine XThen.norm ?_
        refine W.seq ?_
        refine W.block ?_
        refine W.seq_region fun K hK => ?_
        simp (disch := omega) only [↓RU, RV, RH, ↓reduceIte, Nat.reduceEqDiff, reduceCtorEq, if_pos, ↓RS, RG, Nat.reduceAdd, Nat.reduceMul, Nat.reduceLeDiff]
        refine hK _ _ ?_
        clear hK K
        refine W.draw_k (by kernel_rfl) fun K hK => ?_
        rcases hv : (getB Z a b, getB Z a k, getB Z k b) with ⟨_ | _, _ | _, _ | _⟩
        · skip
          simp only [Prod.mk.injEq] at hv
          obtain ⟨hv1, hv2, hv3⟩ := hv
          rw [hv1] at hrab
          rw [hv2] at hrak
          rw [hv3] at hrkb
          simp (disch := omega) only [↓RU, RV, RH, ↓reduceIte, Nat.reduceEqDiff, reduceCtorEq, if_pos, ↓RS, RG, Nat.reduceAdd, Nat.reduceMul, Nat.reduceLeDiff, tyLLbool, tyLbool, tybool, tyimpl_relation, hZe, rel0 hZl, rg_get, relR hra, relR hrk, hrab, hrak, hrkb, set_spl, set_bool, hral, relSet hZl]
          refine hK _ _ ?_
          clear hK K
          refine XBlock.norm ?_
          refine XThen.norm ?_
          refine W.region_k fun K hK => ?_
          simp (disch := omega) only [↓RU, RV, RH, ↓reduceIte, Nat.reduceEqDiff, reduceCtorEq, if_pos, w64, ↓RS, RG, Nat.reduceAdd, Nat.reduceMul, Nat.reduceLeDiff, tyint]
          refine hK _ _ ?_
          clear hK K
          refine XThen.norm ?_
          refine ⟨nr - (b + 1), by omega, _, b + 1, rfl, by omega, ?_, take_all_of (by rw [foldl_rg, hZe, clB, setB_is hra]; simp [hv1, hv2, hv3])⟩
          simp [Env.put, Env.of]
        · skip
          simp only [Prod.mk.injEq] at hv
          obtain ⟨hv1, hv2, hv3⟩ := hv
          rw [hv1] at hrab
          rw [hv2] at hrak
          rw [hv3] at hrkb
          simp (disch := omega) only [↓RU, RV, RH, ↓reduceIte, Nat.reduceEqDiff, reduceCtorEq, if_pos, ↓RS, RG, Nat.reduceAdd, Nat.reduceMul, Nat.reduceLeDiff, tyLLbool, tyLbool, tybool, tyimpl_relation, hZe, rel0 hZl, rg_get, relR hra, relR hrk, hrab, hrak, hrkb, set_spl, set_bool, hral, relSet hZl]
          refine hK _ _ ?_
          clear hK K
          refine XBlock.norm ?_
          refine XThen.norm ?_
          refine W.region_k fun K hK => ?_
          simp (disch := omega) only [↓RU, RV, RH, ↓reduceIte, Nat.reduceEqDiff, reduceCtorEq, if_pos, w64, ↓RS, RG, Nat.reduceAdd, Nat.reduceMul, Nat.reduceLeDiff, tyint]
          refine hK _ _ ?_
          clear hK K
          refine XThen.norm ?_
          refine ⟨nr - (b + 1), by omega, _, b + 1, rfl, by omega, ?_, take_all_of (by rw [foldl_rg, hZe, clB, setB_is hra]; simp [hv1, hv2, hv3])⟩
          simp [Env.put, Env.of]
        · skip
          simp only [Prod.mk.injEq] at hv
          obtain ⟨hv1, hv2, hv3⟩ := hv
          rw [hv1] at hrab
          rw [hv2] at hrak
          rw [hv3] at hrkb
          simp (disch := omega) only [↓RU, RV, RH, ↓reduceIte, Nat.reduceEqDiff, reduceCtorEq, if_pos, ↓RS, RG, Nat.reduceAdd, Nat.reduceMul, Nat.reduceLeDiff, tyLLbool, tyLbool, tybool, tyimpl_relation, hZe, rel0 hZl, rg_get, relR hra, relR hrk, hrab, hrak, hrkb, set_spl, set_bool, hral, relSet hZl]
          refine hK _ _ ?_
          clear hK K
          refine XBlock.norm ?_
          refine XThen.norm ?_
          refine W.region_k fun K hK => ?_
          simp (disch := omega) only [↓RU, RV, RH, ↓reduceIte, Nat.reduceEqDiff, reduceCtorEq, if_pos, w64, ↓RS, RG, Nat.reduceAdd, Nat.reduceMul, Nat.reduceLeDiff, tyint]
          refine hK _ _ ?_
          clear hK K
          refine XThen.norm ?_
          refine ⟨nr - (b + 1), by omega, _, b + 1, rfl, by omega, ?_, take_all_of (by rw [foldl_rg, hZe, clB, setB_is hra]; simp [hv1, hv2, hv3])⟩
          simp [Env.put, Env.of]
        · skip
          simp only [Prod.mk.injEq] at hv
          obtain ⟨hv1, hv2, hv3⟩ := hv
          rw [hv1] at hrab
          rw [hv2] at hrak
          rw [hv3] at hrkb
          simp (disch := omega) only [↓RU, RV, RH, ↓reduceIte, Nat.reduceEqDiff, reduceCtorEq, if_pos, ↓RS, RG, Nat.reduceAdd, Nat.reduceMul, Nat.reduceLeDiff, tyLLbool, tyLbool, tybool, tyimpl_relation, hZe, rel0 hZl, rg_get, relR hra, relR hrk, hrab, hrak, hrkb, set_spl, set_bool, hral, relSet hZl]
          refine hK _ _ ?_
          clear hK K
          refine XBlock.norm ?_
          refine XThen.norm ?_
          refine W.region_k fun K hK => ?_
          simp (disch := omega) only [↓RU, RV, RH, ↓reduceIte, Nat.reduceEqDiff, reduceCtorEq, if_pos, w64, ↓RS, RG, Nat.reduceAdd, Nat.reduceMul, Nat.reduceLeDiff, tyint]
          refine hK _ _ ?_
          clear hK K
          refine XThen.norm ?_
          refine ⟨nr - (b + 1), by omega, _, b + 1, rfl, by omega, ?_, take_all_of (by rw [foldl_rg, hZe, clB, setB_is hra]; simp [hv1, hv2, hv3])⟩
          simp [Env.put, Env.of]
        · skip
          simp only [Prod.mk.injEq] at hv
          obtain ⟨hv1, hv2, hv3⟩ := hv
          rw [hv1] at hrab
          rw [hv2] at hrak
          rw [hv3] at hrkb
          simp (disch := omega) only [↓RU, RV, RH, ↓reduceIte, Nat.reduceEqDiff, reduceCtorEq, if_pos, ↓RS, RG, Nat.reduceAdd, Nat.reduceMul, Nat.reduceLeDiff, tyLLbool, tyLbool, tybool, tyimpl_relation, hZe, rel0 hZl, rg_get, relR hra, relR hrk, hrab, hrak, hrkb, set_spl, set_bool, hral, relSet hZl]
          refine hK _ _ ?_
          clear hK K
          refine XBlock.norm ?_
          refine XThen.norm ?_
          refine W.region_k fun K hK => ?_
          simp (disch := omega) only [↓RU, RV, RH, ↓reduceIte, Nat.reduceEqDiff, reduceCtorEq, if_pos, w64, ↓RS, RG, Nat.reduceAdd, Nat.reduceMul, Nat.reduceLeDiff, tyint]
          refine hK _ _ ?_
          clear hK K
          refine XThen.norm ?_
          refine ⟨nr - (b + 1), by omega, _, b + 1, rfl, by omega, ?_, take_all_of (by rw [foldl_rg, hZe, clB, setB_is hra]; simp [hv1, hv2, hv3])⟩
          simp [Env.put, Env.of]
        · skip
          simp only [Prod.mk.injEq] at hv
          obtain ⟨hv1, hv2, hv3⟩ := hv
          rw [hv1] at hrab
          rw [hv2] at hrak
          rw [hv3] at hrkb
          simp (disch := omega) only [↓RU, RV, RH, ↓reduceIte, Nat.reduceEqDiff, reduceCtorEq, if_pos, ↓RS, RG, Nat.reduceAdd, Nat.reduceMul, Nat.reduceLeDiff, tyLLbool, tyLbool, tybool, tyimpl_relation, hZe, rel0 hZl, rg_get, relR hra, relR hrk, hrab, hrak, hrkb, set_spl, set_bool, hral, relSet hZl]
          refine hK _ _ ?_
          clear hK K
          refine XBlock.norm ?_
          refine XThen.norm ?_
          refine W.region_k fun K hK => ?_
          simp (disch := omega) only [↓RU, RV, RH, ↓reduceIte, Nat.reduceEqDiff, reduceCtorEq, if_pos, w64, ↓RS, RG, Nat.reduceAdd, Nat.reduceMul, Nat.reduceLeDiff, tyint]
          refine hK _ _ ?_
          clear hK K
          refine XThen.norm ?_
          refine ⟨nr - (b + 1), by omega, _, b + 1, rfl, by omega, ?_, take_all_of (by rw [foldl_rg, hZe, clB, setB_is hra]; simp [hv1, hv2, hv3])⟩
          simp [Env.put, Env.of]
        · skip
          simp only [Prod.mk.injEq] at hv
          obtain ⟨hv1, hv2, hv3⟩ := hv
          rw [hv1] at hrab
          rw [hv2] at hrak
          rw [hv3] at hrkb
          simp (disch := omega) only [↓RU, RV, RH, ↓reduceIte, Nat.reduceEqDiff, reduceCtorEq, if_pos, ↓RS, RG, Nat.reduceAdd, Nat.reduceMul, Nat.reduceLeDiff, tyLLbool, tyLbool, tybool, tyimpl_relation, hZe, rel0 hZl, rg_get, relR hra, relR hrk, hrab, hrak, hrkb, set_spl, set_bool, hral, relSet hZl]
          refine hK _ _ ?_
          clear hK K
          refine XBlock.norm ?_
          refine XThen.norm ?_
          refine W.region_k fun K hK => ?_
          simp (disch := omega) only [↓RU, RV, RH, ↓reduceIte, Nat.reduceEqDiff, reduceCtorEq, if_pos, w64, ↓RS, RG, Nat.reduceAdd, Nat.reduceMul, Nat.reduceLeDiff, tyint]
          refine hK _ _ ?_
          clear hK K
          refine XThen.norm ?_
          refine ⟨nr - (b + 1), by omega, _, b + 1, rfl, by omega, ?_, take_all_of (by rw [foldl_rg, hZe, clB, setB_is hra]; simp [hv1, hv2, hv3])⟩
          simp [Env.put, Env.of]
        · skip
          simp only [Prod.mk.injEq] at hv
          obtain ⟨hv1, hv2, hv3⟩ := hv
          rw [hv1] at hrab
          rw [hv2] at hrak
          rw [hv3] at hrkb
          simp (disch := omega) only [↓RU, RV, RH, ↓reduceIte, Nat.reduceEqDiff, reduceCtorEq, if_pos, ↓RS, RG, Nat.reduceAdd, Nat.reduceMul, Nat.reduceLeDiff, tyLLbool, tyLbool, tybool, tyimpl_relation, hZe, rel0 hZl, rg_get, relR hra, relR hrk, hrab, hrak, hrkb, set_spl, set_bool, hral, relSet hZl]
          refine hK _ _ ?_
          clear hK K
          refine XBlock.norm ?_
          refine XThen.norm ?_
          refine W.region_k fun K hK => ?_
          simp (disch := omega) only [↓RU, RV, RH, ↓reduceIte, Nat.reduceEqDiff, reduceCtorEq, if_pos, w64, ↓RS, RG, Nat.reduceAdd, Nat.reduceMul, Nat.reduceLeDiff, tyint]
          refine hK _ _ ?_
          clear hK K
          refine XThen.norm ?_
          refine ⟨nr - (b + 1), by omega, _, b + 1, rfl, by omega, ?_, take_all_of (by rw [foldl_rg, hZe, clB, setB_is hra]; simp [hv1, hv2, hv3])⟩
          simp [Env.put, Env.of]
      · try simp only [RL] at h2
        obtain rfl : nr = b := by omega
        refine W.exit ?_
        refine XThen.exit ?_
        refine XThen.exit ?_
        refine XBlock.hit ?_
        refine XBlock.norm ?_
        refine XThen.norm ?_
        refine W.region_k fun K hK => ?_
        simp (disch := omega) only [↓RU, RV, RH, ↓reduceIte, Nat.reduceEqDiff, reduceCtorEq, if_pos, w64, ↓RS, RG, Nat.reduceAdd, Nat.reduceMul, Nat.reduceLeDiff, tyint]
        refine hK _ _ ?_
        clear hK K
        refine XThen.norm ?_
        refine ⟨nr - (a + 1), by omega, _, a + 1, rfl, by omega, ?_, take_all_of (by rw [foldl_rg, hYe]; rfl)⟩
        simp [Env.put, Env.of]
    · try simp only [RL] at h1
      obtain rfl : nr = a := by omega
      refine W.exit ?_
      refine XThen.exit ?_
      refine XThen.exit ?_
      refine XBlock.hit ?_
      refine XBlock.norm ?_
      refine XThen.norm ?_
      refine W.region_k fun K hK => ?_
      simp (disch := omega) only [↓RU, RV, RH, ↓reduceIte, Nat.reduceEqDiff, reduceCtorEq, if_pos, w64, ↓RS, RG, Nat.reduceAdd, Nat.reduceMul, Nat.reduceLeDiff, tyint]
      refine hK _ _ ?_
      clear hK K
      refine XThen.norm ?_
      refine ⟨nr - (k + 1), by omega, _, k + 1, rfl, by omega, ?_, take_all_of (by rw [foldl_rg, hXe]; rfl)⟩
      simp [Env.put, Env.of]
  · try simp only [RL] at h
    obtain rfl : nr = k := by omega
    refine W.exit ?_
    refine XThen.exit ?_
    refine XThen.exit ?_
    refine XBlock.hit ?_
    refine BodyQ.norm rfl ?_
    refine ⟨_, rfl, take_all_of ?_⟩
    rw [closeM, hM.1]

end Fw
end Go.Proofs.Ytmhcknpjgikgmaa
