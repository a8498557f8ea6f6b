/- Each two rooms are in just one order: the law FnKind answers true for all codes. No condition. -/
import Derived.Test.YtmhcknpjgikgmaaJ5
set_option linter.all false
/-! The law of kinds, gone through. -/
namespace Go.Proofs.Ytmhcknpjgikgmaa
namespace Fw
open Go

theorem pEq_b {S : Store} {a b : Bool} : pEq tab S 4 (.bool a) (.bool b) = some (a == b) := rfl

theorem kind_law {code : Txt} (hcode : code.length ≤ 9223372036854775807) : PC Try.prog 6 [eBy code] (.bool true) true := by
  refine PC.of ⟨Try.func6, by kernel_rfl, rfl, by kernel_rfl⟩ tabOk mixed (by show 1 ≤ Try.f6.ntmps; decide) ?_
  refine W.seq_region fun K hK => ?_
  simp (disch := omega) only [↓RU, RV, RH, ↓reduceIte, Nat.reduceEqDiff, reduceCtorEq, if_pos, ↓RS, RG, Nat.reduceAdd, Nat.reduceMul, Nat.reduceLeDiff]
  refine hK _ _ ?_
  clear hK K
  refine W.seq ?_
  refine W.seq_region fun K hK => ?_
  simp (disch := omega) only [↓RU, RV, RH, ↓reduceIte, Nat.reduceEqDiff, reduceCtorEq, if_pos, w64, ↓RS, RG, Nat.reduceAdd, Nat.reduceMul, Nat.reduceLeDiff, tyLuint8, tyint, tyuint8]
  refine hK _ _ ?_
  clear hK K
  refine W.cond rfl (fun h0 => ?_) (fun h0 => ?_)
  · try simp only [RL] at h0
    refine W.seq_region fun K hK => ?_
    simp (disch := omega) only [↓RU, RV, RH, ↓reduceIte, Nat.reduceEqDiff, reduceCtorEq, if_pos, ↓RS, RG, Nat.reduceAdd, Nat.reduceMul, Nat.reduceLeDiff]
    refine hK _ _ ?_
    clear hK K
    refine W.ret ?_
    refine XThen.ret ?_
    refine BodyQ.ret rfl ?_
    rfl
  · try simp only [RL] at h0
    have hcl : code.length ≤ 1048576 := by omega
    refine W.skip ?_
    refine XThen.norm ?_
    refine W.seq_region fun K hK => ?_
    simp (disch := omega) only [↓RU, RV, RH, ↓reduceIte, Nat.reduceEqDiff, reduceCtorEq, if_pos, List.append_nil, ↓RS, RG, Nat.reduceAdd, Nat.reduceMul, Nat.reduceLeDiff]
    refine CallR.ev (drawKind_ev hcl) ?_
    rintro _ _ ⟨p, a, b, t, hs, ha1, ha2, hb1, hb2, rfl, rfl⟩
    simp (disch := omega) only [↓RU, RV, RH, ↓reduceIte, Nat.reduceEqDiff, reduceCtorEq, if_pos, List.append_nil, ↓RS, RG, Nat.reduceAdd, Nat.reduceMul, Nat.reduceLeDiff]
    refine hK _ _ ?_
    clear hK K
    refine W.seq_region fun K hK => ?_
    simp (disch := omega) only [↓RU, RV, RH, ↓reduceIte, Nat.reduceEqDiff, reduceCtorEq, if_pos, List.append_nil, ↓RS, RG, Nat.reduceAdd, Nat.reduceMul, Nat.reduceLeDiff]
    refine CallR.pc (orderKind_pc hs a b) rfl (.inl rfl) ?_
    simp (disch := omega) only [↓RU, RV, RH, ↓reduceIte, Nat.reduceEqDiff, reduceCtorEq, if_pos, List.append_nil, ↓RS, RG, Nat.reduceAdd, Nat.reduceMul, Nat.reduceLeDiff]
    refine hK _ _ ?_
    clear hK K
    refine W.seq_region fun K hK => ?_
    simp (disch := omega) only [↓RU, RV, RH, ↓reduceIte, Nat.reduceEqDiff, reduceCtorEq, if_pos, List.append_nil, ↓RS, RG, Nat.reduceAdd, Nat.reduceMul, Nat.reduceLeDiff]
    refine CallR.pc (sOrderKind_pc hs a b) rfl (.inl rfl) ?_
    simp (disch := omega) only [↓RU, RV, RH, ↓reduceIte, Nat.reduceEqDiff, reduceCtorEq, if_pos, List.append_nil, ↓RS, RG, Nat.reduceAdd, Nat.reduceMul, Nat.reduceLeDiff]
    refine hK _ _ ?_
    clear hK K
    rw [kind_eq]
    refine W.seq ?_
    refine W.seq_region fun K hK => ?_
    cases hkb : (kindI p a b).2
    · skip
      simp (disch := omega) only [↓RU, RV, RH, ↓reduceIte, Nat.reduceEqDiff, reduceCtorEq, if_pos, w64, ↓RS, RG, Nat.reduceAdd, Nat.reduceMul, Nat.reduceLeDiff, tybool, tystring, hkb, pStr, beq_self_eq_true, bne_self_eq_false, Bool.not_true]
      refine hK _ _ ?_
      clear hK K
      refine W.cond rfl (fun h1 => ?_) (fun h1 => ?_)
      · try simp only [RL] at h1
        refine W.seq_region fun K hK => ?_
        simp (disch := omega) only [↓RU, RV, RH, ↓reduceIte, Nat.reduceEqDiff, reduceCtorEq, if_pos, w64, ↓RS, RG, Nat.reduceAdd, Nat.reduceMul, Nat.reduceLeDiff, tybool, tystring, hkb, pStr, beq_self_eq_true, bne_self_eq_false, Bool.not_true]
        refine hK _ _ ?_
        clear hK K
        refine W.ret ?_
        refine XThen.ret ?_
        refine BodyQ.ret rfl ?_
        rfl
      · try simp only [RL] at h1
        exact absurd h1 (by simp)
    · skip
      simp (disch := omega) only [↓RU, RV, RH, ↓reduceIte, Nat.reduceEqDiff, reduceCtorEq, if_pos, w64, ↓RS, RG, Nat.reduceAdd, Nat.reduceMul, Nat.reduceLeDiff, tybool, tystring, hkb, pStr, beq_self_eq_true, bne_self_eq_false, Bool.not_true]
      refine hK _ _ ?_
      clear hK K
      refine W.cond rfl (fun h1 => ?_) (fun h1 => ?_)
      · try simp only [RL] at h1
        exact absurd h1 (by simp)
      · try simp only [RL] at h1
        refine W.skip ?_
        refine XThen.norm ?_
        refine W.seq_region fun K hK => ?_
        simp (disch := omega) only [↓RU, RV, RH, ↓reduceIte, Nat.reduceEqDiff, reduceCtorEq, if_pos, ↓RS, RG, Nat.reduceAdd, Nat.reduceMul, Nat.reduceLeDiff]
        refine hK _ _ ?_
        clear hK K
        refine W.join [3, 4, 5, 6, 10] (fun vs S => ∃ n1 : Int, n1 = (if askV p (lfM p) a b = true then (1 : Int) else 0) ∧ 0 ≤ n1 ∧ n1 ≤ 1 ∧ vs = [eStrs p, .int .i64 a, .int .i64 b, .str (kindI p a b).1, .int .i64 n1] ∧ S = ⟨[], t⟩) ?_ ?_
        ·
          refine W.seq_region fun K hK => ?_
          simp (disch := omega) only [↓RU, RV, RH, ↓reduceIte, Nat.reduceEqDiff, reduceCtorEq, if_pos, List.append_nil, ↓RS, RG, Nat.reduceAdd, Nat.reduceMul, Nat.reduceLeDiff]
          refine CallR.pc (orderLeft_pc hs a b) rfl (.inl rfl) ?_
          simp (disch := omega) only [↓RU, RV, RH, ↓reduceIte, Nat.reduceEqDiff, reduceCtorEq, if_pos, List.append_nil, ↓RS, RG, Nat.reduceAdd, Nat.reduceMul, Nat.reduceLeDiff]
          refine hK _ _ ?_
          clear hK K
          refine W.cond rfl (fun h2 => ?_) (fun h2 => ?_)
          · try simp only [RL] at h2
            refine W.region_k fun K hK => ?_
            simp (disch := omega) only [↓RU, RV, RH, ↓reduceIte, Nat.reduceEqDiff, reduceCtorEq, if_pos, w64, ↓RS, RG, Nat.reduceAdd, Nat.reduceMul, Nat.reduceLeDiff, tyint]
            refine hK _ _ ?_
            clear hK K
            refine XThen.norm ?_
            refine ⟨0, 0 + 1, by simp [h2], by omega, by omega, ?_, rfl⟩
            simp [Env.put, Env.of, argEnv]
          · try simp only [RL] at h2
            refine W.skip ?_
            refine XThen.norm ?_
            refine ⟨0, 0, by simp [h2], by omega, by omega, ?_, rfl⟩
            simp [Env.put, Env.of, argEnv]
        rintro vs S - ⟨n1, hn1, hn1a, hn1b, rfl, rfl⟩
        refine W.join [3, 4, 5, 6, 10] (fun vs S => ∃ n2 : Int, n2 = n1 + (if askV p (lfM p) b a = true then (1 : Int) else 0) ∧ 0 ≤ n2 ∧ n2 ≤ 2 ∧ vs = [eStrs p, .int .i64 a, .int .i64 b, .str (kindI p a b).1, .int .i64 n2] ∧ S = ⟨[], t⟩) ?_ ?_
        ·
          refine W.seq_region fun K hK => ?_
          simp (disch := omega) only [↓RU, RV, RH, ↓reduceIte, Nat.reduceEqDiff, reduceCtorEq, if_pos, List.append_nil, ↓RS, RG, Nat.reduceAdd, Nat.reduceMul, Nat.reduceLeDiff]
          refine CallR.pc (orderLeft_pc hs b a) rfl (.inl rfl) ?_
          simp (disch := omega) only [↓RU, RV, RH, ↓reduceIte, Nat.reduceEqDiff, reduceCtorEq, if_pos, List.append_nil, ↓RS, RG, Nat.reduceAdd, Nat.reduceMul, Nat.reduceLeDiff]
          refine hK _ _ ?_
          clear hK K
          refine W.cond rfl (fun h3 => ?_) (fun h3 => ?_)
          · try simp only [RL] at h3
            refine W.region_k fun K hK => ?_
            simp (disch := omega) only [↓RU, RV, RH, ↓reduceIte, Nat.reduceEqDiff, reduceCtorEq, if_pos, w64, ↓RS, RG, Nat.reduceAdd, Nat.reduceMul, Nat.reduceLeDiff, tyint]
            refine hK _ _ ?_
            clear hK K
            refine XThen.norm ?_
            refine ⟨0, n1 + 1, by simp [h3], by omega, by omega, ?_, rfl⟩
            simp [Env.put, Env.of, argEnv]
          · try simp only [RL] at h3
            refine W.skip ?_
            refine XThen.norm ?_
            refine ⟨0, n1, by simp [h3], by omega, by omega, ?_, rfl⟩
            simp [Env.put, Env.of, argEnv]
        rintro vs S - ⟨n2, hn2, hn2a, hn2b, rfl, rfl⟩
        refine W.join [3, 4, 5, 6, 10] (fun vs S => ∃ n3 : Int, n3 = n2 + (if askV p (abM p) a b = true then (1 : Int) else 0) ∧ 0 ≤ n3 ∧ n3 ≤ 3 ∧ vs = [eStrs p, .int .i64 a, .int .i64 b, .str (kindI p a b).1, .int .i64 n3] ∧ S = ⟨[], t⟩) ?_ ?_
        ·
          refine W.seq_region fun K hK => ?_
          simp (disch := omega) only [↓RU, RV, RH, ↓reduceIte, Nat.reduceEqDiff, reduceCtorEq, if_pos, List.append_nil, ↓RS, RG, Nat.reduceAdd, Nat.reduceMul, Nat.reduceLeDiff]
          refine CallR.pc (orderAbove_pc hs a b) rfl (.inl rfl) ?_
          simp (disch := omega) only [↓RU, RV, RH, ↓reduceIte, Nat.reduceEqDiff, reduceCtorEq, if_pos, List.append_nil, ↓RS, RG, Nat.reduceAdd, Nat.reduceMul, Nat.reduceLeDiff]
          refine hK _ _ ?_
          clear hK K
          refine W.cond rfl (fun h4 => ?_) (fun h4 => ?_)
          · try simp only [RL] at h4
            refine W.region_k fun K hK => ?_
            simp (disch := omega) only [↓RU, RV, RH, ↓reduceIte, Nat.reduceEqDiff, reduceCtorEq, if_pos, w64, ↓RS, RG, Nat.reduceAdd, Nat.reduceMul, Nat.reduceLeDiff, tyint]
            refine hK _ _ ?_
            clear hK K
            refine XThen.norm ?_
            refine ⟨0, n2 + 1, by simp [h4], by omega, by omega, ?_, rfl⟩
            simp [Env.put, Env.of, argEnv]
          · try simp only [RL] at h4
            refine W.skip ?_
            refine XThen.norm ?_
            refine ⟨0, n2, by simp [h4], by omega, by omega, ?_, rfl⟩
            simp [Env.put, Env.of, argEnv]
        rintro vs S - ⟨n3, hn3, hn3a, hn3b, rfl, rfl⟩
        refine W.join [3, 4, 5, 6, 10] (fun vs S => ∃ n4 : Int, n4 = n3 + (if askV p (abM p) b a = true then (1 : Int) else 0) ∧ 0 ≤ n4 ∧ n4 ≤ 4 ∧ vs = [eStrs p, .int .i64 a, .int .i64 b, .str (kindI p a b).1, .int .i64 n4] ∧ S = ⟨[], t⟩) ?_ ?_
        ·
          refine W.seq_region fun K hK => ?_
          simp (disch := omega) only [↓RU, RV, RH, ↓reduceIte, Nat.reduceEqDiff, reduceCtorEq, if_pos, List.append_nil, ↓RS, RG, Nat.reduceAdd, Nat.reduceMul, Nat.reduceLeDiff]
          refine CallR.pc (orderAbove_pc hs b a) rfl (.inl rfl) ?_
          simp (disch := omega) only [↓RU, RV, RH, ↓reduceIte, Nat.reduceEqDiff, reduceCtorEq, if_pos, List.append_nil, ↓RS, RG, Nat.reduceAdd, Nat.reduceMul, Nat.reduceLeDiff]
          refine hK _ _ ?_
          clear hK K
          refine W.cond rfl (fun h5 => ?_) (fun h5 => ?_)
          · try simp only [RL] at h5
            refine W.region_k fun K hK => ?_
            simp (disch := omega) only [↓RU, RV, RH, ↓reduceIte, Nat.reduceEqDiff, reduceCtorEq, if_pos, w64, ↓RS, RG, Nat.reduceAdd, Nat.reduceMul, Nat.reduceLeDiff, tyint]
            refine hK _ _ ?_
            clear hK K
            refine XThen.norm ?_
            refine ⟨0, n3 + 1, by simp [h5], by omega, by omega, ?_, rfl⟩
            simp [Env.put, Env.of, argEnv]
          · try simp only [RL] at h5
            refine W.skip ?_
            refine XThen.norm ?_
            refine ⟨0, n3, by simp [h5], by omega, by omega, ?_, rfl⟩
            simp [Env.put, Env.of, argEnv]
        rintro vs S - ⟨n4, hn4, hn4a, hn4b, rfl, rfl⟩
        refine W.seq_region fun K hK => ?_
        rcases kind_cases p a b with hk | ⟨hk, f1, f2, f3, f4⟩ | ⟨hk, f1, f2, f3, f4⟩ | ⟨hk, f1, f2, f3, f4⟩ | ⟨hk, f1, f2, f3, f4⟩
        · skip
          rw [hk] at hkb; cases hkb
        · skip
          have hn : n4 = 1 := by rw [hn4, hn3, hn2, hn1, f1, f2, f3, f4]; rfl
          have z1 : (([108] : Txt) == [108]) = true := rfl
          have z2 : (([108] : Txt) == [114]) = false := rfl
          have z3 : (([108] : Txt) == [117]) = false := rfl
          simp (disch := omega) only [↓RU, RV, RH, ↓reduceIte, Nat.reduceEqDiff, reduceCtorEq, if_pos, w64, List.append_nil, ↓RS, RG, Nat.reduceAdd, Nat.reduceMul, Nat.reduceLeDiff, tybool, tyint, tystring, hn, hk, f1, f2, f3, z1, z2, z3, pStr, beq_self_eq_true, pEq_b, Option.map_some]
          refine CallR.pc (orderLeft_pc hs a b) rfl (.inl rfl) ?_
          simp (disch := omega) only [↓RU, RV, RH, ↓reduceIte, Nat.reduceEqDiff, reduceCtorEq, if_pos, w64, List.append_nil, ↓RS, RG, Nat.reduceAdd, Nat.reduceMul, Nat.reduceLeDiff, tybool, tyint, tystring, hn, hk, f1, f2, f3, z1, z2, z3, pStr, beq_self_eq_true, pEq_b, Option.map_some]
          refine CallR.pc (orderLeft_pc hs b a) rfl (.inl rfl) ?_
          simp (disch := omega) only [↓RU, RV, RH, ↓reduceIte, Nat.reduceEqDiff, reduceCtorEq, if_pos, w64, List.append_nil, ↓RS, RG, Nat.reduceAdd, Nat.reduceMul, Nat.reduceLeDiff, tybool, tyint, tystring, hn, hk, f1, f2, f3, z1, z2, z3, pStr, beq_self_eq_true, pEq_b, Option.map_some]
          refine CallR.pc (orderAbove_pc hs a b) rfl (.inl rfl) ?_
          simp (disch := omega) only [↓RU, RV, RH, ↓reduceIte, Nat.reduceEqDiff, reduceCtorEq, if_pos, w64, List.append_nil, ↓RS, RG, Nat.reduceAdd, Nat.reduceMul, Nat.reduceLeDiff, tybool, tyint, tystring, hn, hk, f1, f2, f3, z1, z2, z3, pStr, beq_self_eq_true, pEq_b, Option.map_some]
          refine hK _ _ ?_
          clear hK K
          refine W.ret ?_
          refine BodyQ.ret rfl ?_
          rfl
        · skip
          have hn : n4 = 1 := by rw [hn4, hn3, hn2, hn1, f1, f2, f3, f4]; rfl
          have z1 : (([114] : Txt) == [108]) = false := rfl
          have z2 : (([114] : Txt) == [114]) = true := rfl
          have z3 : (([114] : Txt) == [117]) = false := rfl
          simp (disch := omega) only [↓RU, RV, RH, ↓reduceIte, Nat.reduceEqDiff, reduceCtorEq, if_pos, w64, List.append_nil, ↓RS, RG, Nat.reduceAdd, Nat.reduceMul, Nat.reduceLeDiff, tybool, tyint, tystring, hn, hk, f1, f2, f3, z1, z2, z3, pStr, beq_self_eq_true, pEq_b, Option.map_some]
          refine CallR.pc (orderLeft_pc hs a b) rfl (.inl rfl) ?_
          simp (disch := omega) only [↓RU, RV, RH, ↓reduceIte, Nat.reduceEqDiff, reduceCtorEq, if_pos, w64, List.append_nil, ↓RS, RG, Nat.reduceAdd, Nat.reduceMul, Nat.reduceLeDiff, tybool, tyint, tystring, hn, hk, f1, f2, f3, z1, z2, z3, pStr, beq_self_eq_true, pEq_b, Option.map_some]
          refine CallR.pc (orderLeft_pc hs b a) rfl (.inl rfl) ?_
          simp (disch := omega) only [↓RU, RV, RH, ↓reduceIte, Nat.reduceEqDiff, reduceCtorEq, if_pos, w64, List.append_nil, ↓RS, RG, Nat.reduceAdd, Nat.reduceMul, Nat.reduceLeDiff, tybool, tyint, tystring, hn, hk, f1, f2, f3, z1, z2, z3, pStr, beq_self_eq_true, pEq_b, Option.map_some]
          refine CallR.pc (orderAbove_pc hs a b) rfl (.inl rfl) ?_
          simp (disch := omega) only [↓RU, RV, RH, ↓reduceIte, Nat.reduceEqDiff, reduceCtorEq, if_pos, w64, List.append_nil, ↓RS, RG, Nat.reduceAdd, Nat.reduceMul, Nat.reduceLeDiff, tybool, tyint, tystring, hn, hk, f1, f2, f3, z1, z2, z3, pStr, beq_self_eq_true, pEq_b, Option.map_some]
          refine hK _ _ ?_
          clear hK K
          refine W.ret ?_
          refine BodyQ.ret rfl ?_
          rfl
        · skip
          have hn : n4 = 1 := by rw [hn4, hn3, hn2, hn1, f1, f2, f3, f4]; rfl
          have z1 : (([117] : Txt) == [108]) = false := rfl
          have z2 : (([117] : Txt) == [114]) = false := rfl
          have z3 : (([117] : Txt) == [117]) = true := rfl
          simp (disch := omega) only [↓RU, RV, RH, ↓reduceIte, Nat.reduceEqDiff, reduceCtorEq, if_pos, w64, List.append_nil, ↓RS, RG, Nat.reduceAdd, Nat.reduceMul, Nat.reduceLeDiff, tybool, tyint, tystring, hn, hk, f1, f2, f3, z1, z2, z3, pStr, beq_self_eq_true, pEq_b, Option.map_some]
          refine CallR.pc (orderLeft_pc hs a b) rfl (.inl rfl) ?_
          simp (disch := omega) only [↓RU, RV, RH, ↓reduceIte, Nat.reduceEqDiff, reduceCtorEq, if_pos, w64, List.append_nil, ↓RS, RG, Nat.reduceAdd, Nat.reduceMul, Nat.reduceLeDiff, tybool, tyint, tystring, hn, hk, f1, f2, f3, z1, z2, z3, pStr, beq_self_eq_true, pEq_b, Option.map_some]
          refine CallR.pc (orderLeft_pc hs b a) rfl (.inl rfl) ?_
          simp (disch := omega) only [↓RU, RV, RH, ↓reduceIte, Nat.reduceEqDiff, reduceCtorEq, if_pos, w64, List.append_nil, ↓RS, RG, Nat.reduceAdd, Nat.reduceMul, Nat.reduceLeDiff, tybool, tyint, tystring, hn, hk, f1, f2, f3, z1, z2, z3, pStr, beq_self_eq_true, pEq_b, Option.map_some]
          refine CallR.pc (orderAbove_pc hs a b) rfl (.inl rfl) ?_
          simp (disch := omega) only [↓RU, RV, RH, ↓reduceIte, Nat.reduceEqDiff, reduceCtorEq, if_pos, w64, List.append_nil, ↓RS, RG, Nat.reduceAdd, Nat.reduceMul, Nat.reduceLeDiff, tybool, tyint, tystring, hn, hk, f1, f2, f3, z1, z2, z3, pStr, beq_self_eq_true, pEq_b, Option.map_some]
          refine hK _ _ ?_
          clear hK K
          refine W.ret ?_
          refine BodyQ.ret rfl ?_
          rfl
        · skip
          have hn : n4 = 1 := by rw [hn4, hn3, hn2, hn1, f1, f2, f3, f4]; rfl
          have z1 : (([100] : Txt) == [108]) = false := rfl
          have z2 : (([100] : Txt) == [114]) = false := rfl
          have z3 : (([100] : Txt) == [117]) = false := rfl
          simp (disch := omega) only [↓RU, RV, RH, ↓reduceIte, Nat.reduceEqDiff, reduceCtorEq, if_pos, w64, List.append_nil, ↓RS, RG, Nat.reduceAdd, Nat.reduceMul, Nat.reduceLeDiff, tybool, tyint, tystring, hn, hk, f1, f2, f3, z1, z2, z3, pStr, beq_self_eq_true, pEq_b, Option.map_some]
          refine CallR.pc (orderLeft_pc hs a b) rfl (.inl rfl) ?_
          simp (disch := omega) only [↓RU, RV, RH, ↓reduceIte, Nat.reduceEqDiff, reduceCtorEq, if_pos, w64, List.append_nil, ↓RS, RG, Nat.reduceAdd, Nat.reduceMul, Nat.reduceLeDiff, tybool, tyint, tystring, hn, hk, f1, f2, f3, z1, z2, z3, pStr, beq_self_eq_true, pEq_b, Option.map_some]
          refine CallR.pc (orderLeft_pc hs b a) rfl (.inl rfl) ?_
          simp (disch := omega) only [↓RU, RV, RH, ↓reduceIte, Nat.reduceEqDiff, reduceCtorEq, if_pos, w64, List.append_nil, ↓RS, RG, Nat.reduceAdd, Nat.reduceMul, Nat.reduceLeDiff, tybool, tyint, tystring, hn, hk, f1, f2, f3, z1, z2, z3, pStr, beq_self_eq_true, pEq_b, Option.map_some]
          refine CallR.pc (orderAbove_pc hs a b) rfl (.inl rfl) ?_
          simp (disch := omega) only [↓RU, RV, RH, ↓reduceIte, Nat.reduceEqDiff, reduceCtorEq, if_pos, w64, List.append_nil, ↓RS, RG, Nat.reduceAdd, Nat.reduceMul, Nat.reduceLeDiff, tybool, tyint, tystring, hn, hk, f1, f2, f3, z1, z2, z3, pStr, beq_self_eq_true, pEq_b, Option.map_some]
          refine hK _ _ ?_
          clear hK K
          refine W.ret ?_
          refine BodyQ.ret rfl ?_
          rfl

end Fw
end Go.Proofs.Ytmhcknpjgikgmaa

/-! Each two rooms are in just one order: the law FnKind answers true for all codes. No condition. -/
namespace Go.Proofs.Ytmhcknpjgikgmaa
open Go Go.ChangeShapes Go.WideShapes Go.ChangeAt Go.RowKit Fw

theorem Try.ownRj : ownKnob Try.prog.godebug = none := by kernel_rfl
theorem Try.laidOutRj : laidOutB Try.prog = true := by kernel_rfl

set_option maxRecDepth 100000 in
theorem rj_lifted (os : Os) (started : os.Started) (H : Type) (enc : TypeId × Value → H) :
    ReturnsInHanded {} Try.checked os 6 .any (Rows.fnKindSpec.pre6 enc Try.prog Try.f6 Rows.fnKindRow.domain false) (Rows.fnKindSpec.post enc Try.prog Try.f6 false true false false) := by
  refine returnsInHanded_of_change (C := Try.checked) Try.ownRj started (by kernel_rfl) Try.func6
    (ChangeSpec.witness6 (enc := enc) (C := Try.checked) false ⟨#[], #[.slice none 0 0], []⟩ 8 (by kernel_rfl) (by kernel_rfl) (by kernel_rfl) (by kernel_rfl)) ?_
  intro W base args ds gs before hval0 hW hcnd _
  have hval : ∀ (j : Nat) t v, Try.f6.params[j]? = some t → args[j]? = some v → Value.okWide Try.prog W .any base t v := hval0
  have hW' := hW
  obtain ⟨p, q, hA0, hV, rfl, hfz, hnd⟩ := hW
  have hA : DataW.TrodAll enc Try.prog W 0 (fun _ => true) true Try.f6.params.toList args.toList ds p := hA0
  rw [Try.params6] at hA hval
  obtain ⟨v0, d0, rfl, rfl, h0⟩ := trodAll_one hA
  obtain ⟨rfl, rfl⟩ := trodVars_none hV
  obtain ⟨l0, i0, b0⟩ := vi_bytes (hval 0 _ v0 rfl rfl) h0
  have hlt : ∀ x ∈ p, x.block < W.heap.size := fun x hx => hW'.lt x (by simp [hx])
  refine ((kind_law b0).run (fun b => b < W.heap.size) W #[v0] (fun _ h => h) rfl ?_).mono ?_
  · rintro (_ | i) p c hp hc
    · cases hp; cases hc; exact i0
    · simp at hp
  · rintro e W' ⟨cv, rfl, hB, hr⟩
    have hcv : cv = .bool true := by cases hr; rfl
    subst hcv
    have t0 := Below.trod Try.laidOutRj (by kernel_rfl) (of_decide_eq_true (by kernel_rfl)) h0 hB fun x hx => hlt x (by simp [hx])
    refine ⟨_, rfl, _, _, _, [], p, [], hW', ?_, ?_, ?_, hB.frame _, fun h => by cases h⟩
    · exact trodAll_mk1 (shut_bool Try.underlying4 true)
    · rw [Try.params6]; exact trodAll_mk1 t0
    · trivial
theorem rj_holds : Rows.FnKindSaid :=
  OpenClaim.holds_of_wide 6 Try.f6 rfl rfl rfl rfl rfl rfl rfl ⟨rfl, rfl, rfl, rfl, rfl⟩ rfl rfl rfl rfl rfl (by kernel_rfl) Try.func6 (by kernel_rfl)
    (of_decide_eq_true (by kernel_rfl)) (by unfold Func.isWrapper; first | (rw [if_pos (by decide +kernel)]; kernel_rfl) | (rw [if_neg (by decide +kernel)]; exact ⟨rfl, rfl⟩))
    (fun os started H enc _ => rj_lifted os started H enc)
end Go.Proofs.Ytmhcknpjgikgmaa
