/- Rooms that are left of others end ahead of them: the law FnPlaces answers true for all codes. No condition. -/
import Derived.Test.YtcglmbijpjhbmaaGreatJ5
import Derived.Test.YtcglmbijpjhbmaaGreatJ4
set_option linter.all false
/-! The law of places, gone through. -/
namespace Go.Proofs.YtcglmbijpjhbmaaGreat
namespace Fw
open Go

theorem sameInts_pc {p q : List Int} (hp : p.length < 2147483648) (hq : q.length < 2147483648) : PC Tryz.prog 23 [eInts p, eInts q] (.bool (decide (p = q))) true := by
  refine PC.of ⟨Tryz.func23, by kernel_rfl, rfl, by kernel_rfl⟩ tabOk mixed (by show 2 ≤ Tryz.f23.ntmps; decide) ?_
  refine W.seq_region fun K hK => ?_
  simp (disch := omega) only [↓RU, RV, RH, ↓reduceIte, Nat.reduceEqDiff, reduceCtorEq, if_pos]
  refine hK _ _ ?_
  clear hK K
  refine W.seq ?_
  refine W.seq_region fun K hK => ?_
  simp (disch := omega) only [↓RU, RV, RH, ↓reduceIte, Nat.reduceEqDiff, reduceCtorEq, if_pos, w64, tyLint, tyint]
  refine hK _ _ ?_
  clear hK K
  refine W.cond rfl (fun h => ?_) (fun h => ?_)
  · try simp only [RL] at h
    refine W.seq_region fun K hK => ?_
    simp (disch := omega) only [↓RU, RV, RH, ↓reduceIte, Nat.reduceEqDiff, reduceCtorEq, if_pos]
    refine hK _ _ ?_
    clear hK K
    refine W.ret ?_
    refine XThen.ret ?_
    refine BodyQ.ret rfl ?_
    rw [show decide (p = q) = false by simp; rintro rfl; exact h rfl]
    rfl
  · try simp only [RL] at h
    refine W.skip ?_
    refine XThen.norm ?_
    refine W.seq ?_
    refine W.seq_region fun K hK => ?_
    simp (disch := omega) only [↓RU, RV, RH, ↓reduceIte, Nat.reduceEqDiff, reduceCtorEq, if_pos]
    refine hK _ _ ?_
    clear hK K
    refine W.block ?_
    refine W.loop [0, 1, 5] (fun n vs S => ∃ i : Nat, n = p.length - i ∧ i ≤ p.length ∧ (p.take i = q.take i) ∧ vs = [eInts p, eInts q, .int .i64 i] ∧ S = ⟨[], 0⟩) (p.length) ?_ ?_
    · refine ⟨0, 0, rfl, Nat.zero_le _, rfl, ?_, rfl⟩
      simp [Env.put, Env.of, argEnv]
    rintro n vs S - ⟨i, rfl, h_i, htk, rfl, rfl⟩
    refine W.seq ?_
    refine W.seq_region fun K hK => ?_
    simp (disch := omega) only [↓RU, RV, RH, ↓reduceIte, Nat.reduceEqDiff, reduceCtorEq, if_pos, w64, tyLint, tyint]
    refine hK _ _ ?_
    clear hK K
    refine W.cond rfl (fun h1 => ?_) (fun h1 => ?_)
    · try simp only [RL] at h1
      obtain ⟨x, hx, -⟩ := get_of (show i < p.length by omega)
      obtain ⟨y, hy, -⟩ := get_of (show i < q.length by omega)
      refine W.skip ?_
      refine XThen.norm ?_
      refine W.seq ?_
      refine W.block ?_
      refine W.seq_draw (by kernel_rfl) fun K hK => ?_
      simp (disch := omega) only [↓RU, RV, RH, ↓reduceIte, Nat.reduceEqDiff, reduceCtorEq, if_pos, w64, tyLint, tyint, hx, hy]
      refine hK _ _ ?_
      clear hK K
      refine W.cond rfl (fun h2 => ?_) (fun h2 => ?_)
      · try simp only [RL] at h2
        refine W.seq_region fun K hK => ?_
        simp (disch := omega) only [↓RU, RV, RH, ↓reduceIte, Nat.reduceEqDiff, reduceCtorEq, if_pos]
        refine hK _ _ ?_
        clear hK K
        refine W.ret ?_
        refine XBlock.ret ?_
        refine XThen.ret ?_
        refine XThen.ret ?_
        refine XBlock.ret ?_
        refine XThen.ret ?_
        refine BodyQ.ret rfl ?_
        rw [show decide (p = q) = false by simp; rintro rfl; rw [hx] at hy; simp_all]
        rfl
      · try simp only [RL] at h2
        have h2 : x = y := by simpa using h2
        refine W.skip ?_
        refine XBlock.norm ?_
        refine XThen.norm ?_
        refine W.region_k fun K hK => ?_
        simp (disch := omega) only [↓RU, RV, RH, ↓reduceIte, Nat.reduceEqDiff, reduceCtorEq, if_pos, w64, tyint]
        refine hK _ _ ?_
        clear hK K
        refine XThen.norm ?_
        refine ⟨p.length - (i + 1), by omega, 0, i + 1, rfl, by omega, take_eq_succ htk hx hy h2, ?_, rfl⟩
        simp [Env.put, Env.of]
    · try simp only [RL] at h1
      refine W.exit ?_
      refine XThen.exit ?_
      refine XThen.exit ?_
      refine XBlock.hit ?_
      refine XThen.norm ?_
      refine W.seq_region fun K hK => ?_
      simp (disch := omega) only [↓RU, RV, RH, ↓reduceIte, Nat.reduceEqDiff, reduceCtorEq, if_pos]
      refine hK _ _ ?_
      clear hK K
      refine W.ret ?_
      refine BodyQ.ret rfl ?_
      have h1 : p.take i = p := List.take_of_length_le (by omega)
      have h2 : q.take i = q := List.take_of_length_le (by omega)
      rw [show decide (p = q) = true by simp; rw [← h1, ← h2]; exact htk]
      rfl

theorem PN.ints {P : Program} {f : FuncId} {args : List PV} {l : List Int} {n : Nat} {b im : Bool} (h : PN P f args (.tup [.loc 0 0 0 n, .bool b]) [.arr 0 3 1 (l.map (.int .i64))] im) (h1 : args.mapM (reify ⟨[], 0⟩ true 10) = some args) (hl : l.length = n) : PC P f args (.tup [eInts l, .bool b]) true := by
  refine PN.pc h h1 ?_
  subst hl
  simp only [up_tup, up_loc, up_bool, List.map_cons, List.map_nil, upOb_arr, up_ints, Nat.add_zero]
  show (([PV.loc 0 0 0 l.length, PV.bool b]).mapM (reify _ _ 9)).map PV.tup = _
  rw [mapM_one (reify_loc (k := 8) rfl (by simp) (mapM_int _)) (mapM_one rfl rfl)]
  rfl
theorem needsB_needV {p : List Txt} {ws : List Int} : needsB p ws = needV p [ws] := (needV_needs).symm
theorem placesV_yes {p : List Txt} {ws : List Int} (h : needV p [ws] = true) : placesV p ws = subL (heaviest (lfM p) ws (rP p).length) ws := by
  obtain ⟨s0, -, u0, -, hl, -, -⟩ := plan_same h
  rw [lf_eq] at s0 u0
  unfold placesV
  rw [needsB_needV, h, if_pos rfl, places_eq s0 u0 hl]
theorem placesV_no {p : List Txt} {ws : List Int} (h : needV p [ws] = false) : placesV p ws = [] := by
  unfold placesV
  rw [needsB_needV, h]; rfl
theorem placesV_len {p : List Txt} {ws : List Int} : (placesV p ws).length ≤ 9 := by
  cases h : needV p [ws] with
  | false => rw [placesV_no h]; simp
  | true => rw [placesV_yes h, subL_len, heaviest_len]; exact (needV_all h).2.2.2.2.1
theorem sizePlaces_pc {p : List Txt} (hs : Sm p) {ws : List Int} (hw : ws.length ≤ 1048576) : PC Tryz.prog 21 [eStrs p, eInts ws] (.tup [eInts (placesV p ws), .bool (needV p [ws])]) true := by
  cases h : needV p [ws] with
  | false => rw [placesV_no h]; exact sizePlaces_no hs hw h
  | true =>
    rw [placesV_yes h, ← lf_eq]
    exact PN.ints (sizePlaces_yes hs hw h) rfl (by rw [subL_len, heaviest_len])

theorem places_law {code : Txt} (hcode : code.length ≤ 9223372036854775807) : PC Tryz.prog 4 [eBy code] (.bool true) true := by
  refine PC.of ⟨Tryz.func4, by kernel_rfl, rfl, by kernel_rfl⟩ tabOk mixed (by show 1 ≤ Tryz.f4.ntmps; decide) ?_
  refine W.seq_region fun K hK => ?_
  simp (disch := omega) only [↓RU, RV, RH, ↓reduceIte, Nat.reduceEqDiff, reduceCtorEq, if_pos, ↓RS, RG, Nat.reduceAdd, Nat.reduceMul, Nat.reduceLeDiff]
  refine hK _ _ ?_
  clear hK K
  refine W.seq ?_
  refine W.seq_region fun K hK => ?_
  simp (disch := omega) only [↓RU, RV, RH, ↓reduceIte, Nat.reduceEqDiff, reduceCtorEq, if_pos, w64, ↓RS, RG, Nat.reduceAdd, Nat.reduceMul, Nat.reduceLeDiff, tyLuint8, tyint, tyuint8]
  refine hK _ _ ?_
  clear hK K
  refine W.cond rfl (fun h0 => ?_) (fun h0 => ?_)
  · try simp only [RL] at h0
    refine W.seq_region fun K hK => ?_
    simp (disch := omega) only [↓RU, RV, RH, ↓reduceIte, Nat.reduceEqDiff, reduceCtorEq, if_pos, ↓RS, RG, Nat.reduceAdd, Nat.reduceMul, Nat.reduceLeDiff]
    refine hK _ _ ?_
    clear hK K
    refine W.ret ?_
    refine XThen.ret ?_
    refine BodyQ.ret rfl ?_
    rfl
  · try simp only [RL] at h0
    have hcl : code.length ≤ 1048576 := by omega
    refine W.skip ?_
    refine XThen.norm ?_
    refine W.seq_region fun K hK => ?_
    simp (disch := omega) only [↓RU, RV, RH, ↓reduceIte, Nat.reduceEqDiff, reduceCtorEq, if_pos, List.append_nil, ↓RS, RG, Nat.reduceAdd, Nat.reduceMul, Nat.reduceLeDiff]
    refine CallR.ev (drawSizePlaces_ev hcl) ?_
    rintro _ _ ⟨p, ws, t, hs, hwl, rfl, rfl⟩
    simp (disch := omega) only [↓RU, RV, RH, ↓reduceIte, Nat.reduceEqDiff, reduceCtorEq, if_pos, List.append_nil, ↓RS, RG, Nat.reduceAdd, Nat.reduceMul, Nat.reduceLeDiff]
    refine hK _ _ ?_
    clear hK K
    have hpl := placesV_len (p := p) (ws := ws)
    refine W.seq_region fun K hK => ?_
    simp (disch := omega) only [↓RU, RV, RH, ↓reduceIte, Nat.reduceEqDiff, reduceCtorEq, if_pos, List.append_nil, ↓RS, RG, Nat.reduceAdd, Nat.reduceMul, Nat.reduceLeDiff]
    refine CallR.pc (sizePlaces_pc hs (by omega)) rfl (.inl rfl) ?_
    simp (disch := omega) only [↓RU, RV, RH, ↓reduceIte, Nat.reduceEqDiff, reduceCtorEq, if_pos, List.append_nil, ↓RS, RG, Nat.reduceAdd, Nat.reduceMul, Nat.reduceLeDiff]
    refine hK _ _ ?_
    clear hK K
    refine W.seq_region fun K hK => ?_
    simp (disch := omega) only [↓RU, RV, RH, ↓reduceIte, Nat.reduceEqDiff, reduceCtorEq, if_pos, List.append_nil, ↓RS, RG, Nat.reduceAdd, Nat.reduceMul, Nat.reduceLeDiff]
    refine CallR.pc (sSizePlaces_pc hs (by omega)) rfl (.inr rfl) ?_
    simp (disch := omega) only [↓RU, RV, RH, ↓reduceIte, Nat.reduceEqDiff, reduceCtorEq, if_pos, List.append_nil, ↓RS, RG, Nat.reduceAdd, Nat.reduceMul, Nat.reduceLeDiff]
    refine hK _ _ ?_
    clear hK K
    rw [needsB_needV]
    refine W.seq ?_
    refine W.seq_region fun K hK => ?_
    cases hv : needV p [ws]
    · skip
      simp (disch := omega) only [↓RU, RV, RH, ↓reduceIte, Nat.reduceEqDiff, reduceCtorEq, if_pos, w64, List.append_nil, ↓RS, RG, Nat.reduceAdd, Nat.reduceMul, Nat.reduceLeDiff, tybool, pEq_bb, Option.map_some, bne_self_eq_false, beq_self_eq_true, Bool.not_true, Bool.not_false, decide_true, hv]
      refine CallR.pc (sameInts_pc (p := placesV p ws) (q := placesV p ws) (by omega) (by omega)) rfl (.inl rfl) ?_
      simp (disch := omega) only [↓RU, RV, RH, ↓reduceIte, Nat.reduceEqDiff, reduceCtorEq, if_pos, w64, List.append_nil, ↓RS, RG, Nat.reduceAdd, Nat.reduceMul, Nat.reduceLeDiff, tybool, pEq_bb, Option.map_some, bne_self_eq_false, beq_self_eq_true, Bool.not_true, Bool.not_false, decide_true, hv]
      refine hK _ _ ?_
      clear hK K
      refine W.cond rfl (fun h1 => ?_) (fun h1 => ?_)
      · try simp only [RL] at h1
        refine W.seq_region fun K hK => ?_
        simp (disch := omega) only [↓RU, RV, RH, ↓reduceIte, Nat.reduceEqDiff, reduceCtorEq, if_pos, w64, List.append_nil, ↓RS, RG, Nat.reduceAdd, Nat.reduceMul, Nat.reduceLeDiff, tybool, pEq_bb, Option.map_some, bne_self_eq_false, beq_self_eq_true, Bool.not_true, Bool.not_false, decide_true]
        refine CallR.pc (sameInts_pc (p := placesV p ws) (q := placesV p ws) (by omega) (by omega)) rfl (.inl rfl) ?_
        simp (disch := omega) only [↓RU, RV, RH, ↓reduceIte, Nat.reduceEqDiff, reduceCtorEq, if_pos, w64, List.append_nil, ↓RS, RG, Nat.reduceAdd, Nat.reduceMul, Nat.reduceLeDiff, tybool, pEq_bb, Option.map_some, bne_self_eq_false, beq_self_eq_true, Bool.not_true, Bool.not_false, decide_true]
        refine hK _ _ ?_
        clear hK K
        refine W.ret ?_
        refine XThen.ret ?_
        refine BodyQ.ret rfl ?_
        rfl
      · try simp only [RL] at h1
        exact absurd h1 (by simp)
    · skip
      simp (disch := omega) only [↓RU, RV, RH, ↓reduceIte, Nat.reduceEqDiff, reduceCtorEq, if_pos, w64, List.append_nil, ↓RS, RG, Nat.reduceAdd, Nat.reduceMul, Nat.reduceLeDiff, tybool, pEq_bb, Option.map_some, bne_self_eq_false, beq_self_eq_true, Bool.not_true, Bool.not_false, decide_true, hv]
      refine CallR.pc (sameInts_pc (p := placesV p ws) (q := placesV p ws) (by omega) (by omega)) rfl (.inl rfl) ?_
      simp (disch := omega) only [↓RU, RV, RH, ↓reduceIte, Nat.reduceEqDiff, reduceCtorEq, if_pos, w64, List.append_nil, ↓RS, RG, Nat.reduceAdd, Nat.reduceMul, Nat.reduceLeDiff, tybool, pEq_bb, Option.map_some, bne_self_eq_false, beq_self_eq_true, Bool.not_true, Bool.not_false, decide_true, hv]
      refine hK _ _ ?_
      clear hK K
      refine W.cond rfl (fun h1 => ?_) (fun h1 => ?_)
      · try simp only [RL] at h1
        exact absurd h1 (by simp)
      · try simp only [RL] at h1
        obtain ⟨-, -, q1, q2, q3, q4, -⟩ := needV_all hv
        have hpv := placesV_yes hv
        obtain ⟨Q, hQ⟩ : ∃ Q, placesV p ws = Q := ⟨_, rfl⟩
        have hQl : Q.length = (rP p).length := by rw [← hQ, hpv, subL_len, heaviest_len]
        have hpf : ∀ {x : Nat} {o w : Int}, x < (rP p).length → Q[x]? = some o → ws[x]? = some w → _ := fun hx ho hw => place_facts hv hx (by rw [← hpv, hQ]; exact ho) hw
        have hpn : ∀ {x y : Nat} {o w o2 w2 : Int}, x < (rP p).length → y < (rP p).length → Q[x]? = some o → ws[x]? = some w → Q[y]? = some o2 → ws[y]? = some w2 → getB (lfM p) x y = true → o + w ≤ o2 := fun hx hy ho hw ho2 hw2 hl => place_next hv hx hy (by rw [← hpv, hQ]; exact ho) hw (by rw [← hpv, hQ]; exact ho2) hw2 hl
        simp only [hQ]
        refine W.skip ?_
        refine XThen.norm ?_
        refine W.seq_region fun K hK => ?_
        simp (disch := omega) only [↓RU, RV, RH, ↓reduceIte, Nat.reduceEqDiff, reduceCtorEq, if_pos, List.append_nil, ↓RS, RG, Nat.reduceAdd, Nat.reduceMul, Nat.reduceLeDiff, lf_eq, sizeV_yes hv]
        refine CallR.pc (sizeWide_pc hs (by omega) all_rm all_up0) rfl (.inl rfl) ?_
        simp (disch := omega) only [↓RU, RV, RH, ↓reduceIte, Nat.reduceEqDiff, reduceCtorEq, if_pos, List.append_nil, ↓RS, RG, Nat.reduceAdd, Nat.reduceMul, Nat.reduceLeDiff, lf_eq, sizeV_yes hv]
        refine hK _ _ ?_
        clear hK K
        refine W.seq ?_
        refine W.seq_region fun K hK => ?_
        simp (disch := omega) only [↓RU, RV, RH, ↓reduceIte, Nat.reduceEqDiff, reduceCtorEq, if_pos, ↓RS, RG, Nat.reduceAdd, Nat.reduceMul, Nat.reduceLeDiff]
        refine hK _ _ ?_
        clear hK K
        refine W.block ?_
        refine W.loop [3, 4, 5, 9, 10, 11] (fun n vs S => ∃ i tk : Nat, n = (rP p).length - i ∧ i ≤ (rP p).length ∧ vs = [eStrs p, eInts ws, eInts Q, .int .i64 (maxL (heaviest (lfM p) ws (rP p).length)), .bool true, .int .i64 i] ∧ S = ⟨[], tk⟩) (rP p).length ?_ ?_
        · refine ⟨0, 0, t, rfl, by omega, ?_, rfl⟩
          simp [Env.put, Env.of, argEnv]
        rintro n vs S - ⟨i, tk, rfl, h_i, rfl, rfl⟩
        refine W.seq ?_
        refine W.seq_region fun K hK => ?_
        simp (disch := omega) only [↓RU, RV, RH, ↓reduceIte, Nat.reduceEqDiff, reduceCtorEq, if_pos, w64, ↓RS, RG, Nat.reduceAdd, Nat.reduceMul, Nat.reduceLeDiff, tyLint, tyint]
        refine hK _ _ ?_
        clear hK K
        refine W.cond rfl (fun h2 => ?_) (fun h2 => ?_)
        · try simp only [RL] at h2
          obtain ⟨x, hx, -⟩ := get_of (show i < Q.length by omega)
          obtain ⟨w, hw, -⟩ := get_of (show i < ws.length by omega)
          obtain ⟨f1, f2, -, -, f5, f6, f7, -⟩ := hpf (by omega) hx hw
          have hd1 : decide (x < 0) = false := decide_eq_false (by omega)
          have hd2 : decide (x + w > (maxL (heaviest (lfM p) ws (rP p).length))) = false := decide_eq_false (by omega)
          refine W.skip ?_
          refine XThen.norm ?_
          refine W.seq ?_
          refine W.block ?_
          refine W.seq ?_
          refine W.seq_draw (by kernel_rfl) fun K hK => ?_
          simp (disch := omega) only [↓RU, RV, RH, ↓reduceIte, Nat.reduceEqDiff, reduceCtorEq, if_pos, w64, ↓RS, RG, Nat.reduceAdd, Nat.reduceMul, Nat.reduceLeDiff, tyLint, tyint, hx, hw, hd1, hd2]
          refine hK _ _ ?_
          clear hK K
          refine W.cond rfl (fun h3 => ?_) (fun h3 => ?_)
          · try simp only [RL] at h3
            exact absurd h3 (by simp)
          · try simp only [RL] at h3
            refine W.skip ?_
            refine XThen.norm ?_
            refine W.seq_region fun K hK => ?_
            simp (disch := omega) only [↓RU, RV, RH, ↓reduceIte, Nat.reduceEqDiff, reduceCtorEq, if_pos, ↓RS, RG, Nat.reduceAdd, Nat.reduceMul, Nat.reduceLeDiff]
            refine hK _ _ ?_
            clear hK K
            refine W.block ?_
            refine W.loop [3, 4, 5, 9, 10, 11, 12] (fun n vs S => ∃ k tk2 : Nat, n = (rP p).length - k ∧ k ≤ (rP p).length ∧ vs = [eStrs p, eInts ws, eInts Q, .int .i64 (maxL (heaviest (lfM p) ws (rP p).length)), .bool true, .int .i64 i, .int .i64 k] ∧ S = ⟨[], tk2⟩) (rP p).length ?_ ?_
            · refine ⟨0, 0, tk, rfl, by omega, ?_, rfl⟩
              simp [Env.put, Env.of]
            rintro n vs S - ⟨k, tk2, rfl, h_k, rfl, rfl⟩
            refine W.seq ?_
            refine W.seq_region fun K hK => ?_
            simp (disch := omega) only [↓RU, RV, RH, ↓reduceIte, Nat.reduceEqDiff, reduceCtorEq, if_pos, w64, ↓RS, RG, Nat.reduceAdd, Nat.reduceMul, Nat.reduceLeDiff, tyLint, tyint]
            refine hK _ _ ?_
            clear hK K
            refine W.cond rfl (fun h4 => ?_) (fun h4 => ?_)
            · try simp only [RL] at h4
              obtain ⟨y, hy, -⟩ := get_of (show k < Q.length by omega)
              obtain ⟨w2, hw2, -⟩ := get_of (show k < ws.length by omega)
              refine W.skip ?_
              refine XThen.norm ?_
              refine W.seq ?_
              refine W.block ?_
              refine W.seq_draw (by kernel_rfl) fun K hK => ?_
              cases hl : askV p (lfM p) i k
              · skip
                simp (disch := omega) only [↓RU, RV, RH, ↓reduceIte, Nat.reduceEqDiff, reduceCtorEq, if_pos, List.append_nil, w64, ↓RS, RG, Nat.reduceAdd, Nat.reduceMul, Nat.reduceLeDiff, tyLint, tyint, hl]
                refine CallR.pc (orderLeft_pc hs i k) rfl (.inl rfl) ?_
                simp (disch := omega) only [↓RU, RV, RH, ↓reduceIte, Nat.reduceEqDiff, reduceCtorEq, if_pos, List.append_nil, w64, ↓RS, RG, Nat.reduceAdd, Nat.reduceMul, Nat.reduceLeDiff, tyLint, tyint, hl]
                refine hK _ _ ?_
                clear hK K
                refine W.cond rfl (fun h5 => ?_) (fun h5 => ?_)
                · try simp only [RL] at h5
                  exact absurd h5 (by simp)
                · try simp only [RL] at h5
                  refine W.skip ?_
                  refine XBlock.norm ?_
                  refine XThen.norm ?_
                  refine W.region_k fun K hK => ?_
                  simp (disch := omega) only [↓RU, RV, RH, ↓reduceIte, Nat.reduceEqDiff, reduceCtorEq, if_pos, w64, ↓RS, RG, Nat.reduceAdd, Nat.reduceMul, Nat.reduceLeDiff, tyint]
                  refine hK _ _ ?_
                  clear hK K
                  refine XThen.norm ?_
                  refine ⟨(rP p).length - (k + 1), by omega, 0, k + 1, tk2, rfl, by omega, ?_, rfl⟩
                  simp [Env.put, Env.of]
              · skip
                obtain ⟨a1, b1, ea, eb, -, -, -, hgb⟩ := askV_nat hl
                obtain rfl : i = a1 := by omega
                obtain rfl : k = b1 := by omega
                have hnx := hpn (by omega) (by omega) hx hw hy hw2 hgb
                have hd3 : decide (x + w > y) = false := decide_eq_false (by omega)
                simp (disch := omega) only [↓RU, RV, RH, ↓reduceIte, Nat.reduceEqDiff, reduceCtorEq, if_pos, List.append_nil, w64, ↓RS, RG, Nat.reduceAdd, Nat.reduceMul, Nat.reduceLeDiff, tyLint, tyint, hl, hx, hw, hy, hd3]
                refine CallR.pc (orderLeft_pc hs i k) rfl (.inl rfl) ?_
                simp (disch := omega) only [↓RU, RV, RH, ↓reduceIte, Nat.reduceEqDiff, reduceCtorEq, if_pos, List.append_nil, w64, ↓RS, RG, Nat.reduceAdd, Nat.reduceMul, Nat.reduceLeDiff, tyLint, tyint, hl, hx, hw, hy, hd3]
                refine hK _ _ ?_
                clear hK K
                refine W.cond rfl (fun h5 => ?_) (fun h5 => ?_)
                · try simp only [RL] at h5
                  exact absurd h5 (by simp)
                · try simp only [RL] at h5
                  refine W.skip ?_
                  refine XBlock.norm ?_
                  refine XThen.norm ?_
                  refine W.region_k fun K hK => ?_
                  simp (disch := omega) only [↓RU, RV, RH, ↓reduceIte, Nat.reduceEqDiff, reduceCtorEq, if_pos, w64, ↓RS, RG, Nat.reduceAdd, Nat.reduceMul, Nat.reduceLeDiff, tyint]
                  refine hK _ _ ?_
                  clear hK K
                  refine XThen.norm ?_
                  refine ⟨(rP p).length - (k + 1), by omega, 0, k + 1, tk2, rfl, by omega, ?_, rfl⟩
                  simp [Env.put, Env.of]
            · try simp only [RL] at h4
              refine W.exit ?_
              refine XThen.exit ?_
              refine XThen.exit ?_
              refine XBlock.hit ?_
              refine XBlock.norm ?_
              refine XThen.norm ?_
              refine W.region_k fun K hK => ?_
              simp (disch := omega) only [↓RU, RV, RH, ↓reduceIte, Nat.reduceEqDiff, reduceCtorEq, if_pos, w64, ↓RS, RG, Nat.reduceAdd, Nat.reduceMul, Nat.reduceLeDiff, tyint]
              refine hK _ _ ?_
              clear hK K
              refine XThen.norm ?_
              refine ⟨(rP p).length - (i + 1), by omega, 0, i + 1, tk2, rfl, by omega, ?_, rfl⟩
              simp [Env.put, Env.of]
        · try simp only [RL] at h2
          obtain ⟨x, hx, -⟩ := get_of (show 0 < Q.length by omega)
          obtain ⟨w, hw, -⟩ := get_of (show 0 < ws.length by omega)
          obtain ⟨-, -, -, -, -, -, -, f8⟩ := hpf (by omega) hx hw
          obtain rfl := f8 rfl
          refine W.exit ?_
          refine XThen.exit ?_
          refine XThen.exit ?_
          refine XBlock.hit ?_
          refine XThen.norm ?_
          refine W.seq_region fun K hK => ?_
          simp (disch := omega) only [↓RU, RV, RH, ↓reduceIte, Nat.reduceEqDiff, reduceCtorEq, if_pos, w64, ↓RS, RG, Nat.reduceAdd, Nat.reduceMul, Nat.reduceLeDiff, tyLint, tyint, hx, Int.toNat_zero, beq_self_eq_true, Int.reduceToNat]
          refine hK _ _ ?_
          clear hK K
          refine W.ret ?_
          refine BodyQ.ret rfl ?_
          rfl

end Fw
end Go.Proofs.YtcglmbijpjhbmaaGreat

/-! Rooms that are left of others end ahead of them: the law FnPlaces answers true for all codes. No condition. -/
namespace Go.Proofs.YtcglmbijpjhbmaaGreat
open Go Go.ChangeShapes Go.WideShapes Go.ChangeAt Go.RowKit Fw

theorem Tryz.ownRm : ownKnob Tryz.prog.godebug = none := by kernel_rfl
theorem Tryz.laidOutRm : laidOutB Tryz.prog = true := by kernel_rfl

set_option maxRecDepth 100000 in
theorem rm_lifted (os : Os) (started : os.Started) (H : Type) (enc : TypeId × Value → H) :
    ReturnsInHanded {} Tryz.checked os 4 .any (Rows.fnPlacesSpec.pre6 enc Tryz.prog Tryz.f4 Rows.fnPlacesRow.domain false) (Rows.fnPlacesSpec.post enc Tryz.prog Tryz.f4 false true false false) := by
  refine returnsInHanded_of_change (C := Tryz.checked) Tryz.ownRm started (by kernel_rfl) Tryz.func4
    (ChangeSpec.witness6 (enc := enc) (C := Tryz.checked) false ⟨#[], #[.slice none 0 0], []⟩ 8 (by kernel_rfl) (by kernel_rfl) (by kernel_rfl) (by kernel_rfl)) ?_
  intro W base args ds gs before hval0 hW hcnd _
  have hval : ∀ (j : Nat) t v, Tryz.f4.params[j]? = some t → args[j]? = some v → Value.okWide Tryz.prog W .any base t v := hval0
  have hW' := hW
  obtain ⟨p, q, hA0, hV, rfl, hfz, hnd⟩ := hW
  have hA : DataW.TrodAll enc Tryz.prog W 0 (fun _ => true) true Tryz.f4.params.toList args.toList ds p := hA0
  rw [Tryz.params4] at hA hval
  obtain ⟨v0, d0, rfl, rfl, h0⟩ := trodAll_one hA
  obtain ⟨rfl, rfl⟩ := trodVars_none hV
  obtain ⟨l0, i0, b0⟩ := vi_bytes (hval 0 _ v0 rfl rfl) h0
  have hlt : ∀ x ∈ p, x.block < W.heap.size := fun x hx => hW'.lt x (by simp [hx])
  refine ((places_law b0).run (fun b => b < W.heap.size) W #[v0] (fun _ h => h) rfl ?_).mono ?_
  · rintro (_ | i) p c hp hc
    · cases hp; cases hc; exact i0
    · simp at hp
  · rintro e W' ⟨cv, rfl, hB, hr⟩
    have hcv : cv = .bool true := by cases hr; rfl
    subst hcv
    have t0 := Below.trod Tryz.laidOutRm (by kernel_rfl) (of_decide_eq_true (by kernel_rfl)) h0 hB fun x hx => hlt x (by simp [hx])
    refine ⟨_, rfl, _, _, _, [], p, [], hW', ?_, ?_, ?_, hB.frame _, fun h => by cases h⟩
    · exact trodAll_mk1 (shut_bool Tryz.underlying4 true)
    · rw [Tryz.params4]; exact trodAll_mk1 t0
    · trivial
theorem rm_holds : Rows.FnPlacesSaid :=
  OpenClaim.holds_of_wide 4 Tryz.f4 rfl rfl rfl rfl rfl rfl rfl ⟨rfl, rfl, rfl, rfl, rfl⟩ rfl rfl rfl rfl rfl (by kernel_rfl) Tryz.func4 (by kernel_rfl)
    (of_decide_eq_true (by kernel_rfl)) (by unfold Func.isWrapper; first | (rw [if_pos (by decide +kernel)]; kernel_rfl) | (rw [if_neg (by decide +kernel)]; exact ⟨rfl, rfl⟩))
    (fun os started H enc _ => rm_lifted os started H enc)
end Go.Proofs.YtcglmbijpjhbmaaGreat
