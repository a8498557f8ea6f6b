/- Some rooms have no slack, all the way: the law FnSlack answers true for all codes. No condition. -/
import Derived.Test.YtcglmbijpjhbmaaGreatJ5
import Derived.Test.YtcglmbijpjhbmaaGreatJ4
set_option linter.all false
/-! Places and slack by the specification, gone through. -/
namespace Go.Proofs.YtcglmbijpjhbmaaGreat
namespace Fw
open Go

theorem l7Places_pc {p : List Txt} (hs : Sm p) (hg : gridB p = true) (h9 : l1Rooms p ≤ 9) {needs : List Int} (hn : needs.length = (l1Rooms p).toNat) (hok : NeedOk needs) (kind : Int) : PC Tryz.prog 69 [eStrs p, eInts needs, .int .i64 kind] (eInts (places (allS p kind) needs)) true := by
  have hl : (places (allS p kind) needs).length = needs.length := (places_bnd (sets := allS p kind) hok rfl (by omega)).1
  refine PN.pc (l7Places_pn hs hg h9 hn hok kind) rfl ?_
  simp only [List.map_cons, List.map_nil, upOb_arr, up_loc, up_ints, Nat.add_zero]
  rw [← hl]
  exact reify_loc rfl (by simp) (mapM_int _)
def placesV (p : List Txt) (needs : List Int) : List Int := if needsB p needs then places (allS p 0) needs else []
def slackV (p : List Txt) (needs : List Int) : List Int := if needsB p needs then slackS (allS p 0) needs else []
theorem slackG_at {ms : List Nat} {ws bh pl : List Int} {a : Nat} {x y z : Int} (hb : behind ms ws = bh) (hp : places ms ws = pl) (hx : ws[a]? = some x) (hy : bh[a]? = some y) (hz : pl[a]? = some z) : slackG ms ws a = least ms ws - y - x - z := by
  unfold slackG; rw [hb, hp, getI_is hx, getI_is hy, getI_is hz]

theorem sSizePlaces_pc {p : List Txt} (hs : Sm p) {needs : List Int} (hw : needs.length ≤ 1048576) : PC Tryz.prog 22 [eStrs p, eInts needs] (.tup [eInts (placesV p needs), .bool (needsB p needs)]) false := by
  refine PC.of ⟨Tryz.func22, by kernel_rfl, rfl, by kernel_rfl⟩ tabOk mixed (by show 2 ≤ Tryz.f22.ntmps; decide) ?_
  refine W.seq_region fun K hK => ?_
  simp (disch := omega) only [↓RU, RV, RH, ↓reduceIte, Nat.reduceEqDiff, reduceCtorEq, if_pos, ↓RS, RG, Nat.reduceAdd, Nat.reduceMul, Nat.reduceLeDiff]
  refine hK _ _ ?_
  clear hK K
  refine W.seq ?_
  refine W.seq_region fun K hK => ?_
  simp (disch := omega) only [↓RU, RV, RH, ↓reduceIte, Nat.reduceEqDiff, reduceCtorEq, if_pos, List.append_nil, ↓RS, RG, Nat.reduceAdd, Nat.reduceMul, Nat.reduceLeDiff]
  refine CallR.pc (l7Needs_pc hs hw) rfl (.inl rfl) ?_
  simp (disch := omega) only [↓RU, RV, RH, ↓reduceIte, Nat.reduceEqDiff, reduceCtorEq, if_pos, List.append_nil, ↓RS, RG, Nat.reduceAdd, Nat.reduceMul, Nat.reduceLeDiff]
  refine hK _ _ ?_
  clear hK K
  refine W.cond rfl (fun h0 => ?_) (fun h0 => ?_)
  · try simp only [RL] at h0
    have hg : needsB p needs = false := by simpa using h0
    refine W.seq_region fun K hK => ?_
    simp (disch := omega) only [↓RU, RV, RH, ↓reduceIte, Nat.reduceEqDiff, reduceCtorEq, if_pos, ↓RS, RG, Nat.reduceAdd, Nat.reduceMul, Nat.reduceLeDiff, tyLint, tyint]
    refine hK _ _ ?_
    clear hK K
    refine W.ret ?_
    refine XThen.ret ?_
    refine BodyQ.ret rfl ?_
    rw [show placesV p needs = [] by simp [placesV, hg], hg]
    rfl
  · try simp only [RL] at h0
    have hg : needsB p needs = true := by simpa using h0
    obtain ⟨k1, k2, k3, k4, k5, k6⟩ := needsB_ok hg
    refine W.skip ?_
    refine XThen.norm ?_
    refine W.seq_region fun K hK => ?_
    simp (disch := omega) only [↓RU, RV, RH, ↓reduceIte, Nat.reduceEqDiff, reduceCtorEq, if_pos, List.append_nil, ↓RS, RG, Nat.reduceAdd, Nat.reduceMul, Nat.reduceLeDiff]
    refine CallR.pc (l7Places_pc hs k2 k3 k4 k6 0) rfl (.inl rfl) ?_
    simp (disch := omega) only [↓RU, RV, RH, ↓reduceIte, Nat.reduceEqDiff, reduceCtorEq, if_pos, List.append_nil, ↓RS, RG, Nat.reduceAdd, Nat.reduceMul, Nat.reduceLeDiff]
    refine hK _ _ ?_
    clear hK K
    refine W.ret ?_
    refine BodyQ.ret rfl ?_
    rw [show placesV p needs = places (allS p 0) needs by simp [placesV, hg], hg]
    rfl

theorem sSizeSlack_pc {p : List Txt} (hs : Sm p) {needs : List Int} (hw : needs.length ≤ 1048576) : PC Tryz.prog 27 [eStrs p, eInts needs] (.tup [eInts (slackV p needs), .bool (needsB p needs)]) false := by
  refine PC.of ⟨Tryz.func27, by kernel_rfl, rfl, by kernel_rfl⟩ tabOk mixed (by show 2 ≤ Tryz.f27.ntmps; decide) ?_
  refine W.seq_region fun K hK => ?_
  simp (disch := omega) only [↓RU, RV, RH, ↓reduceIte, Nat.reduceEqDiff, reduceCtorEq, if_pos, ↓RS, RG, Nat.reduceAdd, Nat.reduceMul, Nat.reduceLeDiff]
  refine hK _ _ ?_
  clear hK K
  refine W.seq_region fun K hK => ?_
  simp (disch := omega) only [↓RU, RV, RH, ↓reduceIte, Nat.reduceEqDiff, reduceCtorEq, if_pos, ↓RS, RG, Nat.reduceAdd, Nat.reduceMul, Nat.reduceLeDiff, tyLint, tyint]
  refine hK _ _ ?_
  clear hK K
  refine W.seq ?_
  refine W.seq_region fun K hK => ?_
  simp (disch := omega) only [↓RU, RV, RH, ↓reduceIte, Nat.reduceEqDiff, reduceCtorEq, if_pos, List.append_nil, ↓RS, RG, Nat.reduceAdd, Nat.reduceMul, Nat.reduceLeDiff]
  refine CallR.pc (l7Needs_pc hs hw) rfl (.inl rfl) ?_
  simp (disch := omega) only [↓RU, RV, RH, ↓reduceIte, Nat.reduceEqDiff, reduceCtorEq, if_pos, List.append_nil, ↓RS, RG, Nat.reduceAdd, Nat.reduceMul, Nat.reduceLeDiff]
  refine hK _ _ ?_
  clear hK K
  refine W.cond rfl (fun h0 => ?_) (fun h0 => ?_)
  · try simp only [RL] at h0
    have hg : needsB p needs = false := by simpa using h0
    refine W.seq_region fun K hK => ?_
    simp (disch := omega) only [↓RU, RV, RH, ↓reduceIte, Nat.reduceEqDiff, reduceCtorEq, if_pos, ↓RS, RG, Nat.reduceAdd, Nat.reduceMul, Nat.reduceLeDiff]
    refine hK _ _ ?_
    clear hK K
    refine W.ret ?_
    refine XThen.ret ?_
    refine BodyQ.ret rfl ?_
    rw [show slackV p needs = [] by simp [slackV, hg], hg]
    rfl
  · try simp only [RL] at h0
    have hg : needsB p needs = true := by simpa using h0
    obtain ⟨k1, k2, k3, k4, k5, k6⟩ := needsB_ok hg
    have hrb := l1Rooms_bound p
    have hms := allS_msk k2 k3 0
    rw [← k4] at hms
    obtain ⟨nr, hnr⟩ : ∃ nr : Nat, needs.length = nr := ⟨_, rfl⟩
    have hn9 : nr ≤ 9 := by omega
    rw [hnr] at hms
    have hml := hms.1
    have hlb := least_bnd (sets := (allS p 0)) k6 k5
    have hpb := places_bnd (sets := (allS p 0)) k6 hnr hn9
    refine W.skip ?_
    refine XThen.norm ?_
    refine W.seq_region fun K hK => ?_
    simp (disch := omega) only [↓RU, RV, RH, ↓reduceIte, Nat.reduceEqDiff, reduceCtorEq, if_pos, List.append_nil, ↓RS, RG, Nat.reduceAdd, Nat.reduceMul, Nat.reduceLeDiff]
    refine CallR.pc (l5All_pc hs k2 k3 0) rfl (.inl rfl) ?_
    simp (disch := omega) only [↓RU, RV, RH, ↓reduceIte, Nat.reduceEqDiff, reduceCtorEq, if_pos, List.append_nil, ↓RS, RG, Nat.reduceAdd, Nat.reduceMul, Nat.reduceLeDiff]
    refine hK _ _ ?_
    clear hK K
    refine W.seq_region fun K hK => ?_
    simp (disch := omega) only [↓RU, RV, RH, ↓reduceIte, Nat.reduceEqDiff, reduceCtorEq, if_pos, List.append_nil, ↓RS, RG, Nat.reduceAdd, Nat.reduceMul, Nat.reduceLeDiff]
    refine CallR.pc (l7Places_pc hs k2 k3 k4 k6 0) rfl (.inl rfl) ?_
    simp (disch := omega) only [↓RU, RV, RH, ↓reduceIte, Nat.reduceEqDiff, reduceCtorEq, if_pos, List.append_nil, ↓RS, RG, Nat.reduceAdd, Nat.reduceMul, Nat.reduceLeDiff]
    refine hK _ _ ?_
    clear hK K
    refine W.seq_region fun K hK => ?_
    simp (disch := omega) only [↓RU, RV, RH, ↓reduceIte, Nat.reduceEqDiff, reduceCtorEq, if_pos, List.append_nil, ↓RS, RG, Nat.reduceAdd, Nat.reduceMul, Nat.reduceLeDiff]
    refine CallR.pc (l7Least_pc hs k2 k3 k4 k6 0) rfl (.inl rfl) ?_
    simp (disch := omega) only [↓RU, RV, RH, ↓reduceIte, Nat.reduceEqDiff, reduceCtorEq, if_pos, List.append_nil, ↓RS, RG, Nat.reduceAdd, Nat.reduceMul, Nat.reduceLeDiff]
    refine hK _ _ ?_
    clear hK K
    refine W.seq_region fun K hK => ?_
    simp (disch := omega) only [↓RU, RV, RH, ↓reduceIte, Nat.reduceEqDiff, reduceCtorEq, if_pos, ↓RS, RG, Nat.reduceAdd, Nat.reduceMul, Nat.reduceLeDiff, tyLint, tyint, hnr, repz_int, ile_true]
    refine hK _ _ ?_
    clear hK K
    refine W.seq ?_
    refine W.seq_region fun K hK => ?_
    simp (disch := omega) only [↓RU, RV, RH, ↓reduceIte, Nat.reduceEqDiff, reduceCtorEq, if_pos, ↓RS, RG, Nat.reduceAdd, Nat.reduceMul, Nat.reduceLeDiff]
    refine hK _ _ ?_
    clear hK K
    refine W.block ?_
    refine W.loop [0, 1, 6, 7, 8, 9, 10, 11] (fun n vs S => ∃ k : Nat, n = nr - k ∧ k ≤ nr ∧ vs = [eStrs p, eInts needs, .loc 0 0 0 0, eNats (allS p 0), eInts (places (allS p 0) needs), .int .i64 (least (allS p 0) needs), .loc 1 1 0 nr, .int .i64 k] ∧ S = ⟨[.arr 0 3 1 [], .arr 1 3 1 (((List.range k).foldl (bhN (allS p 0) needs) (List.replicate nr 0)).map (.int .i64))], 2⟩) (nr) ?_ ?_
    · refine ⟨2, 0, rfl, Nat.zero_le _, ?_, by simp [take_eq]⟩
      simp [Env.put, Env.of, argEnv]
    rintro n vs S - ⟨k, rfl, h_k, rfl, rfl⟩
    refine W.seq ?_
    refine W.seq_region fun K hK => ?_
    simp (disch := omega) only [↓RU, RV, RH, ↓reduceIte, Nat.reduceEqDiff, reduceCtorEq, if_pos, w64, ↓RS, RG, Nat.reduceAdd, Nat.reduceMul, Nat.reduceLeDiff, tyLint, tyint]
    refine hK _ _ ?_
    clear hK K
    refine W.cond rfl (fun h => ?_) (fun h => ?_)
    · try simp only [RL] at h
      have hX := behind_to (sets := (allS p 0)) k6 hnr hn9 k (by omega)
      generalize hXe : (List.range k).foldl (bhN (allS p 0) needs) (List.replicate nr 0) = X at hX
      refine W.skip ?_
      refine XThen.norm ?_
      refine W.seq ?_
      refine W.block ?_
      refine W.seq_region fun K hK => ?_
      simp (disch := omega) only [↓RU, RV, RH, ↓reduceIte, Nat.reduceEqDiff, reduceCtorEq, if_pos, ↓RS, RG, Nat.reduceAdd, Nat.reduceMul, Nat.reduceLeDiff]
      refine hK _ _ ?_
      clear hK K
      refine W.block ?_
      refine W.loop [0, 1, 6, 7, 8, 9, 10, 11, 12] (fun n vs S => ∃ a : Nat, n = nr - a ∧ a ≤ nr ∧ vs = [eStrs p, eInts needs, .loc 0 0 0 0, eNats (allS p 0), eInts (places (allS p 0) needs), .int .i64 (least (allS p 0) needs), .loc 1 1 0 nr, .int .i64 k, .int .i64 a] ∧ S = ⟨[.arr 0 3 1 [], .arr 1 3 1 (((List.range a).foldl (bhA (allS p 0) needs) X).map (.int .i64))], 2⟩) (nr) ?_ ?_
      · refine ⟨2, 0, rfl, Nat.zero_le _, ?_, by simp [take_eq, hXe]⟩
        simp [Env.put, Env.of]
      rintro n vs S - ⟨a, rfl, h_a, rfl, rfl⟩
      refine W.seq ?_
      refine W.seq_region fun K hK => ?_
      simp (disch := omega) only [↓RU, RV, RH, ↓reduceIte, Nat.reduceEqDiff, reduceCtorEq, if_pos, w64, ↓RS, RG, Nat.reduceAdd, Nat.reduceMul, Nat.reduceLeDiff, tyLint, tyint]
      refine hK _ _ ?_
      clear hK K
      refine W.cond rfl (fun h1 => ?_) (fun h1 => ?_)
      · try simp only [RL] at h1
        have hY := bhN_to (sets := (allS p 0)) k6 hnr hn9 hX a (by omega)
        generalize hYe : (List.range a).foldl (bhA (allS p 0) needs) X = Y at hY
        refine W.skip ?_
        refine XThen.norm ?_
        refine W.seq ?_
        refine W.block ?_
        refine W.seq_region fun K hK => ?_
        simp (disch := omega) only [↓RU, RV, RH, ↓reduceIte, Nat.reduceEqDiff, reduceCtorEq, if_pos, ↓RS, RG, Nat.reduceAdd, Nat.reduceMul, Nat.reduceLeDiff]
        refine hK _ _ ?_
        clear hK K
        refine W.block ?_
        refine W.loop [0, 1, 6, 7, 8, 9, 10, 11, 12, 13] (fun n vs S => ∃ b : Nat, n = nr - b ∧ b ≤ nr ∧ vs = [eStrs p, eInts needs, .loc 0 0 0 0, eNats (allS p 0), eInts (places (allS p 0) needs), .int .i64 (least (allS p 0) needs), .loc 1 1 0 nr, .int .i64 k, .int .i64 a, .int .i64 b] ∧ S = ⟨[.arr 0 3 1 [], .arr 1 3 1 (((List.range b).foldl (bhB (allS p 0) needs a) Y).map (.int .i64))], 2⟩) (nr) ?_ ?_
        · refine ⟨2, 0, rfl, Nat.zero_le _, ?_, by simp [take_eq, hYe]⟩
          simp [Env.put, Env.of]
        rintro n vs S - ⟨b, rfl, h_b, rfl, rfl⟩
        refine W.seq ?_
        refine W.seq_region fun K hK => ?_
        simp (disch := omega) only [↓RU, RV, RH, ↓reduceIte, Nat.reduceEqDiff, reduceCtorEq, if_pos, w64, ↓RS, RG, Nat.reduceAdd, Nat.reduceMul, Nat.reduceLeDiff, tyLint, tyint]
        refine hK _ _ ?_
        clear hK K
        refine W.cond rfl (fun h2 => ?_) (fun h2 => ?_)
        · try simp only [RL] at h2
          have hZ := bhA_to (sets := (allS p 0)) k6 hnr hY (show a < nr by omega) b (by omega)
          generalize hZe : (List.range b).foldl (bhB (allS p 0) needs a) Y = Z at hZ
          obtain ⟨m, hm, hm5⟩ := hms.at_ (show a < nr by omega)
          obtain ⟨u, hu, hu1⟩ := hZ.at_ (show a < nr by omega)
          obtain ⟨v, hv, hv1⟩ := hZ.at_ (show b < nr by omega)
          obtain ⟨z, hz, hzm⟩ := get_of (show b < needs.length by omega)
          have hz1 := k6 z hzm
          have hZl := hZ.1
          refine W.skip ?_
          refine XThen.norm ?_
          refine W.seq ?_
          refine W.block ?_
          refine W.seq_region fun K hK => ?_
          simp (disch := omega) only [↓RU, RV, RH, ↓reduceIte, Nat.reduceEqDiff, reduceCtorEq, if_pos, w64, ↓RS, RG, Nat.reduceAdd, Nat.reduceMul, Nat.reduceLeDiff, tyLint, tyint, hm, hml, pShr, w_bit]
          refine hK _ _ ?_
          clear hK K
          refine W.cond rfl (fun h3 => ?_) (fun h3 => ?_)
          · try simp only [RL] at h3
            refine W.draw_k (by kernel_rfl) fun K hK => ?_
            simp (disch := omega) only [↓RU, RV, RH, ↓reduceIte, Nat.reduceEqDiff, reduceCtorEq, if_pos, w64, ite_max, ↓RS, RG, Nat.reduceAdd, Nat.reduceMul, Nat.reduceLeDiff, tyLint, tyint, hu, hv, hz, hnr, hZl, set_spl, set_int]
            refine hK _ _ ?_
            clear hK K
            refine XBlock.norm ?_
            refine XThen.norm ?_
            refine W.region_k fun K hK => ?_
            simp (disch := omega) only [↓RU, RV, RH, ↓reduceIte, Nat.reduceEqDiff, reduceCtorEq, if_pos, w64, ↓RS, RG, Nat.reduceAdd, Nat.reduceMul, Nat.reduceLeDiff, tyint]
            refine hK _ _ ?_
            clear hK K
            refine XThen.norm ?_
            refine ⟨nr - (b + 1), by omega, 2, b + 1, rfl, by omega, ?_, ?_⟩
            · simp [Env.put, Env.of]
            · simp only [take_eq, foldl_rg, hZe, bhB, bitOf_is hm, h3, getI_is hu, getI_is hv, getI_is hz]; rfl
          · try simp only [RL] at h3
            refine W.skip ?_
            refine XBlock.norm ?_
            refine XThen.norm ?_
            refine W.region_k fun K hK => ?_
            simp (disch := omega) only [↓RU, RV, RH, ↓reduceIte, Nat.reduceEqDiff, reduceCtorEq, if_pos, w64, ↓RS, RG, Nat.reduceAdd, Nat.reduceMul, Nat.reduceLeDiff, tyint]
            refine hK _ _ ?_
            clear hK K
            refine XThen.norm ?_
            refine ⟨nr - (b + 1), by omega, 2, b + 1, rfl, by omega, ?_, ?_⟩
            · simp [Env.put, Env.of]
            · simp only [take_eq, foldl_rg, hZe, bhB, bitOf_is hm, h3, Bool.false_eq_true, if_false]; rfl
        · try simp only [RL] at h2
          obtain rfl : nr = b := by omega
          refine W.exit ?_
          refine XThen.exit ?_
          refine XThen.exit ?_
          refine XBlock.hit ?_
          refine XBlock.norm ?_
          refine XThen.norm ?_
          refine W.region_k fun K hK => ?_
          simp (disch := omega) only [↓RU, RV, RH, ↓reduceIte, Nat.reduceEqDiff, reduceCtorEq, if_pos, w64, ↓RS, RG, Nat.reduceAdd, Nat.reduceMul, Nat.reduceLeDiff, tyint]
          refine hK _ _ ?_
          clear hK K
          refine XThen.norm ?_
          refine ⟨nr - (a + 1), by omega, 2, a + 1, rfl, by omega, ?_, ?_⟩
          · simp [Env.put, Env.of]
          · simp only [take_eq, foldl_rg, hYe, bhA, hnr]; rfl
      · try simp only [RL] at h1
        obtain rfl : nr = a := by omega
        refine W.exit ?_
        refine XThen.exit ?_
        refine XThen.exit ?_
        refine XBlock.hit ?_
        refine XBlock.norm ?_
        refine XThen.norm ?_
        refine W.region_k fun K hK => ?_
        simp (disch := omega) only [↓RU, RV, RH, ↓reduceIte, Nat.reduceEqDiff, reduceCtorEq, if_pos, w64, ↓RS, RG, Nat.reduceAdd, Nat.reduceMul, Nat.reduceLeDiff, tyint]
        refine hK _ _ ?_
        clear hK K
        refine XThen.norm ?_
        refine ⟨nr - (k + 1), by omega, 2, k + 1, rfl, by omega, ?_, ?_⟩
        · simp [Env.put, Env.of]
        · simp only [take_eq, foldl_rg, hXe, bhN, hnr]; rfl
    · try simp only [RL] at h
      obtain rfl : nr = k := by omega
      have hBH := behind_to (sets := (allS p 0)) k6 hnr hn9 nr (Nat.le_refl _)
      have hBHe : behind (allS p 0) needs = (List.range nr).foldl (bhN (allS p 0) needs) (List.replicate nr 0) := by rw [behind, hnr]
      generalize (List.range nr).foldl (bhN (allS p 0) needs) (List.replicate nr 0) = BH at hBH hBHe
      refine W.exit ?_
      refine XThen.exit ?_
      refine XThen.exit ?_
      refine XBlock.hit ?_
      refine XThen.norm ?_
      refine W.seq ?_
      refine W.seq_region fun K hK => ?_
      simp (disch := omega) only [↓RU, RV, RH, ↓reduceIte, Nat.reduceEqDiff, reduceCtorEq, if_pos, ↓RS, RG, Nat.reduceAdd, Nat.reduceMul, Nat.reduceLeDiff]
      refine hK _ _ ?_
      clear hK K
      refine W.block ?_
      refine W.loop [0, 1, 6, 8, 9, 10, 14] (fun n vs S => ∃ a v0 tk : Nat, n = nr - a ∧ a ≤ nr ∧ vs = [eStrs p, eInts needs, .loc 0 v0 0 a, eInts (places (allS p 0) needs), .int .i64 (least (allS p 0) needs), .loc 1 1 0 nr, .int .i64 a] ∧ S = ⟨[.arr v0 3 1 (((List.range a).map (slackG (allS p 0) needs)).map (.int .i64)), .arr 1 3 1 (BH.map (.int .i64))], tk⟩) (nr) ?_ ?_
      · refine ⟨2, 0, 0, 2, rfl, Nat.zero_le _, ?_, by simp [take_eq]⟩
        simp [Env.put, Env.of]
      rintro n vs S - ⟨a, v0, tk, rfl, h_a, rfl, rfl⟩
      refine W.seq ?_
      refine W.seq_region fun K hK => ?_
      simp (disch := omega) only [↓RU, RV, RH, ↓reduceIte, Nat.reduceEqDiff, reduceCtorEq, if_pos, w64, ↓RS, RG, Nat.reduceAdd, Nat.reduceMul, Nat.reduceLeDiff, tyLint, tyint]
      refine hK _ _ ?_
      clear hK K
      refine W.cond rfl (fun h4 => ?_) (fun h4 => ?_)
      · try simp only [RL] at h4
        obtain ⟨x, hx, hxm⟩ := get_of (show a < needs.length by omega)
        have hx1 := k6 x hxm
        obtain ⟨y, hy, hy1⟩ := hBH.at_ (show a < nr by omega)
        obtain ⟨z, hz, hz1⟩ := hpb.at_ (show a < nr by omega)
        have hsg := slackG_at hBHe rfl hx hy hz
        have hBl := hBH.1
        have hPl := hpb.1
        have hLl : ((List.range a).map (slackG (allS p 0) needs)).length = a := by simp
        refine W.skip ?_
        refine XThen.norm ?_
        refine W.seq ?_
        refine W.block ?_
        refine W.draw_k (by kernel_rfl) fun K hK => ?_
        simp (disch := omega) only [↓RU, RV, RH, ↓reduceIte, Nat.reduceEqDiff, reduceCtorEq, if_pos, w64, ↓RS, RG, Nat.reduceAdd, Nat.reduceMul, Nat.reduceLeDiff, tyLint, tyint, hx, hy, hz, hnr, hBl, hPl, hLl]
        refine hK _ _ ?_
        clear hK K
        refine XBlock.norm ?_
        refine XThen.norm ?_
        refine W.region_k fun K hK => ?_
        simp (disch := omega) only [↓RU, RV, RH, ↓reduceIte, Nat.reduceEqDiff, reduceCtorEq, if_pos, w64, ↓RS, RG, Nat.reduceAdd, Nat.reduceMul, Nat.reduceLeDiff, tyint]
        refine hK _ _ ?_
        clear hK K
        refine XThen.norm ?_
        refine ⟨nr - (a + 1), by omega, 2, a + 1, tk + 1, tk + 2, rfl, by omega, ?_, ?_⟩
        all_goals simp [Env.put, Env.of, take_eq, List.range_succ, hsg, tk_le]
      · try simp only [RL] at h4
        obtain rfl : nr = a := by omega
        refine W.exit ?_
        refine XThen.exit ?_
        refine XThen.exit ?_
        refine XBlock.hit ?_
        refine XThen.norm ?_
        refine W.seq_region fun K hK => ?_
        simp (disch := omega) only [↓RU, RV, RH, ↓reduceIte, Nat.reduceEqDiff, reduceCtorEq, if_pos, ↓RS, RG, Nat.reduceAdd, Nat.reduceMul, Nat.reduceLeDiff]
        refine hK _ _ ?_
        clear hK K
        refine W.ret ?_
        refine BodyQ.ret rfl ?_
        rw [show slackV p needs = (List.range nr).map (slackG (allS p 0) needs) by simp [slackV, hg, slackS, hnr], hg]
        refine reify_tup2 (k := 9) ?_ rfl
        exact (reify_loc (k := 8) (n := nr) rfl (by simp) (mapM_int _)).trans (by simp)

end Fw
end Go.Proofs.YtcglmbijpjhbmaaGreat

/-! A relation the other way round, place by place. -/
namespace Go.Proofs.YtcglmbijpjhbmaaGreat
namespace Fw
open Go

section
variable {n : Nat} {M X : List (List Bool)}
def rvB (M : List (List Bool)) (a : Nat) (X : List (List Bool)) (b : Nat) : List (List Bool) := setB X b a (getB M a b)
def rvA (n : Nat) (M : List (List Bool)) (X : List (List Bool)) (a : Nat) : List (List Bool) := (List.range n).foldl (rvB M a) X
def rv (n : Nat) (M : List (List Bool)) : List (List Bool) := (List.range n).foldl (rvA n M) (emptyM n)
theorem Sq.rvB (h : Sq n X) {a b : Nat} (hb : b < n) : Sq n (rvB M a X b) := h.set hb
theorem rvA_to (h : Sq n X) {a : Nat} (ha : a < n) : ∀ i, i ≤ n → Sq n ((List.range i).foldl (rvB M a) X) ∧ ∀ x y, getB ((List.range i).foldl (rvB M a) X) x y = if y = a ∧ x < i then getB M a x else getB X x y
  | 0, _ => ⟨h, fun x y => by simp⟩
  | i + 1, hi => by
    obtain ⟨h1, h2⟩ := rvA_to h ha i (by omega)
    rw [foldl_rg]
    refine ⟨h1.rvB (by omega), fun x y => ?_⟩
    unfold Fw.rvB at h1 h2 ⊢
    rw [getB_setB h1 (by omega) ha, h2]
    by_cases e1 : y = a
    · by_cases e2 : x = i
      · subst e1 e2; rw [if_pos ⟨rfl, rfl⟩, if_pos ⟨rfl, by omega⟩]
      · rw [if_neg (fun q => e2 q.1)]
        by_cases e3 : x < i
        · rw [if_pos ⟨e1, e3⟩, if_pos ⟨e1, by omega⟩]
        · rw [if_neg (fun q => e3 q.2), if_neg (fun q => e3 (by have := q.2; omega))]
    · rw [if_neg (fun q => e1 q.2), if_neg (fun q => e1 q.1), if_neg (fun q => e1 q.1)]
theorem emptyM_get {x y : Nat} : getB (emptyM n) x y = false := by
  unfold getB emptyM
  rw [List.getElem?_replicate]
  split
  · rw [Option.getD_some, List.getElem?_replicate]; split <;> rfl
  · rfl
theorem rv_to : ∀ k, k ≤ n → Sq n ((List.range k).foldl (rvA n M) (emptyM n)) ∧ ∀ x y, x < n → getB ((List.range k).foldl (rvA n M) (emptyM n)) x y = if y < k then getB M y x else false
  | 0, _ => ⟨emptyM_sq n, fun x y _ => by simp [emptyM_get]⟩
  | k + 1, hk => by
    obtain ⟨h1, h2⟩ := rv_to k (by omega)
    rw [foldl_rg]
    generalize (List.range k).foldl (rvA n M) (emptyM n) = Y at h1 h2 ⊢
    obtain ⟨h3, h4⟩ := rvA_to (M := M) h1 (show k < n by omega) n (Nat.le_refl _)
    refine ⟨h3, fun x y hx => ?_⟩
    unfold rvA
    rw [h4, h2 x y hx]
    by_cases e : y = k
    · subst e; rw [if_pos ⟨rfl, hx⟩, if_pos (by omega)]
    · rw [if_neg (fun q => e q.1)]
      by_cases e2 : y < k
      · rw [if_pos e2, if_pos (by omega)]
      · rw [if_neg e2, if_neg (by omega)]
theorem Sq.ext {Y : List (List Bool)} (h : Sq n X) (k : Sq n Y) (e : ∀ x y, x < n → y < n → getB X x y = getB Y x y) : X = Y := by
  apply List.ext_getElem?
  intro x
  by_cases hx : x < n
  · obtain ⟨r, hr, hrm⟩ := get_of (show x < X.length by rw [h.1]; exact hx)
    obtain ⟨s, hs, hsm⟩ := get_of (show x < Y.length by rw [k.1]; exact hx)
    rw [hr, hs]
    congr 1
    have hrl := h.2 r hrm
    have hsl := k.2 s hsm
    apply List.ext_getElem?
    intro y
    by_cases hy : y < n
    · have := e x y hx hy
      unfold getB at this
      rw [hr, hs, Option.getD_some, Option.getD_some] at this
      obtain ⟨u, hu, -⟩ := get_of (show y < r.length by omega)
      obtain ⟨v, hv, -⟩ := get_of (show y < s.length by omega)
      rw [hu, hv] at this ⊢
      simpa using this
    · rw [List.getElem?_eq_none (by omega), List.getElem?_eq_none (by omega)]
  · rw [List.getElem?_eq_none (by rw [h.1]; omega), List.getElem?_eq_none (by rw [k.1]; omega)]
theorem rv_eq : rv n M = revM n M := by
  obtain ⟨h1, h2⟩ := rv_to (M := M) n (Nat.le_refl n)
  unfold rv
  refine h1.ext revM_sq fun x y hx hy => ?_
  rw [h2 x y hx, if_pos hy, revM_get hx hy]
/-- Slack, place by place. -/
theorem slackI_take {ws : List Int} {i : Nat} (hi : i < n) {x : Int} (hx : ws[i]? = some x) : (slackI M ws n)[i]? = some (maxL (heaviest M ws n) - HB (revM n M) ws n i - (HB M ws n i - x)) := by
  unfold slackI
  rw [List.getElem?_map, List.getElem?_range hi]
  simp only [Option.map_some, slackF, getI_is hx]
theorem slackI_len {ws : List Int} : (slackI M ws n).length = n := by simp [slackI]
end
end Fw
end Go.Proofs.YtcglmbijpjhbmaaGreat

/-! Places and slack by the program, gone through. -/
namespace Go.Proofs.YtcglmbijpjhbmaaGreat
namespace Fw
open Go

theorem reversed_pc {M : List (List Bool)} {nr : Nat} (hM : Sq nr M) (hn : nr ≤ 9) : PC Tryz.prog 72 [eRel M] (eRel (revM nr M)) true := by
  have hM1 := hM.1
  refine PC.of ⟨Tryz.func72, by kernel_rfl, rfl, by kernel_rfl⟩ tabOk mixed (by show 1 ≤ Tryz.f72.ntmps; decide) ?_
  refine W.seq_region fun K hK => ?_
  simp (disch := omega) only [↓RU, RV, RH, ↓reduceIte, Nat.reduceEqDiff, reduceCtorEq, if_pos, ↓RS, RG, Nat.reduceAdd, Nat.reduceMul, Nat.reduceLeDiff]
  refine hK _ _ ?_
  clear hK K
  refine W.seq_region fun K hK => ?_
  simp (disch := omega) only [↓RU, RV, RH, ↓reduceIte, Nat.reduceEqDiff, reduceCtorEq, if_pos, List.append_nil, ↓RS, RG, Nat.reduceAdd, Nat.reduceMul, Nat.reduceLeDiff, tyLLbool, tyLbool, tybool, tyimpl_relation, hM1]
  refine CallR.pn (emptyRel_pn hn) rfl (.inl rfl) ?_
  simp (disch := omega) only [↓RU, RV, RH, ↓reduceIte, Nat.reduceEqDiff, reduceCtorEq, if_pos, List.append_nil, ↓RS, RG, Nat.reduceAdd, Nat.reduceMul, Nat.reduceLeDiff, tyLLbool, tyLbool, tybool, tyimpl_relation, hM1, RN]
  refine hK _ _ ?_
  clear hK K
  refine W.seq ?_
  refine W.seq_region fun K hK => ?_
  simp (disch := omega) only [↓RU, RV, RH, ↓reduceIte, Nat.reduceEqDiff, reduceCtorEq, if_pos, ↓RS, RG, Nat.reduceAdd, Nat.reduceMul, Nat.reduceLeDiff, tyLLbool, tyLbool, tybool, tyimpl_relation, hM1]
  refine hK _ _ ?_
  clear hK K
  refine W.block ?_
  refine W.loop [0, 3, 10, 11] (fun n vs S => ∃ (a t tk : Nat) (F R : List Ob), n = nr - a ∧ a ≤ nr ∧ F = [] ∧ R = [] ∧ vs = [eRel M, .loc F.length t 0 nr, .int .i64 nr, .int .i64 a] ∧ S = ⟨F ++ (relObs F.length t ((List.range a).foldl (rvA nr M) (emptyM nr)) ++ R), tk⟩) nr ?_ ?_
  · refine ⟨_, 0, 0, 1, [], [], rfl, by omega, rfl, rfl, ?_, take_all_of (by rw [up_rel]; simp)⟩
    simp [Env.put, Env.of, argEnv, hM1]
  rintro n vs S - ⟨a, t, tk, F, R, rfl, h_a, hF, hR, rfl, rfl⟩
  refine W.seq_region fun K hK => ?_
  simp (disch := omega) only [↓RU, RV, RH, ↓reduceIte, Nat.reduceEqDiff, reduceCtorEq, if_pos, w64, ↓RS, RG, Nat.reduceAdd, Nat.reduceMul, Nat.reduceLeDiff, tyint]
  refine hK _ _ ?_
  clear hK K
  refine W.seq ?_
  refine W.cond rfl (fun h => ?_) (fun h => ?_)
  · try simp only [RL] at h
    have hX := rv_to (M := M) a h_a
    generalize hXe : (List.range a).foldl (rvA nr M) (emptyM nr) = X at hX
    obtain ⟨hX, -⟩ := hX
    refine W.skip ?_
    refine XThen.norm ?_
    refine W.seq ?_
    refine W.block ?_
    refine W.seq_region fun K hK => ?_
    simp (disch := omega) only [↓RU, RV, RH, ↓reduceIte, Nat.reduceEqDiff, reduceCtorEq, if_pos, ↓RS, RG, Nat.reduceAdd, Nat.reduceMul, Nat.reduceLeDiff]
    refine hK _ _ ?_
    clear hK K
    refine W.seq_region fun K hK => ?_
    simp (disch := omega) only [↓RU, RV, RH, ↓reduceIte, Nat.reduceEqDiff, reduceCtorEq, if_pos, ↓RS, RG, Nat.reduceAdd, Nat.reduceMul, Nat.reduceLeDiff, tyLLbool, tyLbool, tybool, tyimpl_relation, hM1]
    refine hK _ _ ?_
    clear hK K
    refine W.block ?_
    refine W.loop [0, 3, 10, 11, 4, 15, 16] (fun n vs S => ∃ (b t tk : Nat) (F R : List Ob), n = nr - b ∧ b ≤ nr ∧ F = [] ∧ R = [] ∧ vs = [eRel M, .loc F.length t 0 nr, .int .i64 nr, .int .i64 a, .int .i64 a, .int .i64 nr, .int .i64 b] ∧ S = ⟨F ++ (relObs F.length t ((List.range b).foldl (rvB M a) X) ++ R), tk⟩) nr ?_ ?_
    · refine ⟨_, 0, _, _, F, R, rfl, by omega, hF, hR, ?_, take_all_of rfl⟩
      simp [Env.put, Env.of, argEnv, hM1]
    rintro n vs S - ⟨b, t, tk, F, R, rfl, h_b, hF, hR, rfl, rfl⟩
    refine W.seq_region fun K hK => ?_
    simp (disch := omega) only [↓RU, RV, RH, ↓reduceIte, Nat.reduceEqDiff, reduceCtorEq, if_pos, w64, ↓RS, RG, Nat.reduceAdd, Nat.reduceMul, Nat.reduceLeDiff, tyint]
    refine hK _ _ ?_
    clear hK K
    refine W.seq ?_
    refine W.cond rfl (fun h1 => ?_) (fun h1 => ?_)
    · try simp only [RL] at h1
      have hY := rvA_to (M := M) hX (show a < nr by omega) b h_b
      generalize hYe : (List.range b).foldl (rvB M a) X = Y at hY
      obtain ⟨hY, -⟩ := hY
      have hYl := hY.1
      obtain ⟨ra, hra, hral, -⟩ := hY.at_ (show b < nr by omega) (show a < nr by omega)
      obtain ⟨rb, hrb0, hrbl, hrb⟩ := hM.at_ (show a < nr by omega) (show b < nr by omega)
      refine W.skip ?_
      refine XThen.norm ?_
      refine W.seq ?_
      refine W.block ?_
      refine W.seq_region fun K hK => ?_
      simp (disch := omega) only [↓RU, RV, RH, ↓reduceIte, Nat.reduceEqDiff, reduceCtorEq, if_pos, ↓RS, RG, Nat.reduceAdd, Nat.reduceMul, Nat.reduceLeDiff]
      refine hK _ _ ?_
      clear hK K
      refine W.draw_k (by kernel_rfl) fun K hK => ?_
      simp (disch := omega) only [↓RU, RV, RH, ↓reduceIte, Nat.reduceEqDiff, reduceCtorEq, if_pos, ↓RS, RG, Nat.reduceAdd, Nat.reduceMul, Nat.reduceLeDiff, tyLLbool, tyLbool, tybool, tyimpl_relation, hYe, rel0 hYl, rg_get, relR hra, hrb0, hrb, hrbl, hral, set_spl, set_bool, relSet hYl, hM1]
      refine hK _ _ ?_
      clear hK K
      refine XBlock.norm ?_
      refine XThen.norm ?_
      refine W.region_k fun K hK => ?_
      simp (disch := omega) only [↓RU, RV, RH, ↓reduceIte, Nat.reduceEqDiff, reduceCtorEq, if_pos, w64, ↓RS, RG, Nat.reduceAdd, Nat.reduceMul, Nat.reduceLeDiff, tyint]
      refine hK _ _ ?_
      clear hK K
      refine XThen.norm ?_
      refine ⟨nr - (b + 1), by omega, _, b + 1, t, tk, F, R, rfl, by omega, hF, hR, ?_, take_all_of (by rw [foldl_rg, hYe, rvB, setB_is hra])⟩
      simp [Env.put, Env.of]
    · try simp only [RL] at h1
      obtain rfl : nr = b := by omega
      refine W.exit ?_
      refine XThen.exit ?_
      refine XThen.exit ?_
      refine XBlock.hit ?_
      refine XBlock.norm ?_
      refine XThen.norm ?_
      refine W.region_k fun K hK => ?_
      simp (disch := omega) only [↓RU, RV, RH, ↓reduceIte, Nat.reduceEqDiff, reduceCtorEq, if_pos, w64, ↓RS, RG, Nat.reduceAdd, Nat.reduceMul, Nat.reduceLeDiff, tyint]
      refine hK _ _ ?_
      clear hK K
      refine XThen.norm ?_
      refine ⟨nr - (a + 1), by omega, _, a + 1, t, tk, F, R, rfl, by omega, hF, hR, ?_, take_all_of (by rw [foldl_rg, hXe]; rfl)⟩
      simp [Env.put, Env.of]
  · try simp only [RL] at h
    obtain rfl : nr = a := by omega
    refine W.exit ?_
    refine XThen.exit ?_
    refine XThen.exit ?_
    refine XBlock.hit ?_
    refine XThen.norm ?_
    refine W.seq_region fun K hK => ?_
    simp (disch := omega) only [↓RU, RV, RH, ↓reduceIte, Nat.reduceEqDiff, reduceCtorEq, if_pos, ↓RS, RG, Nat.reduceAdd, Nat.reduceMul, Nat.reduceLeDiff]
    refine hK _ _ ?_
    clear hK K
    refine W.ret ?_
    refine BodyQ.ret rfl ?_
    have hr := rv_to (M := M) nr (Nat.le_refl _)
    rw [← rv_eq]
    exact reify_rel (f := 7) hr.1 (rel0 hr.1.1) (fun a row h => relR h)

theorem hv_tk {M : List (List Bool)} {ws : List Int} {n : Nat} : List.take n ((heaviest M ws n).map (PV.int .i64)) = (heaviest M ws n).map (PV.int .i64) := List.take_of_length_le (by simp [heaviest_len])
theorem rn_rep0 {S : Store} {k f n : Nat} {sel : List Nat} : (List.replicate n (PV.int .i64 0)).mapM (rn S k sel (f + 1)) = some (List.replicate n (PV.int .i64 0)) := rn_scal (by simp [List.all_replicate, scal])
theorem sh_one2 {S : Store} {im : Bool} {v et n : Nat} {b : Bool} {cells : List PV} (hS : S.obs = [.arr v et 1 cells]) (hc : cells.mapM (sh (S.take 1) im 10) = some cells) : ∃ k, sh (S.take k) im 10 (.tup [.loc 0 v 0 n, .bool b]) = some (.tup [.loc 0 0 0 n, .bool b]) ∧ shObs (S.take k) im (S.take k).obs = some [.arr 0 et 1 cells] := by
  refine ⟨1, ?_, ?_⟩
  · simp [sh, Store.take, hS]
  · simp only [Store.take, hS] at hc ⊢
    simp only [List.take_succ_cons, List.take_zero] at hc ⊢
    simp only [shObs, shOb, hc]
    rfl
theorem hv_bound2 {M : List (List Bool)} {ws : List Int} {n : Nat} (hw : NeedOk ws) (i : Nat) (x : Int) (h : (heaviest M ws n)[i]? = some x) : 0 ≤ x ∧ x ≤ 909 := by
  unfold heaviest at h
  rw [List.getElem?_map, Option.map_eq_some_iff] at h
  obtain ⟨b, -, rfl⟩ := h
  exact HB_bound hw b

theorem sizePlaces_no {p : List Txt} (hs : Sm p) {ws : List Int} (hw : ws.length ≤ 1048576) (hv : needV p [ws] = false) : PC Tryz.prog 21 [eStrs p, eInts ws] (.tup [eInts [], .bool false]) true := by
  refine PC.of ⟨Tryz.func21, by kernel_rfl, rfl, by kernel_rfl⟩ tabOk mixed (by show 2 ≤ Tryz.f21.ntmps; decide) ?_
  refine W.seq_region fun K hK => ?_
  simp (disch := omega) only [↓RU, RV, RH, ↓reduceIte, Nat.reduceEqDiff, reduceCtorEq, if_pos, ↓RS, RG, Nat.reduceAdd, Nat.reduceMul, Nat.reduceLeDiff]
  refine hK _ _ ?_
  clear hK K
  refine W.seq_region fun K hK => ?_
  simp (disch := omega) only [↓RU, RV, RH, ↓reduceIte, Nat.reduceEqDiff, reduceCtorEq, if_pos, List.append_nil, ↓RS, RG, Nat.reduceAdd, Nat.reduceMul, Nat.reduceLeDiff, tyLLint, tyLint, tyint, hv]
  refine CallR.ev (needing_ev hs (wss := [ws]) (by simp) (by intro a ha; rw [List.mem_singleton] at ha; subst ha; exact hw)) ?_
  rintro _ _ ⟨x, rfl, hx, rfl⟩
  simp (disch := omega) only [↓RU, RV, RH, ↓reduceIte, Nat.reduceEqDiff, reduceCtorEq, if_pos, List.append_nil, ↓RS, RG, Nat.reduceAdd, Nat.reduceMul, Nat.reduceLeDiff, tyLLint, tyLint, tyint, hv]
  refine hK _ _ ?_
  clear hK K
  refine W.seq ?_
  refine W.seq_region fun K hK => ?_
  simp (disch := omega) only [↓RU, RV, RH, ↓reduceIte, Nat.reduceEqDiff, reduceCtorEq, if_pos, ↓RS, RG, Nat.reduceAdd, Nat.reduceMul, Nat.reduceLeDiff]
  refine hK _ _ ?_
  clear hK K
  refine W.cond rfl (fun h => ?_) (fun h => ?_)
  · try simp only [RL] at h
    refine W.seq_region fun K hK => ?_
    simp (disch := omega) only [↓RU, RV, RH, ↓reduceIte, Nat.reduceEqDiff, reduceCtorEq, if_pos, ↓RS, RG, Nat.reduceAdd, Nat.reduceMul, Nat.reduceLeDiff]
    refine hK _ _ ?_
    clear hK K
    refine W.ret ?_
    refine XThen.ret ?_
    refine BodyQ.ret rfl ?_
    rfl
  · try simp only [RL] at h
    exact absurd h (by simp)

theorem sizeSlack_no {p : List Txt} (hs : Sm p) {ws : List Int} (hw : ws.length ≤ 1048576) (hv : needV p [ws] = false) : PC Tryz.prog 26 [eStrs p, eInts ws] (.tup [eInts [], .bool false]) true := by
  refine PC.of ⟨Tryz.func26, by kernel_rfl, rfl, by kernel_rfl⟩ tabOk mixed (by show 2 ≤ Tryz.f26.ntmps; decide) ?_
  refine W.seq_region fun K hK => ?_
  simp (disch := omega) only [↓RU, RV, RH, ↓reduceIte, Nat.reduceEqDiff, reduceCtorEq, if_pos, ↓RS, RG, Nat.reduceAdd, Nat.reduceMul, Nat.reduceLeDiff]
  refine hK _ _ ?_
  clear hK K
  refine W.seq_region fun K hK => ?_
  simp (disch := omega) only [↓RU, RV, RH, ↓reduceIte, Nat.reduceEqDiff, reduceCtorEq, if_pos, List.append_nil, ↓RS, RG, Nat.reduceAdd, Nat.reduceMul, Nat.reduceLeDiff, tyLLint, tyLint, tyint, hv]
  refine CallR.ev (needing_ev hs (wss := [ws]) (by simp) (by intro a ha; rw [List.mem_singleton] at ha; subst ha; exact hw)) ?_
  rintro _ _ ⟨x, rfl, hx, rfl⟩
  simp (disch := omega) only [↓RU, RV, RH, ↓reduceIte, Nat.reduceEqDiff, reduceCtorEq, if_pos, List.append_nil, ↓RS, RG, Nat.reduceAdd, Nat.reduceMul, Nat.reduceLeDiff, tyLLint, tyLint, tyint, hv]
  refine hK _ _ ?_
  clear hK K
  refine W.seq ?_
  refine W.seq_region fun K hK => ?_
  simp (disch := omega) only [↓RU, RV, RH, ↓reduceIte, Nat.reduceEqDiff, reduceCtorEq, if_pos, ↓RS, RG, Nat.reduceAdd, Nat.reduceMul, Nat.reduceLeDiff]
  refine hK _ _ ?_
  clear hK K
  refine W.cond rfl (fun h => ?_) (fun h => ?_)
  · try simp only [RL] at h
    refine W.seq_region fun K hK => ?_
    simp (disch := omega) only [↓RU, RV, RH, ↓reduceIte, Nat.reduceEqDiff, reduceCtorEq, if_pos, ↓RS, RG, Nat.reduceAdd, Nat.reduceMul, Nat.reduceLeDiff]
    refine hK _ _ ?_
    clear hK K
    refine W.ret ?_
    refine XThen.ret ?_
    refine BodyQ.ret rfl ?_
    rfl
  · try simp only [RL] at h
    exact absurd h (by simp)

theorem sizePlaces_yes {p : List Txt} (hs : Sm p) {ws : List Int} (hw : ws.length ≤ 1048576) (hv : needV p [ws] = true) : PN Tryz.prog 21 [eStrs p, eInts ws] (.tup [.loc 0 0 0 (rP p).length, .bool true]) [.arr 0 3 1 ((subL (heaviest (leftG (gP p) p.length (w0 (readG p)) (rP p).length) ws (rP p).length) ws).map (.int .i64))] false := by
  obtain ⟨hpl, hwl, hwok⟩ := needV_one hv
  have hok := (plain_okB hpl).1
  have hg := okB_gw hok
  have hn9 := okB_rooms hok
  have hn1 := okB_rooms1 hok
  obtain ⟨hrm, ⟨rk, hu⟩, -⟩ := plan_all hpl
  generalize hMe : (leftG (gP p) p.length (w0 (readG p)) (rP p).length) = M at hu
  have hhl := heaviest_len (M := M) (ws := ws) (n := (rP p).length)
  have hhb : ∀ (i : Nat) (x : Int), (heaviest M ws (rP p).length)[i]? = some x → 0 ≤ x ∧ x ≤ 909 := hv_bound2 hwok
  refine PN.of ⟨Tryz.func21, by kernel_rfl, rfl, by kernel_rfl⟩ tabOk mixed (by show 2 ≤ Tryz.f21.ntmps; decide) ?_
  refine W.seq_region fun K hK => ?_
  simp (disch := omega) only [↓RU, RV, RH, ↓reduceIte, Nat.reduceEqDiff, reduceCtorEq, if_pos, ↓RS, RG, Nat.reduceAdd, Nat.reduceMul, Nat.reduceLeDiff]
  refine hK _ _ ?_
  clear hK K
  refine W.seq_region fun K hK => ?_
  simp (disch := omega) only [↓RU, RV, RH, ↓reduceIte, Nat.reduceEqDiff, reduceCtorEq, if_pos, List.append_nil, ↓RS, RG, Nat.reduceAdd, Nat.reduceMul, Nat.reduceLeDiff, tyLLint, tyLint, tyint, hv]
  refine CallR.ev (needing_ev hs (wss := [ws]) (by simp) (by intro a ha; rw [List.mem_singleton] at ha; subst ha; exact hw)) ?_
  rintro _ _ ⟨x, rfl, hx, rfl⟩
  simp (disch := omega) only [↓RU, RV, RH, ↓reduceIte, Nat.reduceEqDiff, reduceCtorEq, if_pos, List.append_nil, ↓RS, RG, Nat.reduceAdd, Nat.reduceMul, Nat.reduceLeDiff, tyLLint, tyLint, tyint, hv]
  refine hK _ _ ?_
  clear hK K
  refine W.seq ?_
  refine W.seq_region fun K hK => ?_
  simp (disch := omega) only [↓RU, RV, RH, ↓reduceIte, Nat.reduceEqDiff, reduceCtorEq, if_pos, ↓RS, RG, Nat.reduceAdd, Nat.reduceMul, Nat.reduceLeDiff]
  refine hK _ _ ?_
  clear hK K
  refine W.cond rfl (fun h => ?_) (fun h => ?_)
  · try simp only [RL] at h
    exact absurd h (by simp)
  · try simp only [RL] at h
    obtain rfl := hx hv
    refine W.skip ?_
    refine XThen.norm ?_
    refine W.joinS [1, 8] (fun vs S => ∃ t tk : Nat, vs = [eInts ws, .loc 0 t 0 (rP p).length] ∧ S = ⟨[.arr t 3 1 ((heaviest M ws (rP p).length).map (.int .i64))], tk⟩) ?_ ?_
    ·
      refine W.region_k fun K hK => ?_
      simp (disch := omega) only [↓RU, RV, RH, ↓reduceIte, Nat.reduceEqDiff, reduceCtorEq, if_pos, List.append_nil, ↓RS, RG, Nat.reduceAdd, Nat.reduceMul, Nat.reduceLeDiff, tyLLbool, tyLbool, tybool, tyimpl_orders, tyimpl_relation, tystruct_left_impl_relation_above_impl_relation_]
      refine CallR.pc (orders_pc hg rfl hn9 hrm) rfl (.inl rfl) ?_
      simp (disch := omega) only [↓RU, RV, RH, ↓reduceIte, Nat.reduceEqDiff, reduceCtorEq, if_pos, List.append_nil, ↓RS, RG, Nat.reduceAdd, Nat.reduceMul, Nat.reduceLeDiff, tyLLbool, tyLbool, tybool, tyimpl_orders, tyimpl_relation, tystruct_left_impl_relation_above_impl_relation_]
      simp only [hMe]
      refine CallR.pn (heaviest_pn hu hn9 hwl hwok) rfl (.inl rfl) ?_
      simp (disch := omega) only [↓RU, RV, RH, ↓reduceIte, Nat.reduceEqDiff, reduceCtorEq, if_pos, List.append_nil, ↓RS, RG, Nat.reduceAdd, Nat.reduceMul, Nat.reduceLeDiff, tyLLbool, tyLbool, tybool, tyimpl_orders, tyimpl_relation, tystruct_left_impl_relation_above_impl_relation_, RN]
      refine hK _ _ ?_
      clear hK K
      refine XThen.norm ?_
      refine ⟨0, [1], [eInts ws, .loc 0 2 0 (rP p).length], ⟨[.arr 2 3 1 ((heaviest M ws (rP p).length).map (.int .i64))], 3⟩, ?_, ?_, 2, 3, rfl, rfl⟩
      · simp [-List.mapM_map, Env.put, Env.of, argEnv, Srn_eq, rnObs_cons, rnObs_nil, rnOb_arr, rnOb_map, rn_loc, rn_ref, rn_mp, rn_int, rn_bool, rn_str, rn_ip, rn_sl, rn_nils, rn_nilp, rn_undef, rn_agg, rn_tup, rn_fn, rfq_loc, rfq_int, rfq_bool, rfq_str, rfq_sl, frOf, List.range_succ, List.mapM_append, List.mapM_cons]
      · simp [-List.mapM_map, Env.put, Env.of, argEnv, Srn_eq, rnObs_cons, rnObs_nil, rnOb_arr, rnOb_map, rn_loc, rn_ref, rn_mp, rn_int, rn_bool, rn_str, rn_ip, rn_sl, rn_nils, rn_nilp, rn_undef, rn_agg, rn_tup, rn_fn, rfq_loc, rfq_int, rfq_bool, rfq_str, rfq_sl, frOf, List.range_succ, List.mapM_append, List.mapM_cons, rn_ints]
    rintro vs S - ⟨t0, tk0, rfl, rfl⟩
    refine W.seq ?_
    refine W.seq_region fun K hK => ?_
    simp (disch := omega) only [↓RU, RV, RH, ↓reduceIte, Nat.reduceEqDiff, reduceCtorEq, if_pos, ↓RS, RG, Nat.reduceAdd, Nat.reduceMul, Nat.reduceLeDiff, tyLint, tyint]
    refine hK _ _ ?_
    clear hK K
    refine W.block ?_
    refine W.loop [1, 8, 25, 26, 27] (fun n vs S => ∃ i t tk : Nat, n = ws.length - i ∧ i ≤ ws.length ∧ vs = [eInts ws, .loc 0 t 0 (rP p).length, eInts ws, .int .i64 ws.length, .int .i64 i] ∧ S = ⟨[.arr t 3 1 (((subL (heaviest M ws (rP p).length) ws).take i ++ (heaviest M ws (rP p).length).drop i).map (.int .i64))], tk⟩) ws.length ?_ ?_
    · refine ⟨1, 0, t0, tk0, rfl, by omega, ?_, rfl⟩
      simp [Env.put, Env.of, argEnv]
    rintro n vs S - ⟨i, t, tk, rfl, h_i, rfl, rfl⟩
    refine W.seq_region fun K hK => ?_
    simp (disch := omega) only [↓RU, RV, RH, ↓reduceIte, Nat.reduceEqDiff, reduceCtorEq, if_pos, w64, ↓RS, RG, Nat.reduceAdd, Nat.reduceMul, Nat.reduceLeDiff, tyint]
    refine hK _ _ ?_
    clear hK K
    refine W.seq ?_
    refine W.cond rfl (fun h1 => ?_) (fun h1 => ?_)
    · try simp only [RL] at h1
      obtain ⟨w, hw1, hwm⟩ := get_of (show i < ws.length by omega)
      have hw9 := hwok w hwm
      obtain ⟨y, hy, -⟩ := get_of (show i < (heaviest M ws (rP p).length).length by omega)
      have hy9 := hhb i y hy
      have hsu := subL_at hy hw1
      have hsl : (subL (heaviest M ws (rP p).length) ws).length = (heaviest M ws (rP p).length).length := subL_len
      have hmi := mix_at (i := i) hsl
      rw [hy] at hmi
      have hml := mix_len (i := i) hsl
      refine W.skip ?_
      refine XThen.norm ?_
      refine W.seq ?_
      refine W.block ?_
      refine W.seq_region fun K hK => ?_
      simp (disch := omega) only [↓RU, RV, RH, ↓reduceIte, Nat.reduceEqDiff, reduceCtorEq, if_pos, ↓RS, RG, Nat.reduceAdd, Nat.reduceMul, Nat.reduceLeDiff, tyLint, tyint, hw1]
      refine hK _ _ ?_
      clear hK K
      refine W.region_k fun K hK => ?_
      simp (disch := omega) only [↓RU, RV, RH, ↓reduceIte, Nat.reduceEqDiff, reduceCtorEq, if_pos, w64, ↓RS, RG, Nat.reduceAdd, Nat.reduceMul, Nat.reduceLeDiff, tyLint, tyint, hmi, hml, hhl, set_spl, set_int]
      refine hK _ _ ?_
      clear hK K
      refine XBlock.norm ?_
      refine XThen.norm ?_
      refine W.region_k fun K hK => ?_
      simp (disch := omega) only [↓RU, RV, RH, ↓reduceIte, Nat.reduceEqDiff, reduceCtorEq, if_pos, w64, ↓RS, RG, Nat.reduceAdd, Nat.reduceMul, Nat.reduceLeDiff, tyint]
      refine hK _ _ ?_
      clear hK K
      refine XThen.norm ?_
      refine ⟨ws.length - (i + 1), by omega, 1, i + 1, t, tk, rfl, by omega, ?_, ?_⟩
      · simp [Env.put, Env.of]
      · simp only [take_eq, mix_succ hsu hsl]; rfl
    · try simp only [RL] at h1
      obtain rfl : i = ws.length := by omega
      refine W.exit ?_
      refine XThen.exit ?_
      refine XThen.exit ?_
      refine XBlock.hit ?_
      refine XThen.norm ?_
      refine W.seq_region fun K hK => ?_
      simp (disch := omega) only [↓RU, RV, RH, ↓reduceIte, Nat.reduceEqDiff, reduceCtorEq, if_pos, ↓RS, RG, Nat.reduceAdd, Nat.reduceMul, Nat.reduceLeDiff]
      refine hK _ _ ?_
      clear hK K
      refine W.ret ?_
      refine BodyQ.ret rfl ?_
      have hsl : (subL (heaviest M ws (rP p).length) ws).length = (heaviest M ws (rP p).length).length := subL_len
      rw [List.take_of_length_le (by omega), List.drop_of_length_le (by omega), List.append_nil]
      exact sh_one2 rfl (sh_ints _)

theorem sizeSlack_yes {p : List Txt} (hs : Sm p) {ws : List Int} (hw : ws.length ≤ 1048576) (hv : needV p [ws] = true) : PN Tryz.prog 26 [eStrs p, eInts ws] (.tup [.loc 0 0 0 (rP p).length, .bool true]) [.arr 0 3 1 ((slackI (leftG (gP p) p.length (w0 (readG p)) (rP p).length) ws (rP p).length).map (.int .i64))] false := by
  obtain ⟨hpl, hwl, hwok⟩ := needV_one hv
  have hok := (plain_okB hpl).1
  have hg := okB_gw hok
  have hn9 := okB_rooms hok
  have hn1 := okB_rooms1 hok
  obtain ⟨hrm, ⟨rk, hu⟩, -⟩ := plan_all hpl
  generalize hMe : (leftG (gP p) p.length (w0 (readG p)) (rP p).length) = M at hu
  have hhl := heaviest_len (M := M) (ws := ws) (n := (rP p).length)
  have hhb : ∀ (i : Nat) (x : Int), (heaviest M ws (rP p).length)[i]? = some x → 0 ≤ x ∧ x ≤ 909 := hv_bound2 hwok
  have hur := revM_up hu
  have hhb2 : ∀ (i : Nat) (x : Int), (heaviest (revM (rP p).length M) ws (rP p).length)[i]? = some x → 0 ≤ x ∧ x ≤ 909 := hv_bound2 hwok
  obtain ⟨y0, hy0, -⟩ := get_of (show 0 < (heaviest M ws (rP p).length).length by omega)
  have hmx := maxH_bound (M := M) (ws := ws) (n := (rP p).length) hwok
  have hRl := heaviest_len (M := revM (rP p).length M) (ws := ws) (n := (rP p).length)
  have hSl := slackI_len (M := M) (ws := ws) (n := (rP p).length)
  refine PN.of ⟨Tryz.func26, by kernel_rfl, rfl, by kernel_rfl⟩ tabOk mixed (by show 2 ≤ Tryz.f26.ntmps; decide) ?_
  refine W.seq_region fun K hK => ?_
  simp (disch := omega) only [↓RU, RV, RH, ↓reduceIte, Nat.reduceEqDiff, reduceCtorEq, if_pos, ↓RS, RG, Nat.reduceAdd, Nat.reduceMul, Nat.reduceLeDiff]
  refine hK _ _ ?_
  clear hK K
  refine W.seq_region fun K hK => ?_
  simp (disch := omega) only [↓RU, RV, RH, ↓reduceIte, Nat.reduceEqDiff, reduceCtorEq, if_pos, List.append_nil, ↓RS, RG, Nat.reduceAdd, Nat.reduceMul, Nat.reduceLeDiff, tyLLint, tyLint, tyint, hv]
  refine CallR.ev (needing_ev hs (wss := [ws]) (by simp) (by intro a ha; rw [List.mem_singleton] at ha; subst ha; exact hw)) ?_
  rintro _ _ ⟨x, rfl, hx, rfl⟩
  simp (disch := omega) only [↓RU, RV, RH, ↓reduceIte, Nat.reduceEqDiff, reduceCtorEq, if_pos, List.append_nil, ↓RS, RG, Nat.reduceAdd, Nat.reduceMul, Nat.reduceLeDiff, tyLLint, tyLint, tyint, hv]
  refine hK _ _ ?_
  clear hK K
  refine W.seq ?_
  refine W.seq_region fun K hK => ?_
  simp (disch := omega) only [↓RU, RV, RH, ↓reduceIte, Nat.reduceEqDiff, reduceCtorEq, if_pos, ↓RS, RG, Nat.reduceAdd, Nat.reduceMul, Nat.reduceLeDiff]
  refine hK _ _ ?_
  clear hK K
  refine W.cond rfl (fun h => ?_) (fun h => ?_)
  · try simp only [RL] at h
    exact absurd h (by simp)
  · try simp only [RL] at h
    obtain rfl := hx hv
    refine W.skip ?_
    refine XThen.norm ?_
    refine W.seq_region fun K hK => ?_
    simp (disch := omega) only [↓RU, RV, RH, ↓reduceIte, Nat.reduceEqDiff, reduceCtorEq, if_pos, List.append_nil, ↓RS, RG, Nat.reduceAdd, Nat.reduceMul, Nat.reduceLeDiff, tyLLbool, tyLbool, tybool, tyimpl_orders, tyimpl_relation, tystruct_left_impl_relation_above_impl_relation_, hMe]
    refine CallR.pc (orders_pc hg rfl hn9 hrm) rfl (.inl rfl) ?_
    simp (disch := omega) only [↓RU, RV, RH, ↓reduceIte, Nat.reduceEqDiff, reduceCtorEq, if_pos, List.append_nil, ↓RS, RG, Nat.reduceAdd, Nat.reduceMul, Nat.reduceLeDiff, tyLLbool, tyLbool, tybool, tyimpl_orders, tyimpl_relation, tystruct_left_impl_relation_above_impl_relation_, hMe]
    refine hK _ _ ?_
    clear hK K
    refine W.seq_region fun K hK => ?_
    simp (disch := omega) only [↓RU, RV, RH, ↓reduceIte, Nat.reduceEqDiff, reduceCtorEq, if_pos, List.append_nil, ↓RS, RG, Nat.reduceAdd, Nat.reduceMul, Nat.reduceLeDiff]
    refine CallR.pn (heaviest_pn hu hn9 hwl hwok) rfl (.inl rfl) ?_
    simp (disch := omega) only [↓RU, RV, RH, ↓reduceIte, Nat.reduceEqDiff, reduceCtorEq, if_pos, List.append_nil, ↓RS, RG, Nat.reduceAdd, Nat.reduceMul, Nat.reduceLeDiff, RN]
    refine CallR.pc (reversed_pc hu.sq hn9) rfl (.inl rfl) ?_
    simp (disch := omega) only [↓RU, RV, RH, ↓reduceIte, Nat.reduceEqDiff, reduceCtorEq, if_pos, List.append_nil, ↓RS, RG, Nat.reduceAdd, Nat.reduceMul, Nat.reduceLeDiff]
    refine CallR.pn (heaviest_pn hur hn9 hwl hwok) rfl (.inl rfl) ?_
    simp (disch := omega) only [↓RU, RV, RH, ↓reduceIte, Nat.reduceEqDiff, reduceCtorEq, if_pos, List.append_nil, ↓RS, RG, Nat.reduceAdd, Nat.reduceMul, Nat.reduceLeDiff, RN]
    refine hK _ _ ?_
    clear hK K
    refine W.seq_region fun K hK => ?_
    simp (disch := omega) only [↓RU, RV, RH, ↓reduceIte, Nat.reduceEqDiff, reduceCtorEq, if_pos, List.append_nil, ↓RS, RG, Nat.reduceAdd, Nat.reduceMul, Nat.reduceLeDiff]
    refine CallR.pc (max_pc hy0 (by omega)) (mapM_one (reify_hv (k := 8) rfl) rfl) (.inl rfl) ?_
    simp (disch := omega) only [↓RU, RV, RH, ↓reduceIte, Nat.reduceEqDiff, reduceCtorEq, if_pos, List.append_nil, ↓RS, RG, Nat.reduceAdd, Nat.reduceMul, Nat.reduceLeDiff]
    refine hK _ _ ?_
    clear hK K
    refine W.joinS [1, 9, 10, 11, 12] (fun vs S => ∃ t tk : Nat, vs = [eInts ws, eInts (heaviest M ws (rP p).length), eInts (heaviest (revM (rP p).length M) ws (rP p).length), .int .i64 (maxL (heaviest M ws (rP p).length)), .loc 0 t 0 (rP p).length] ∧ S = ⟨[.arr t 3 1 ((List.replicate (rP p).length (0 : Int)).map (.int .i64))], tk⟩) ?_ ?_
    ·
      refine W.region_k fun K hK => ?_
      simp (disch := omega) only [↓RU, RV, RH, ↓reduceIte, Nat.reduceEqDiff, reduceCtorEq, if_pos, ↓RS, RG, Nat.reduceAdd, Nat.reduceMul, Nat.reduceLeDiff, tyLint, tyint, hwl, repz_int, ile_true]
      refine hK _ _ ?_
      clear hK K
      refine XThen.norm ?_
      refine ⟨0, [3], [eInts ws, eInts (heaviest M ws (rP p).length), eInts (heaviest (revM (rP p).length M) ws (rP p).length), .int .i64 (maxL (heaviest M ws (rP p).length)), .loc 0 4 0 (rP p).length], ⟨[.arr 4 3 1 ((List.replicate (rP p).length (0 : Int)).map (.int .i64))], 5⟩, ?_, ?_, 4, 5, rfl, rfl⟩
      · simp [-List.mapM_map, Env.put, Env.of, argEnv, Srn_eq, rnObs_cons, rnObs_nil, rnOb_arr, rnOb_map, rn_loc, rn_ref, rn_mp, rn_int, rn_bool, rn_str, rn_ip, rn_sl, rn_nils, rn_nilp, rn_undef, rn_agg, rn_tup, rn_fn, rfq_loc, rfq_int, rfq_bool, rfq_str, rfq_sl, frOf, List.range_succ, List.mapM_append, List.mapM_cons, heaviest_len, hv_tk, rfq_ints]
      · simp [-List.mapM_map, Env.put, Env.of, argEnv, Srn_eq, rnObs_cons, rnObs_nil, rnOb_arr, rnOb_map, rn_loc, rn_ref, rn_mp, rn_int, rn_bool, rn_str, rn_ip, rn_sl, rn_nils, rn_nilp, rn_undef, rn_agg, rn_tup, rn_fn, rfq_loc, rfq_int, rfq_bool, rfq_str, rfq_sl, frOf, List.range_succ, List.mapM_append, List.mapM_cons, rn_rep0]
    rintro vs S - ⟨t0, tk0, rfl, rfl⟩
    refine W.seq ?_
    refine W.seq_region fun K hK => ?_
    simp (disch := omega) only [↓RU, RV, RH, ↓reduceIte, Nat.reduceEqDiff, reduceCtorEq, if_pos, ↓RS, RG, Nat.reduceAdd, Nat.reduceMul, Nat.reduceLeDiff, tyLint, tyint, hwl]
    refine hK _ _ ?_
    clear hK K
    refine W.block ?_
    refine W.loop [1, 9, 10, 11, 12, 39, 40, 41] (fun n vs S => ∃ i t tk : Nat, n = (rP p).length - i ∧ i ≤ (rP p).length ∧ vs = [eInts ws, eInts (heaviest M ws (rP p).length), eInts (heaviest (revM (rP p).length M) ws (rP p).length), .int .i64 (maxL (heaviest M ws (rP p).length)), .loc 0 t 0 (rP p).length, eInts ws, .int .i64 (rP p).length, .int .i64 i] ∧ S = ⟨[.arr t 3 1 (((slackI M ws (rP p).length).take i ++ (List.replicate (rP p).length (0 : Int)).drop i).map (.int .i64))], tk⟩) (rP p).length ?_ ?_
    · refine ⟨1, 0, t0, tk0, rfl, by omega, ?_, rfl⟩
      simp [Env.put, Env.of, argEnv]
    rintro n vs S - ⟨i, t, tk, rfl, h_i, rfl, rfl⟩
    refine W.seq_region fun K hK => ?_
    simp (disch := omega) only [↓RU, RV, RH, ↓reduceIte, Nat.reduceEqDiff, reduceCtorEq, if_pos, w64, ↓RS, RG, Nat.reduceAdd, Nat.reduceMul, Nat.reduceLeDiff, tyint]
    refine hK _ _ ?_
    clear hK K
    refine W.seq ?_
    refine W.cond rfl (fun h1 => ?_) (fun h1 => ?_)
    · try simp only [RL] at h1
      obtain ⟨w, hw1, hwm⟩ := get_of (show i < ws.length by omega)
      have hw9 := hwok w hwm
      have hy := hv_at (M := M) (ws := ws) (n := (rP p).length) (b := i) (by omega)
      have hy9 := hhb i _ hy
      have hz := hv_at (M := revM (rP p).length M) (ws := ws) (n := (rP p).length) (b := i) (by omega)
      have hz9 := hhb2 i _ hz
      have hsu := slackI_take (M := M) (n := (rP p).length) (show i < (rP p).length by omega) hw1
      have hsl : (slackI M ws (rP p).length).length = (List.replicate (rP p).length (0 : Int)).length := by simp [hSl]
      have hml := mix_len (i := i) hsl
      rw [List.length_replicate] at hml
      refine W.skip ?_
      refine XThen.norm ?_
      refine W.seq ?_
      refine W.block ?_
      refine W.seq_region fun K hK => ?_
      simp (disch := omega) only [↓RU, RV, RH, ↓reduceIte, Nat.reduceEqDiff, reduceCtorEq, if_pos, ↓RS, RG, Nat.reduceAdd, Nat.reduceMul, Nat.reduceLeDiff, tyLint, tyint, hw1]
      refine hK _ _ ?_
      clear hK K
      refine W.draw_k (by kernel_rfl) fun K hK => ?_
      simp (disch := omega) only [↓RU, RV, RH, ↓reduceIte, Nat.reduceEqDiff, reduceCtorEq, if_pos, w64, ↓RS, RG, Nat.reduceAdd, Nat.reduceMul, Nat.reduceLeDiff, tyLint, tyint, hz, hy, hw1, hRl, hhl, hml, set_spl, set_int]
      refine hK _ _ ?_
      clear hK K
      refine XBlock.norm ?_
      refine XThen.norm ?_
      refine W.region_k fun K hK => ?_
      simp (disch := omega) only [↓RU, RV, RH, ↓reduceIte, Nat.reduceEqDiff, reduceCtorEq, if_pos, w64, ↓RS, RG, Nat.reduceAdd, Nat.reduceMul, Nat.reduceLeDiff, tyint]
      refine hK _ _ ?_
      clear hK K
      refine XThen.norm ?_
      refine ⟨(rP p).length - (i + 1), by omega, 1, i + 1, t, tk, rfl, by omega, ?_, ?_⟩
      · simp [Env.put, Env.of]
      · simp only [take_eq, mix_succ hsu hsl]; rfl
    · try simp only [RL] at h1
      obtain rfl : (rP p).length = i := by omega
      refine W.exit ?_
      refine XThen.exit ?_
      refine XThen.exit ?_
      refine XBlock.hit ?_
      refine XThen.norm ?_
      refine W.seq_region fun K hK => ?_
      simp (disch := omega) only [↓RU, RV, RH, ↓reduceIte, Nat.reduceEqDiff, reduceCtorEq, if_pos, ↓RS, RG, Nat.reduceAdd, Nat.reduceMul, Nat.reduceLeDiff]
      refine hK _ _ ?_
      clear hK K
      refine W.ret ?_
      refine BodyQ.ret rfl ?_
      have hsl : (slackI M ws (rP p).length).length = (List.replicate (rP p).length (0 : Int)).length := by simp [hSl]
      rw [List.take_of_length_le (by omega), List.drop_of_length_le (by simp), List.append_nil]
      exact sh_one2 rfl (sh_ints _)

end Fw
end Go.Proofs.YtcglmbijpjhbmaaGreat

/-! Orders of two rooms, gone through. -/
namespace Go.Proofs.YtcglmbijpjhbmaaGreat
namespace Fw
open Go

end Fw
end Go.Proofs.YtcglmbijpjhbmaaGreat

/-! The laws of left and above, gone through. -/
namespace Go.Proofs.YtcglmbijpjhbmaaGreat
namespace Fw
open Go

end Fw
end Go.Proofs.YtcglmbijpjhbmaaGreat

/-! The law of places, gone through. -/
namespace Go.Proofs.YtcglmbijpjhbmaaGreat
namespace Fw
open Go

theorem sameInts_pc {p q : List Int} (hp : p.length < 2147483648) (hq : q.length < 2147483648) : PC Tryz.prog 23 [eInts p, eInts q] (.bool (decide (p = q))) true := by
  refine PC.of ⟨Tryz.func23, by kernel_rfl, rfl, by kernel_rfl⟩ tabOk mixed (by show 2 ≤ Tryz.f23.ntmps; decide) ?_
  refine W.seq_region fun K hK => ?_
  simp (disch := omega) only [↓RU, RV, RH, ↓reduceIte, Nat.reduceEqDiff, reduceCtorEq, if_pos]
  refine hK _ _ ?_
  clear hK K
  refine W.seq ?_
  refine W.seq_region fun K hK => ?_
  simp (disch := omega) only [↓RU, RV, RH, ↓reduceIte, Nat.reduceEqDiff, reduceCtorEq, if_pos, w64, tyLint, tyint]
  refine hK _ _ ?_
  clear hK K
  refine W.cond rfl (fun h => ?_) (fun h => ?_)
  · try simp only [RL] at h
    refine W.seq_region fun K hK => ?_
    simp (disch := omega) only [↓RU, RV, RH, ↓reduceIte, Nat.reduceEqDiff, reduceCtorEq, if_pos]
    refine hK _ _ ?_
    clear hK K
    refine W.ret ?_
    refine XThen.ret ?_
    refine BodyQ.ret rfl ?_
    rw [show decide (p = q) = false by simp; rintro rfl; exact h rfl]
    rfl
  · try simp only [RL] at h
    refine W.skip ?_
    refine XThen.norm ?_
    refine W.seq ?_
    refine W.seq_region fun K hK => ?_
    simp (disch := omega) only [↓RU, RV, RH, ↓reduceIte, Nat.reduceEqDiff, reduceCtorEq, if_pos]
    refine hK _ _ ?_
    clear hK K
    refine W.block ?_
    refine W.loop [0, 1, 5] (fun n vs S => ∃ i : Nat, n = p.length - i ∧ i ≤ p.length ∧ (p.take i = q.take i) ∧ vs = [eInts p, eInts q, .int .i64 i] ∧ S = ⟨[], 0⟩) (p.length) ?_ ?_
    · refine ⟨0, 0, rfl, Nat.zero_le _, rfl, ?_, rfl⟩
      simp [Env.put, Env.of, argEnv]
    rintro n vs S - ⟨i, rfl, h_i, htk, rfl, rfl⟩
    refine W.seq ?_
    refine W.seq_region fun K hK => ?_
    simp (disch := omega) only [↓RU, RV, RH, ↓reduceIte, Nat.reduceEqDiff, reduceCtorEq, if_pos, w64, tyLint, tyint]
    refine hK _ _ ?_
    clear hK K
    refine W.cond rfl (fun h1 => ?_) (fun h1 => ?_)
    · try simp only [RL] at h1
      obtain ⟨x, hx, -⟩ := get_of (show i < p.length by omega)
      obtain ⟨y, hy, -⟩ := get_of (show i < q.length by omega)
      refine W.skip ?_
      refine XThen.norm ?_
      refine W.seq ?_
      refine W.block ?_
      refine W.seq_draw (by kernel_rfl) fun K hK => ?_
      simp (disch := omega) only [↓RU, RV, RH, ↓reduceIte, Nat.reduceEqDiff, reduceCtorEq, if_pos, w64, tyLint, tyint, hx, hy]
      refine hK _ _ ?_
      clear hK K
      refine W.cond rfl (fun h2 => ?_) (fun h2 => ?_)
      · try simp only [RL] at h2
        refine W.seq_region fun K hK => ?_
        simp (disch := omega) only [↓RU, RV, RH, ↓reduceIte, Nat.reduceEqDiff, reduceCtorEq, if_pos]
        refine hK _ _ ?_
        clear hK K
        refine W.ret ?_
        refine XBlock.ret ?_
        refine XThen.ret ?_
        refine XThen.ret ?_
        refine XBlock.ret ?_
        refine XThen.ret ?_
        refine BodyQ.ret rfl ?_
        rw [show decide (p = q) = false by simp; rintro rfl; rw [hx] at hy; simp_all]
        rfl
      · try simp only [RL] at h2
        have h2 : x = y := by simpa using h2
        refine W.skip ?_
        refine XBlock.norm ?_
        refine XThen.norm ?_
        refine W.region_k fun K hK => ?_
        simp (disch := omega) only [↓RU, RV, RH, ↓reduceIte, Nat.reduceEqDiff, reduceCtorEq, if_pos, w64, tyint]
        refine hK _ _ ?_
        clear hK K
        refine XThen.norm ?_
        refine ⟨p.length - (i + 1), by omega, 0, i + 1, rfl, by omega, take_eq_succ htk hx hy h2, ?_, rfl⟩
        simp [Env.put, Env.of]
    · try simp only [RL] at h1
      refine W.exit ?_
      refine XThen.exit ?_
      refine XThen.exit ?_
      refine XBlock.hit ?_
      refine XThen.norm ?_
      refine W.seq_region fun K hK => ?_
      simp (disch := omega) only [↓RU, RV, RH, ↓reduceIte, Nat.reduceEqDiff, reduceCtorEq, if_pos]
      refine hK _ _ ?_
      clear hK K
      refine W.ret ?_
      refine BodyQ.ret rfl ?_
      have h1 : p.take i = p := List.take_of_length_le (by omega)
      have h2 : q.take i = q := List.take_of_length_le (by omega)
      rw [show decide (p = q) = true by simp; rw [← h1, ← h2]; exact htk]
      rfl

theorem PN.ints {P : Program} {f : FuncId} {args : List PV} {l : List Int} {n : Nat} {b im : Bool} (h : PN P f args (.tup [.loc 0 0 0 n, .bool b]) [.arr 0 3 1 (l.map (.int .i64))] im) (h1 : args.mapM (reify ⟨[], 0⟩ true 10) = some args) (hl : l.length = n) : PC P f args (.tup [eInts l, .bool b]) true := by
  refine PN.pc h h1 ?_
  subst hl
  simp only [up_tup, up_loc, up_bool, List.map_cons, List.map_nil, upOb_arr, up_ints, Nat.add_zero]
  show (([PV.loc 0 0 0 l.length, PV.bool b]).mapM (reify _ _ 9)).map PV.tup = _
  rw [mapM_one (reify_loc (k := 8) rfl (by simp) (mapM_int _)) (mapM_one rfl rfl)]
  rfl
theorem needsB_needV {p : List Txt} {ws : List Int} : needsB p ws = needV p [ws] := (needV_needs).symm
theorem placesV_yes {p : List Txt} {ws : List Int} (h : needV p [ws] = true) : placesV p ws = subL (heaviest (lfM p) ws (rP p).length) ws := by
  obtain ⟨s0, -, u0, -, hl, -, -⟩ := plan_same h
  rw [lf_eq] at s0 u0
  unfold placesV
  rw [needsB_needV, h, if_pos rfl, places_eq s0 u0 hl]
theorem placesV_no {p : List Txt} {ws : List Int} (h : needV p [ws] = false) : placesV p ws = [] := by
  unfold placesV
  rw [needsB_needV, h]; rfl
theorem sizePlaces_pc {p : List Txt} (hs : Sm p) {ws : List Int} (hw : ws.length ≤ 1048576) : PC Tryz.prog 21 [eStrs p, eInts ws] (.tup [eInts (placesV p ws), .bool (needV p [ws])]) true := by
  cases h : needV p [ws] with
  | false => rw [placesV_no h]; exact sizePlaces_no hs hw h
  | true =>
    rw [placesV_yes h, ← lf_eq]
    exact PN.ints (sizePlaces_yes hs hw h) rfl (by rw [subL_len, heaviest_len])

end Fw
end Go.Proofs.YtcglmbijpjhbmaaGreat

/-! The law of slack, gone through. -/
namespace Go.Proofs.YtcglmbijpjhbmaaGreat
namespace Fw
open Go

theorem slackV_yes {p : List Txt} {ws : List Int} (h : needV p [ws] = true) : slackV p ws = slackI (lfM p) ws (rP p).length := by
  obtain ⟨s0, -, u0, -, hl, hn, hw⟩ := plan_same h
  rw [lf_eq] at s0 u0
  unfold slackV
  rw [needsB_needV, h, if_pos rfl, slack_eq s0 u0 hl hn hw]
theorem slackV_no {p : List Txt} {ws : List Int} (h : needV p [ws] = false) : slackV p ws = [] := by
  unfold slackV
  rw [needsB_needV, h]; rfl
theorem slackV_len {p : List Txt} {ws : List Int} : (slackV p ws).length ≤ 9 := by
  cases h : needV p [ws] with
  | false => rw [slackV_no h]; simp
  | true => rw [slackV_yes h, slackI_len]; exact (needV_all h).2.2.2.2.1
theorem sizeSlack_pc {p : List Txt} (hs : Sm p) {ws : List Int} (hw : ws.length ≤ 1048576) : PC Tryz.prog 26 [eStrs p, eInts ws] (.tup [eInts (slackV p ws), .bool (needV p [ws])]) true := by
  cases h : needV p [ws] with
  | false => rw [slackV_no h]; exact sizeSlack_no hs hw h
  | true =>
    rw [slackV_yes h, ← lf_eq]
    exact PN.ints (sizeSlack_yes hs hw h) rfl slackI_len
/-- The needs of the rooms without slack. -/
def zsum (ws s : List Int) (i : Nat) : Int := (List.range i).foldl (fun m k => if getI s k = 0 then m + getI ws k else m) 0
theorem zsum_succ {ws s : List Int} {i : Nat} : zsum ws s (i + 1) = if getI s i = 0 then zsum ws s i + getI ws i else zsum ws s i := by unfold zsum; rw [foldl_rg]
theorem zsum_bnd {ws s : List Int} (hw : NeedOk ws) : ∀ i, i ≤ ws.length → 0 ≤ zsum ws s i ∧ zsum ws s i ≤ 9 * i := by
  intro i
  induction i with
  | zero => intro _; exact ⟨Int.le_refl _, Int.le_refl _⟩
  | succ i ih =>
    intro hi
    have h1 := ih (by omega)
    have h2 := need_at hw (show i < ws.length by omega)
    rw [zsum_succ]
    split <;> omega
theorem zsum_is {p : List Txt} {ws : List Int} : ∀ i, i ≤ (rP p).length → zsum ws (slackI (lfM p) ws (rP p).length) i = wsum ws i (fun a => decide (slackF (lfM p) ws (rP p).length a = 0)) := by
  intro i
  induction i with
  | zero => intro _; rfl
  | succ i ih =>
    intro hi
    rw [zsum_succ, wsum_succ, ih (by omega)]
    have e : getI (slackI (lfM p) ws (rP p).length) i = slackF (lfM p) ws (rP p).length i := getI_map (by omega)
    rw [e]
    by_cases q : slackF (lfM p) ws (rP p).length i = 0 <;> simp [q]

theorem slack_law {code : Txt} (hcode : code.length ≤ 9223372036854775807) : PC Tryz.prog 5 [eBy code] (.bool true) true := by
  refine PC.of ⟨Tryz.func5, by kernel_rfl, rfl, by kernel_rfl⟩ tabOk mixed (by show 1 ≤ Tryz.f5.ntmps; decide) ?_
  refine W.seq_region fun K hK => ?_
  simp (disch := omega) only [↓RU, RV, RH, ↓reduceIte, Nat.reduceEqDiff, reduceCtorEq, if_pos, ↓RS, RG, Nat.reduceAdd, Nat.reduceMul, Nat.reduceLeDiff]
  refine hK _ _ ?_
  clear hK K
  refine W.seq ?_
  refine W.seq_region fun K hK => ?_
  simp (disch := omega) only [↓RU, RV, RH, ↓reduceIte, Nat.reduceEqDiff, reduceCtorEq, if_pos, w64, ↓RS, RG, Nat.reduceAdd, Nat.reduceMul, Nat.reduceLeDiff, tyLuint8, tyint, tyuint8]
  refine hK _ _ ?_
  clear hK K
  refine W.cond rfl (fun h0 => ?_) (fun h0 => ?_)
  · try simp only [RL] at h0
    refine W.seq_region fun K hK => ?_
    simp (disch := omega) only [↓RU, RV, RH, ↓reduceIte, Nat.reduceEqDiff, reduceCtorEq, if_pos, ↓RS, RG, Nat.reduceAdd, Nat.reduceMul, Nat.reduceLeDiff]
    refine hK _ _ ?_
    clear hK K
    refine W.ret ?_
    refine XThen.ret ?_
    refine BodyQ.ret rfl ?_
    rfl
  · try simp only [RL] at h0
    have hcl : code.length ≤ 1048576 := by omega
    refine W.skip ?_
    refine XThen.norm ?_
    refine W.seq_region fun K hK => ?_
    simp (disch := omega) only [↓RU, RV, RH, ↓reduceIte, Nat.reduceEqDiff, reduceCtorEq, if_pos, List.append_nil, ↓RS, RG, Nat.reduceAdd, Nat.reduceMul, Nat.reduceLeDiff]
    refine CallR.ev (drawSizeSlack_ev hcl) ?_
    rintro _ _ ⟨p, ws, t, hs, hwl, rfl, rfl⟩
    simp (disch := omega) only [↓RU, RV, RH, ↓reduceIte, Nat.reduceEqDiff, reduceCtorEq, if_pos, List.append_nil, ↓RS, RG, Nat.reduceAdd, Nat.reduceMul, Nat.reduceLeDiff]
    refine hK _ _ ?_
    clear hK K
    have hpl := slackV_len (p := p) (ws := ws)
    refine W.seq_region fun K hK => ?_
    simp (disch := omega) only [↓RU, RV, RH, ↓reduceIte, Nat.reduceEqDiff, reduceCtorEq, if_pos, List.append_nil, ↓RS, RG, Nat.reduceAdd, Nat.reduceMul, Nat.reduceLeDiff]
    refine CallR.pc (sizeSlack_pc hs (by omega)) rfl (.inl rfl) ?_
    simp (disch := omega) only [↓RU, RV, RH, ↓reduceIte, Nat.reduceEqDiff, reduceCtorEq, if_pos, List.append_nil, ↓RS, RG, Nat.reduceAdd, Nat.reduceMul, Nat.reduceLeDiff]
    refine hK _ _ ?_
    clear hK K
    refine W.seq_region fun K hK => ?_
    simp (disch := omega) only [↓RU, RV, RH, ↓reduceIte, Nat.reduceEqDiff, reduceCtorEq, if_pos, List.append_nil, ↓RS, RG, Nat.reduceAdd, Nat.reduceMul, Nat.reduceLeDiff]
    refine CallR.pc (sSizeSlack_pc hs (by omega)) rfl (.inr rfl) ?_
    simp (disch := omega) only [↓RU, RV, RH, ↓reduceIte, Nat.reduceEqDiff, reduceCtorEq, if_pos, List.append_nil, ↓RS, RG, Nat.reduceAdd, Nat.reduceMul, Nat.reduceLeDiff]
    refine hK _ _ ?_
    clear hK K
    rw [needsB_needV]
    refine W.seq ?_
    refine W.seq_region fun K hK => ?_
    cases hv : needV p [ws]
    · skip
      simp (disch := omega) only [↓RU, RV, RH, ↓reduceIte, Nat.reduceEqDiff, reduceCtorEq, if_pos, w64, List.append_nil, ↓RS, RG, Nat.reduceAdd, Nat.reduceMul, Nat.reduceLeDiff, tybool, pEq_bb, Option.map_some, bne_self_eq_false, beq_self_eq_true, Bool.not_true, Bool.not_false, decide_true, hv]
      refine CallR.pc (sameInts_pc (p := slackV p ws) (q := slackV p ws) (by omega) (by omega)) rfl (.inl rfl) ?_
      simp (disch := omega) only [↓RU, RV, RH, ↓reduceIte, Nat.reduceEqDiff, reduceCtorEq, if_pos, w64, List.append_nil, ↓RS, RG, Nat.reduceAdd, Nat.reduceMul, Nat.reduceLeDiff, tybool, pEq_bb, Option.map_some, bne_self_eq_false, beq_self_eq_true, Bool.not_true, Bool.not_false, decide_true, hv]
      refine hK _ _ ?_
      clear hK K
      refine W.cond rfl (fun h1 => ?_) (fun h1 => ?_)
      · try simp only [RL] at h1
        refine W.seq_region fun K hK => ?_
        simp (disch := omega) only [↓RU, RV, RH, ↓reduceIte, Nat.reduceEqDiff, reduceCtorEq, if_pos, w64, List.append_nil, ↓RS, RG, Nat.reduceAdd, Nat.reduceMul, Nat.reduceLeDiff, tybool, pEq_bb, Option.map_some, bne_self_eq_false, beq_self_eq_true, Bool.not_true, Bool.not_false, decide_true]
        refine CallR.pc (sameInts_pc (p := slackV p ws) (q := slackV p ws) (by omega) (by omega)) rfl (.inl rfl) ?_
        simp (disch := omega) only [↓RU, RV, RH, ↓reduceIte, Nat.reduceEqDiff, reduceCtorEq, if_pos, w64, List.append_nil, ↓RS, RG, Nat.reduceAdd, Nat.reduceMul, Nat.reduceLeDiff, tybool, pEq_bb, Option.map_some, bne_self_eq_false, beq_self_eq_true, Bool.not_true, Bool.not_false, decide_true]
        refine hK _ _ ?_
        clear hK K
        refine W.ret ?_
        refine XThen.ret ?_
        refine BodyQ.ret rfl ?_
        rfl
      · try simp only [RL] at h1
        exact absurd h1 (by simp)
    · skip
      simp (disch := omega) only [↓RU, RV, RH, ↓reduceIte, Nat.reduceEqDiff, reduceCtorEq, if_pos, w64, List.append_nil, ↓RS, RG, Nat.reduceAdd, Nat.reduceMul, Nat.reduceLeDiff, tybool, pEq_bb, Option.map_some, bne_self_eq_false, beq_self_eq_true, Bool.not_true, Bool.not_false, decide_true, hv]
      refine CallR.pc (sameInts_pc (p := slackV p ws) (q := slackV p ws) (by omega) (by omega)) rfl (.inl rfl) ?_
      simp (disch := omega) only [↓RU, RV, RH, ↓reduceIte, Nat.reduceEqDiff, reduceCtorEq, if_pos, w64, List.append_nil, ↓RS, RG, Nat.reduceAdd, Nat.reduceMul, Nat.reduceLeDiff, tybool, pEq_bb, Option.map_some, bne_self_eq_false, beq_self_eq_true, Bool.not_true, Bool.not_false, decide_true, hv]
      refine hK _ _ ?_
      clear hK K
      refine W.cond rfl (fun h1 => ?_) (fun h1 => ?_)
      · try simp only [RL] at h1
        exact absurd h1 (by simp)
      · try simp only [RL] at h1
        obtain ⟨u1, -, q1, q2, q3, q4, -⟩ := needV_all hv
        have hsv := slackV_yes hv
        obtain ⟨Q, hQ⟩ : ∃ Q, slackV p ws = Q := ⟨_, rfl⟩
        have hQl : Q.length = (rP p).length := by rw [← hQ, hsv, slackI_len]
        have hpv := placesV_yes hv
        obtain ⟨O, hO⟩ : ∃ O, placesV p ws = O := ⟨_, rfl⟩
        have hOl : O.length = (rP p).length := by rw [← hO, hpv, subL_len, heaviest_len]
        have hsf : ∀ {x : Nat} {o w s : Int}, x < (rP p).length → O[x]? = some o → ws[x]? = some w → Q[x]? = some s → _ := fun hx ho hw hs => slack_facts hv hx (by rw [← hpv, hO]; exact ho) hw (by rw [← hsv, hQ]; exact hs)
        have hpf : ∀ {x : Nat} {o w : Int}, x < (rP p).length → O[x]? = some o → ws[x]? = some w → _ := fun hx ho hw => place_facts hv hx (by rw [← hpv, hO]; exact ho) hw
        have hzq : zsum ws Q (rP p).length = wsum ws (rP p).length (fun a => decide (slackF (lfM p) ws (rP p).length a = 0)) := by rw [← hQ, hsv]; exact zsum_is _ (Nat.le_refl _)
        have hpath := slack_path u1 q1 q4 q2
        simp only [hQ]
        refine W.skip ?_
        refine XThen.norm ?_
        refine W.seq_region fun K hK => ?_
        simp (disch := omega) only [↓RU, RV, RH, ↓reduceIte, Nat.reduceEqDiff, reduceCtorEq, if_pos, List.append_nil, ↓RS, RG, Nat.reduceAdd, Nat.reduceMul, Nat.reduceLeDiff, lf_eq, sizeV_yes hv]
        refine CallR.pc (sizeWide_pc hs (by omega) all_rm all_up0) rfl (.inl rfl) ?_
        simp (disch := omega) only [↓RU, RV, RH, ↓reduceIte, Nat.reduceEqDiff, reduceCtorEq, if_pos, List.append_nil, ↓RS, RG, Nat.reduceAdd, Nat.reduceMul, Nat.reduceLeDiff, lf_eq, sizeV_yes hv]
        refine hK _ _ ?_
        clear hK K
        refine W.seq_region fun K hK => ?_
        simp (disch := omega) only [↓RU, RV, RH, ↓reduceIte, Nat.reduceEqDiff, reduceCtorEq, if_pos, List.append_nil, ↓RS, RG, Nat.reduceAdd, Nat.reduceMul, Nat.reduceLeDiff, hO, hv]
        refine CallR.pc (sizePlaces_pc hs (by omega)) rfl (.inl rfl) ?_
        simp (disch := omega) only [↓RU, RV, RH, ↓reduceIte, Nat.reduceEqDiff, reduceCtorEq, if_pos, List.append_nil, ↓RS, RG, Nat.reduceAdd, Nat.reduceMul, Nat.reduceLeDiff, hO, hv]
        refine hK _ _ ?_
        clear hK K
        refine W.seq_region fun K hK => ?_
        simp (disch := omega) only [↓RU, RV, RH, ↓reduceIte, Nat.reduceEqDiff, reduceCtorEq, if_pos, ↓RS, RG, Nat.reduceAdd, Nat.reduceMul, Nat.reduceLeDiff]
        refine hK _ _ ?_
        clear hK K
        refine W.seq ?_
        refine W.seq_region fun K hK => ?_
        simp (disch := omega) only [↓RU, RV, RH, ↓reduceIte, Nat.reduceEqDiff, reduceCtorEq, if_pos, ↓RS, RG, Nat.reduceAdd, Nat.reduceMul, Nat.reduceLeDiff]
        refine hK _ _ ?_
        clear hK K
        refine W.block ?_
        refine W.loop [4, 5, 9, 10, 11, 12, 13, 14] (fun n vs S => ∃ i tk : Nat, n = (rP p).length - i ∧ i ≤ (rP p).length ∧ vs = [eInts ws, eInts Q, .int .i64 (maxL (heaviest (lfM p) ws (rP p).length)), .bool true, eInts O, .bool true, .int .i64 (zsum ws Q i), .int .i64 i] ∧ S = ⟨[], tk⟩) (rP p).length ?_ ?_
        · refine ⟨0, 0, t, rfl, by omega, ?_, rfl⟩
          simp [Env.put, Env.of, argEnv, zsum]
        rintro n vs S - ⟨i, tk, rfl, h_i, rfl, rfl⟩
        refine W.seq ?_
        refine W.seq_region fun K hK => ?_
        simp (disch := omega) only [↓RU, RV, RH, ↓reduceIte, Nat.reduceEqDiff, reduceCtorEq, if_pos, w64, ↓RS, RG, Nat.reduceAdd, Nat.reduceMul, Nat.reduceLeDiff, tyLint, tyint]
        refine hK _ _ ?_
        clear hK K
        refine W.cond rfl (fun h2 => ?_) (fun h2 => ?_)
        · try simp only [RL] at h2
          obtain ⟨x, hx, -⟩ := get_of (show i < Q.length by omega)
          obtain ⟨w, hw, -⟩ := get_of (show i < ws.length by omega)
          obtain ⟨o, ho, -⟩ := get_of (show i < O.length by omega)
          obtain ⟨f1, f2, f3, -⟩ := hsf (by omega) ho hw hx
          obtain ⟨g1, g2, -, -, g5, g6, g7, -⟩ := hpf (by omega) ho hw
          have hd1 : decide (x < 0) = false := decide_eq_false (by omega)
          have hd2 : decide (o + x + w > (maxL (heaviest (lfM p) ws (rP p).length))) = false := decide_eq_false (by omega)
          have hzb := zsum_bnd (s := Q) q4 i (by omega)
          refine W.skip ?_
          refine XThen.norm ?_
          refine W.seq ?_
          refine W.block ?_
          refine W.seq ?_
          refine W.seq_draw (by kernel_rfl) fun K hK => ?_
          simp (disch := omega) only [↓RU, RV, RH, ↓reduceIte, Nat.reduceEqDiff, reduceCtorEq, if_pos, w64, ↓RS, RG, Nat.reduceAdd, Nat.reduceMul, Nat.reduceLeDiff, tyLint, tyint, hx, hw, ho, hd1, hd2]
          refine hK _ _ ?_
          clear hK K
          refine W.cond rfl (fun h3 => ?_) (fun h3 => ?_)
          · try simp only [RL] at h3
            exact absurd h3 (by simp)
          · try simp only [RL] at h3
            refine W.skip ?_
            refine XThen.norm ?_
            refine W.seq_region fun K hK => ?_
            simp (disch := omega) only [↓RU, RV, RH, ↓reduceIte, Nat.reduceEqDiff, reduceCtorEq, if_pos, w64, ↓RS, RG, Nat.reduceAdd, Nat.reduceMul, Nat.reduceLeDiff, tyLint, tyint, hx]
            refine hK _ _ ?_
            clear hK K
            refine W.cond rfl (fun h4 => ?_) (fun h4 => ?_)
            · try simp only [RL] at h4
              have hz0 : x = 0 := by simpa using h4
              refine W.region_k fun K hK => ?_
              simp (disch := omega) only [↓RU, RV, RH, ↓reduceIte, Nat.reduceEqDiff, reduceCtorEq, if_pos, w64, ↓RS, RG, Nat.reduceAdd, Nat.reduceMul, Nat.reduceLeDiff, tyLint, tyint, hw]
              refine hK _ _ ?_
              clear hK K
              refine XBlock.norm ?_
              refine XThen.norm ?_
              refine W.region_k fun K hK => ?_
              simp (disch := omega) only [↓RU, RV, RH, ↓reduceIte, Nat.reduceEqDiff, reduceCtorEq, if_pos, w64, ↓RS, RG, Nat.reduceAdd, Nat.reduceMul, Nat.reduceLeDiff, tyint]
              refine hK _ _ ?_
              clear hK K
              refine XThen.norm ?_
              refine ⟨(rP p).length - (i + 1), by omega, 0, i + 1, tk, rfl, by omega, ?_, rfl⟩
              simp [Env.put, Env.of, zsum_succ, getI_is hx, getI_is hw, hz0]
            · try simp only [RL] at h4
              have hz0 : x ≠ 0 := by simpa using h4
              refine W.skip ?_
              refine XBlock.norm ?_
              refine XThen.norm ?_
              refine W.region_k fun K hK => ?_
              simp (disch := omega) only [↓RU, RV, RH, ↓reduceIte, Nat.reduceEqDiff, reduceCtorEq, if_pos, w64, ↓RS, RG, Nat.reduceAdd, Nat.reduceMul, Nat.reduceLeDiff, tyint]
              refine hK _ _ ?_
              clear hK K
              refine XThen.norm ?_
              refine ⟨(rP p).length - (i + 1), by omega, 0, i + 1, tk, rfl, by omega, ?_, rfl⟩
              simp [Env.put, Env.of, zsum_succ, getI_is hx, getI_is hw, hz0]
        · try simp only [RL] at h2
          obtain rfl : i = (rP p).length := by omega
          have hge : decide (zsum ws Q (rP p).length ≥ (maxL (heaviest (lfM p) ws (rP p).length))) = true := decide_eq_true (by rw [hzq]; exact hpath)
          refine W.exit ?_
          refine XThen.exit ?_
          refine XThen.exit ?_
          refine XBlock.hit ?_
          refine XThen.norm ?_
          refine W.seq_region fun K hK => ?_
          simp (disch := omega) only [↓RU, RV, RH, ↓reduceIte, Nat.reduceEqDiff, reduceCtorEq, if_pos, w64, ↓RS, RG, Nat.reduceAdd, Nat.reduceMul, Nat.reduceLeDiff, tyint, hge]
          refine hK _ _ ?_
          clear hK K
          refine W.ret ?_
          refine BodyQ.ret rfl ?_
          rfl

end Fw
end Go.Proofs.YtcglmbijpjhbmaaGreat

/-! Some rooms have no slack, all the way: the law FnSlack answers true for all codes. No condition. -/
namespace Go.Proofs.YtcglmbijpjhbmaaGreat
open Go Go.ChangeShapes Go.WideShapes Go.ChangeAt Go.RowKit Fw

theorem Tryz.ownRn : ownKnob Tryz.prog.godebug = none := by kernel_rfl
theorem Tryz.laidOutRn : laidOutB Tryz.prog = true := by kernel_rfl

set_option maxRecDepth 100000 in
theorem rn_lifted (os : Os) (started : os.Started) (H : Type) (enc : TypeId × Value → H) :
    ReturnsInHanded {} Tryz.checked os 5 .any (Rows.fnSlackSpec.pre6 enc Tryz.prog Tryz.f5 Rows.fnSlackRow.domain false) (Rows.fnSlackSpec.post enc Tryz.prog Tryz.f5 false true false false) := by
  refine returnsInHanded_of_change (C := Tryz.checked) Tryz.ownRn started (by kernel_rfl) Tryz.func5
    (ChangeSpec.witness6 (enc := enc) (C := Tryz.checked) false ⟨#[], #[.slice none 0 0], []⟩ 8 (by kernel_rfl) (by kernel_rfl) (by kernel_rfl) (by kernel_rfl)) ?_
  intro W base args ds gs before hval0 hW hcnd _
  have hval : ∀ (j : Nat) t v, Tryz.f5.params[j]? = some t → args[j]? = some v → Value.okWide Tryz.prog W .any base t v := hval0
  have hW' := hW
  obtain ⟨p, q, hA0, hV, rfl, hfz, hnd⟩ := hW
  have hA : DataW.TrodAll enc Tryz.prog W 0 (fun _ => true) true Tryz.f5.params.toList args.toList ds p := hA0
  rw [Tryz.params5] at hA hval
  obtain ⟨v0, d0, rfl, rfl, h0⟩ := trodAll_one hA
  obtain ⟨rfl, rfl⟩ := trodVars_none hV
  obtain ⟨l0, i0, b0⟩ := vi_bytes (hval 0 _ v0 rfl rfl) h0
  have hlt : ∀ x ∈ p, x.block < W.heap.size := fun x hx => hW'.lt x (by simp [hx])
  refine ((slack_law b0).run (fun b => b < W.heap.size) W #[v0] (fun _ h => h) rfl ?_).mono ?_
  · rintro (_ | i) p c hp hc
    · cases hp; cases hc; exact i0
    · simp at hp
  · rintro e W' ⟨cv, rfl, hB, hr⟩
    have hcv : cv = .bool true := by cases hr; rfl
    subst hcv
    have t0 := Below.trod Tryz.laidOutRn (by kernel_rfl) (of_decide_eq_true (by kernel_rfl)) h0 hB fun x hx => hlt x (by simp [hx])
    refine ⟨_, rfl, _, _, _, [], p, [], hW', ?_, ?_, ?_, hB.frame _, fun h => by cases h⟩
    · exact trodAll_mk1 (shut_bool Tryz.underlying4 true)
    · rw [Tryz.params5]; exact trodAll_mk1 t0
    · trivial
theorem rn_holds : Rows.FnSlackSaid :=
  OpenClaim.holds_of_wide 5 Tryz.f5 rfl rfl rfl rfl rfl rfl rfl ⟨rfl, rfl, rfl, rfl, rfl⟩ rfl rfl rfl rfl rfl (by kernel_rfl) Tryz.func5 (by kernel_rfl)
    (of_decide_eq_true (by kernel_rfl)) (by unfold Func.isWrapper; first | (rw [if_pos (by decide +kernel)]; kernel_rfl) | (rw [if_neg (by decide +kernel)]; exact ⟨rfl, rfl⟩))
    (fun os started H enc _ => rn_lifted os started H enc)
end Go.Proofs.YtcglmbijpjhbmaaGreat
