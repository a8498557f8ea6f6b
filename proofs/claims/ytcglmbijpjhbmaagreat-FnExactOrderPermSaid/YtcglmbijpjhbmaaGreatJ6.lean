/- The program's OrderPerm answers as the specification's, for all arguments, and leaves what it should: the statement FnExactOrderPerm. No condition. -/
import Derived.Test.YtcglmbijpjhbmaaGreatJ5
import Derived.Test.YtcglmbijpjhbmaaGreatJ4
set_option linter.all false
/-! The laws of the orders, gone through. -/
namespace Go.Proofs.YtcglmbijpjhbmaaGreat
namespace Fw
open Go

theorem tStr_pc {p : List Txt} (hp : p.length ≤ 1048576) : PC Tryz.prog 38 [eStrs p] (eStrs p) true :=
  PN.pc (toStringS_pn hp) rfl (by simp only [List.map_cons, List.map_nil, upOb_arr, up_loc, up_strs, Nat.add_zero]; exact reify_loc rfl (by simp) (mapM_str _))

theorem orderPerm_yn {p : List Txt} (hs : Sm p) (hv : plainI p = true) : PN Tryz.prog 48 [eStrs p] (.tup [.loc 0 0 0 (rP p).length, .bool true]) [.arr 0 3 1 ((permV p).map (.int .i64))] false := by
  refine PN.of ⟨Tryz.func48, by kernel_rfl, rfl, by kernel_rfl⟩ tabOk mixed (by show 1 ≤ Tryz.f48.ntmps; decide) ?_
  refine W.seq_region fun K hK => ?_
  simp (disch := omega) only [↓RU, RV, RH, ↓reduceIte, Nat.reduceEqDiff, reduceCtorEq, if_pos, ↓RS, RG, Nat.reduceAdd, Nat.reduceMul, Nat.reduceLeDiff]
  refine hK _ _ ?_
  clear hK K
  refine W.seq_region fun K hK => ?_
  simp (disch := omega) only [↓RU, RV, RH, ↓reduceIte, Nat.reduceEqDiff, reduceCtorEq, if_pos, List.append_nil, ↓RS, RG, Nat.reduceAdd, Nat.reduceMul, Nat.reduceLeDiff, tyLLbool, tyLbool, tybool, tyimpl_orders, tyimpl_relation, tystruct_left_impl_relation_above_impl_relation_]
  refine CallR.pc (ordersOf_yes hs hv) rfl (.inr rfl) ?_
  simp (disch := omega) only [↓RU, RV, RH, ↓reduceIte, Nat.reduceEqDiff, reduceCtorEq, if_pos, List.append_nil, ↓RS, RG, Nat.reduceAdd, Nat.reduceMul, Nat.reduceLeDiff, tyLLbool, tyLbool, tybool, tyimpl_orders, tyimpl_relation, tystruct_left_impl_relation_above_impl_relation_]
  refine hK _ _ ?_
  clear hK K
  refine W.seq ?_
  refine W.seq_region fun K hK => ?_
  simp (disch := omega) only [↓RU, RV, RH, ↓reduceIte, Nat.reduceEqDiff, reduceCtorEq, if_pos, ↓RS, RG, Nat.reduceAdd, Nat.reduceMul, Nat.reduceLeDiff]
  refine hK _ _ ?_
  clear hK K
  refine W.cond rfl (fun h => ?_) (fun h => ?_)
  · try simp only [RL] at h
    exact absurd h (by simp)
  · try simp only [RL] at h
    refine W.skip ?_
    refine XThen.norm ?_
    refine W.joinS [2, 3] (fun vs S => ∃ t tk : Nat, vs = [.loc 0 t 0 (rP p).length, .bool true] ∧ S = ⟨[.arr t 3 1 ((permV p).map (.int .i64))], tk⟩) ?_ ?_
    ·
      refine W.region_k fun K hK => ?_
      simp (disch := omega) only [↓RU, RV, RH, ↓reduceIte, Nat.reduceEqDiff, reduceCtorEq, if_pos, List.append_nil, ↓RS, RG, Nat.reduceAdd, Nat.reduceMul, Nat.reduceLeDiff, tyLLbool, tyLbool, tybool, tyimpl_orders, tyimpl_relation, tystruct_left_impl_relation_above_impl_relation_]
      refine CallR.pn (perm_pn hv) rfl (.inl rfl) ?_
      simp (disch := omega) only [↓RU, RV, RH, ↓reduceIte, Nat.reduceEqDiff, reduceCtorEq, if_pos, List.append_nil, ↓RS, RG, Nat.reduceAdd, Nat.reduceMul, Nat.reduceLeDiff, tyLLbool, tyLbool, tybool, tyimpl_orders, tyimpl_relation, tystruct_left_impl_relation_above_impl_relation_, RN]
      refine hK _ _ ?_
      clear hK K
      refine XThen.norm ?_
      refine ⟨0, [1], [.loc 0 2 0 (rP p).length, .bool true], ⟨[.arr 2 3 1 ((permV p).map (.int .i64))], 3⟩, ?_, ?_, 2, 3, rfl, rfl⟩
      · simp [-List.mapM_map, Env.put, Env.of, argEnv, Srn_eq, rnObs_cons, rnObs_nil, rnOb_arr, rnOb_map, rn_loc, rn_ref, rn_mp, rn_int, rn_bool, rn_str, rn_ip, rn_sl, rn_nils, rn_nilp, rn_undef, rn_agg, rn_tup, rn_fn, rfq_loc, rfq_int, rfq_bool, rfq_str, rfq_sl, frOf, List.range_succ, List.mapM_append, List.mapM_cons, Store.cellsOf]
      · simp [-List.mapM_map, Env.put, Env.of, argEnv, Srn_eq, rnObs_cons, rnObs_nil, rnOb_arr, rnOb_map, rn_loc, rn_ref, rn_mp, rn_int, rn_bool, rn_str, rn_ip, rn_sl, rn_nils, rn_nilp, rn_undef, rn_agg, rn_tup, rn_fn, rfq_loc, rfq_int, rfq_bool, rfq_str, rfq_sl, frOf, List.range_succ, List.mapM_append, List.mapM_cons, rn_ints]
    rintro vs S - ⟨t0, tk0, rfl, rfl⟩
    refine W.ret ?_
    refine BodyQ.ret rfl ?_
    exact sh_one2 rfl (sh_ints _)

theorem orderSecondLaw_no {p : List Txt} (hl : p.length ≤ 9223372036854775807) (hr : ∀ r ∈ p, r.length ≤ 9223372036854775807)
    (hspec : Sm p → PC Tryz.prog 41 [eStrs p] (.tup [eInts ([] : List Int), .bool false]) false)
    (himp : Sm p → PC Tryz.prog 42 [eStrs p] (.tup [eInts [], .bool false]) true) : PC Tryz.prog 9 [eStrs p] (.bool true) true := by
  refine PC.of ⟨Tryz.func9, by kernel_rfl, rfl, by kernel_rfl⟩ tabOk mixed (by show 1 ≤ Tryz.f9.ntmps; decide) ?_
  refine W.seq_region fun K hK => ?_
  simp (disch := omega) only [↓RU, RV, RH, ↓reduceIte, Nat.reduceEqDiff, reduceCtorEq, if_pos, ↓RS, RG, Nat.reduceAdd, Nat.reduceMul, Nat.reduceLeDiff]
  refine hK _ _ ?_
  clear hK K
  refine W.seq_region fun K hK => ?_
  simp (disch := omega) only [↓RU, RV, RH, ↓reduceIte, Nat.reduceEqDiff, reduceCtorEq, if_pos, ↓RS, RG, Nat.reduceAdd, Nat.reduceMul, Nat.reduceLeDiff]
  refine hK _ _ ?_
  clear hK K
  refine W.seq_region fun K hK => ?_
  simp (disch := omega) only [↓RU, RV, RH, ↓reduceIte, Nat.reduceEqDiff, reduceCtorEq, if_pos, List.append_nil, ↓RS, RG, Nat.reduceAdd, Nat.reduceMul, Nat.reduceLeDiff]
  refine CallR.pc (szStringS_pc hl hr (left := 1048576) (by omega) (by omega)) rfl (.inl rfl) ?_
  simp (disch := omega) only [↓RU, RV, RH, ↓reduceIte, Nat.reduceEqDiff, reduceCtorEq, if_pos, List.append_nil, ↓RS, RG, Nat.reduceAdd, Nat.reduceMul, Nat.reduceLeDiff]
  refine hK _ _ ?_
  clear hK K
  refine W.seq ?_
  refine W.seq_region fun K hK => ?_
  simp (disch := omega) only [↓RU, RV, RH, ↓reduceIte, Nat.reduceEqDiff, reduceCtorEq, if_pos, w64, ↓RS, RG, Nat.reduceAdd, Nat.reduceMul, Nat.reduceLeDiff, tyint]
  refine hK _ _ ?_
  clear hK K
  refine W.cond rfl (fun h0 => ?_) (fun h0 => ?_)
  · try simp only [RL] at h0
    refine W.seq_region fun K hK => ?_
    simp (disch := omega) only [↓RU, RV, RH, ↓reduceIte, Nat.reduceEqDiff, reduceCtorEq, if_pos, ↓RS, RG, Nat.reduceAdd, Nat.reduceMul, Nat.reduceLeDiff]
    refine hK _ _ ?_
    clear hK K
    refine W.ret ?_
    refine XThen.ret ?_
    refine BodyQ.ret rfl ?_
    rfl
  · try simp only [RL] at h0
    have hs : Sm p := sz_sm (Int.le_refl _) (by omega)
    have hs1 := hs.1
    refine W.skip ?_
    refine XThen.norm ?_
    refine W.seq_region fun K hK => ?_
    simp (disch := omega) only [↓RU, RV, RH, ↓reduceIte, Nat.reduceEqDiff, reduceCtorEq, if_pos, List.append_nil, ↓RS, RG, Nat.reduceAdd, Nat.reduceMul, Nat.reduceLeDiff]
    refine CallR.pc (tStr_pc hs1) rfl (.inl rfl) ?_
    simp (disch := omega) only [↓RU, RV, RH, ↓reduceIte, Nat.reduceEqDiff, reduceCtorEq, if_pos, List.append_nil, ↓RS, RG, Nat.reduceAdd, Nat.reduceMul, Nat.reduceLeDiff]
    refine CallR.pc (hspec hs) rfl (.inr rfl) ?_
    simp (disch := omega) only [↓RU, RV, RH, ↓reduceIte, Nat.reduceEqDiff, reduceCtorEq, if_pos, List.append_nil, ↓RS, RG, Nat.reduceAdd, Nat.reduceMul, Nat.reduceLeDiff]
    refine hK _ _ ?_
    clear hK K
    refine W.seq_region fun K hK => ?_
    simp (disch := omega) only [↓RU, RV, RH, ↓reduceIte, Nat.reduceEqDiff, reduceCtorEq, if_pos, List.append_nil, ↓RS, RG, Nat.reduceAdd, Nat.reduceMul, Nat.reduceLeDiff]
    refine CallR.pn (toStringS_pn hs1) rfl (.inl rfl) ?_
    simp (disch := omega) only [↓RU, RV, RH, ↓reduceIte, Nat.reduceEqDiff, reduceCtorEq, if_pos, List.append_nil, ↓RS, RG, Nat.reduceAdd, Nat.reduceMul, Nat.reduceLeDiff, RN]
    refine hK _ _ ?_
    clear hK K
    refine W.seq_region fun K hK => ?_
    simp (disch := omega) only [↓RU, RV, RH, ↓reduceIte, Nat.reduceEqDiff, reduceCtorEq, if_pos, List.append_nil, ↓RS, RG, Nat.reduceAdd, Nat.reduceMul, Nat.reduceLeDiff]
    refine CallR.pc (himp hs) (mapM_one (reify_loc (k := 9) rfl (by simp) (mapM_str _)) rfl) (.inl rfl) ?_
    simp (disch := omega) only [↓RU, RV, RH, ↓reduceIte, Nat.reduceEqDiff, reduceCtorEq, if_pos, List.append_nil, ↓RS, RG, Nat.reduceAdd, Nat.reduceMul, Nat.reduceLeDiff]
    refine hK _ _ ?_
    clear hK K
    refine W.seq ?_
    refine W.seq_region fun K hK => ?_
    simp (disch := omega) only [↓RU, RV, RH, ↓reduceIte, Nat.reduceEqDiff, reduceCtorEq, if_pos, List.append_nil, w64, ↓RS, RG, Nat.reduceAdd, Nat.reduceMul, Nat.reduceLeDiff, tybool]
    refine CallR.pc (eqIntS_pc (p := ([] : List Int)) (q := ([] : List Int)) (by simp) (by simp)) (mapM_one rfl (mapM_one rfl rfl)) (.inl rfl) ?_
    simp (disch := omega) only [↓RU, RV, RH, ↓reduceIte, Nat.reduceEqDiff, reduceCtorEq, if_pos, List.append_nil, w64, ↓RS, RG, Nat.reduceAdd, Nat.reduceMul, Nat.reduceLeDiff, tybool, decide_true, Bool.not_true, bne_self_eq_false]
    refine hK _ _ ?_
    clear hK K
    refine W.cond rfl (fun h2 => ?_) (fun h2 => ?_)
    · try simp only [RL] at h2
      first | (exfalso; omega) | exact absurd h2 (by simp)
    · try simp only [RL] at h2
      refine W.skip ?_
      refine XThen.norm ?_
      refine W.seq ?_
      refine W.seq_region fun K hK => ?_
      simp (disch := omega) only [↓RU, RV, RH, ↓reduceIte, Nat.reduceEqDiff, reduceCtorEq, if_pos, List.append_nil, ↓RS, RG, Nat.reduceAdd, Nat.reduceMul, Nat.reduceLeDiff]
      refine CallR.pc (tStr_pc hs1) rfl (.inl rfl) ?_
      simp (disch := omega) only [↓RU, RV, RH, ↓reduceIte, Nat.reduceEqDiff, reduceCtorEq, if_pos, List.append_nil, ↓RS, RG, Nat.reduceAdd, Nat.reduceMul, Nat.reduceLeDiff]
      refine CallR.pc (eqStringS_pc (p := p) (q := p) (by omega) (by omega)) (mapM_one (reify_loc (k := 9) rfl (by simp) (mapM_str _)) (mapM_one rfl rfl)) (.inl rfl) ?_
      simp (disch := omega) only [↓RU, RV, RH, ↓reduceIte, Nat.reduceEqDiff, reduceCtorEq, if_pos, List.append_nil, ↓RS, RG, Nat.reduceAdd, Nat.reduceMul, Nat.reduceLeDiff]
      refine hK _ _ ?_
      clear hK K
      refine W.cond rfl (fun h3 => ?_) (fun h3 => ?_)
      · try simp only [RL] at h3
        first | (exfalso; omega) | exact absurd h3 (by simp)
      · try simp only [RL] at h3
        refine W.skip ?_
        refine XThen.norm ?_
        refine W.seq_region fun K hK => ?_
        simp (disch := omega) only [↓RU, RV, RH, ↓reduceIte, Nat.reduceEqDiff, reduceCtorEq, if_pos, ↓RS, RG, Nat.reduceAdd, Nat.reduceMul, Nat.reduceLeDiff]
        refine hK _ _ ?_
        clear hK K
        refine W.seq_region fun K hK => ?_
        simp (disch := omega) only [↓RU, RV, RH, ↓reduceIte, Nat.reduceEqDiff, reduceCtorEq, if_pos, List.append_nil, ↓RS, RG, Nat.reduceAdd, Nat.reduceMul, Nat.reduceLeDiff]
        refine CallR.ev (markStringS_ev (F := []) (R := []) (l := p) hs1 (k0 := 1) (by omega) (by omega)) ?_
        rintro _ _ ⟨rfl, t1, ht1, rfl⟩
        simp (disch := omega) only [↓RU, RV, RH, ↓reduceIte, Nat.reduceEqDiff, reduceCtorEq, if_pos, List.append_nil, ↓RS, RG, Nat.reduceAdd, Nat.reduceMul, Nat.reduceLeDiff, List.nil_append, List.cons_append, List.append_nil]
        refine hK _ _ ?_
        clear hK K
        refine W.seq ?_
        refine W.seq_region fun K hK => ?_
        have hk0 : decide ((1 + (p.length : Int)) < 0) = false := by simp; omega
        simp (disch := omega) only [↓RU, RV, RH, ↓reduceIte, Nat.reduceEqDiff, reduceCtorEq, if_pos, w64, List.append_nil, ↓RS, RG, Nat.reduceAdd, Nat.reduceMul, Nat.reduceLeDiff, tybool, tyint, hk0]
        refine CallR.pc (eqIntS_pc (p := ([] : List Int)) (q := ([] : List Int)) (by simp) (by simp)) (mapM_one rfl (mapM_one rfl rfl)) (.inl rfl) ?_
        simp (disch := omega) only [↓RU, RV, RH, ↓reduceIte, Nat.reduceEqDiff, reduceCtorEq, if_pos, w64, List.append_nil, ↓RS, RG, Nat.reduceAdd, Nat.reduceMul, Nat.reduceLeDiff, tybool, tyint, hk0, decide_true, Bool.not_true, bne_self_eq_false]
        refine hK _ _ ?_
        clear hK K
        refine W.cond rfl (fun h4 => ?_) (fun h4 => ?_)
        · try simp only [RL] at h4
          first | (exfalso; omega) | exact absurd h4 (by simp)
        · try simp only [RL] at h4
          refine W.skip ?_
          refine XThen.norm ?_
          refine W.seq_region fun K hK => ?_
          simp (disch := omega) only [↓RU, RV, RH, ↓reduceIte, Nat.reduceEqDiff, reduceCtorEq, if_pos, ↓RS, RG, Nat.reduceAdd, Nat.reduceMul, Nat.reduceLeDiff]
          refine hK _ _ ?_
          clear hK K
          refine W.seq_region fun K hK => ?_
          simp (disch := omega) only [↓RU, RV, RH, ↓reduceIte, Nat.reduceEqDiff, reduceCtorEq, if_pos, List.append_nil, ↓RS, RG, Nat.reduceAdd, Nat.reduceMul, Nat.reduceLeDiff]
          refine CallR.pc (markIntS0_pc 1) rfl (.inl rfl) ?_
          simp (disch := omega) only [↓RU, RV, RH, ↓reduceIte, Nat.reduceEqDiff, reduceCtorEq, if_pos, List.append_nil, ↓RS, RG, Nat.reduceAdd, Nat.reduceMul, Nat.reduceLeDiff]
          refine hK _ _ ?_
          clear hK K
          refine W.seq_region fun K hK => ?_
          simp (disch := omega) only [↓RU, RV, RH, ↓reduceIte, Nat.reduceEqDiff, reduceCtorEq, if_pos, ↓RS, RG, Nat.reduceAdd, Nat.reduceMul, Nat.reduceLeDiff]
          refine hK _ _ ?_
          clear hK K
          refine W.seq_region fun K hK => ?_
          simp (disch := omega) only [↓RU, RV, RH, ↓reduceIte, Nat.reduceEqDiff, reduceCtorEq, if_pos, List.append_nil, ↓RS, RG, Nat.reduceAdd, Nat.reduceMul, Nat.reduceLeDiff]
          refine CallR.pc (heldIntS_pc (l := []) (k0 := 1) (by simp) (by omega) (by omega) (fun j h => absurd h (by simp))) rfl (.inl rfl) ?_
          simp (disch := omega) only [↓RU, RV, RH, ↓reduceIte, Nat.reduceEqDiff, reduceCtorEq, if_pos, List.append_nil, ↓RS, RG, Nat.reduceAdd, Nat.reduceMul, Nat.reduceLeDiff, List.length_nil]
          refine hK _ _ ?_
          clear hK K
          refine W.seq ?_
          refine W.seq_region fun K hK => ?_
          simp (disch := omega) only [↓RU, RV, RH, ↓reduceIte, Nat.reduceEqDiff, reduceCtorEq, if_pos, w64, ↓RS, RG, Nat.reduceAdd, Nat.reduceMul, Nat.reduceLeDiff, tyint]
          refine hK _ _ ?_
          clear hK K
          refine W.cond rfl (fun h5 => ?_) (fun h5 => ?_)
          · try simp only [RL] at h5
            first | (exfalso; omega) | exact absurd h5 (by simp)
          · try simp only [RL] at h5
            refine W.skip ?_
            refine XThen.norm ?_
            refine W.seq ?_
            refine W.seq_region fun K hK => ?_
            simp (disch := omega) only [↓RU, RV, RH, ↓reduceIte, Nat.reduceEqDiff, reduceCtorEq, if_pos, w64, ↓RS, RG, Nat.reduceAdd, Nat.reduceMul, Nat.reduceLeDiff, tyint]
            refine hK _ _ ?_
            clear hK K
            refine W.cond rfl (fun h6 => ?_) (fun h6 => ?_)
            · try simp only [RL] at h6
              first | (exfalso; omega) | exact absurd h6 (by simp)
            · try simp only [RL] at h6
              refine W.skip ?_
              refine XThen.norm ?_
              refine W.seq_region fun K hK => ?_
              simp (disch := omega) only [↓RU, RV, RH, ↓reduceIte, Nat.reduceEqDiff, reduceCtorEq, if_pos, List.append_nil, ↓RS, RG, Nat.reduceAdd, Nat.reduceMul, Nat.reduceLeDiff]
              refine CallR.pc (tStr_pc hs1) rfl (.inl rfl) ?_
              simp (disch := omega) only [↓RU, RV, RH, ↓reduceIte, Nat.reduceEqDiff, reduceCtorEq, if_pos, List.append_nil, ↓RS, RG, Nat.reduceAdd, Nat.reduceMul, Nat.reduceLeDiff]
              refine CallR.pc (himp hs) rfl (.inl rfl) ?_
              simp (disch := omega) only [↓RU, RV, RH, ↓reduceIte, Nat.reduceEqDiff, reduceCtorEq, if_pos, List.append_nil, ↓RS, RG, Nat.reduceAdd, Nat.reduceMul, Nat.reduceLeDiff]
              refine hK _ _ ?_
              clear hK K
              refine W.seq ?_
              refine W.seq_region fun K hK => ?_
              simp (disch := omega) only [↓RU, RV, RH, ↓reduceIte, Nat.reduceEqDiff, reduceCtorEq, if_pos, List.append_nil, w64, ↓RS, RG, Nat.reduceAdd, Nat.reduceMul, Nat.reduceLeDiff, tybool]
              refine CallR.pc (eqIntS_pc (p := ([] : List Int)) (q := ([] : List Int)) (by simp) (by simp)) (mapM_one rfl (mapM_one rfl rfl)) (.inl rfl) ?_
              simp (disch := omega) only [↓RU, RV, RH, ↓reduceIte, Nat.reduceEqDiff, reduceCtorEq, if_pos, List.append_nil, w64, ↓RS, RG, Nat.reduceAdd, Nat.reduceMul, Nat.reduceLeDiff, tybool, decide_true, Bool.not_true, bne_self_eq_false]
              refine hK _ _ ?_
              clear hK K
              refine W.cond rfl (fun h7 => ?_) (fun h7 => ?_)
              · try simp only [RL] at h7
                first | (exfalso; omega) | exact absurd h7 (by simp)
              · try simp only [RL] at h7
                refine W.skip ?_
                refine XThen.norm ?_
                refine W.seq_region fun K hK => ?_
                simp (disch := omega) only [↓RU, RV, RH, ↓reduceIte, Nat.reduceEqDiff, reduceCtorEq, if_pos, ↓RS, RG, Nat.reduceAdd, Nat.reduceMul, Nat.reduceLeDiff]
                refine hK _ _ ?_
                clear hK K
                refine W.seq_region fun K hK => ?_
                simp (disch := omega) only [↓RU, RV, RH, ↓reduceIte, Nat.reduceEqDiff, reduceCtorEq, if_pos, List.append_nil, ↓RS, RG, Nat.reduceAdd, Nat.reduceMul, Nat.reduceLeDiff]
                refine CallR.pc (heldIntS_pc (l := []) (k0 := 1) (by simp) (by omega) (by omega) (fun j h => absurd h (by simp))) rfl (.inl rfl) ?_
                simp (disch := omega) only [↓RU, RV, RH, ↓reduceIte, Nat.reduceEqDiff, reduceCtorEq, if_pos, List.append_nil, ↓RS, RG, Nat.reduceAdd, Nat.reduceMul, Nat.reduceLeDiff, List.length_nil]
                refine hK _ _ ?_
                clear hK K
                refine W.seq ?_
                refine W.seq_region fun K hK => ?_
                simp (disch := omega) only [↓RU, RV, RH, ↓reduceIte, Nat.reduceEqDiff, reduceCtorEq, if_pos, w64, ↓RS, RG, Nat.reduceAdd, Nat.reduceMul, Nat.reduceLeDiff, tyint]
                refine hK _ _ ?_
                clear hK K
                refine W.cond rfl (fun h8 => ?_) (fun h8 => ?_)
                · try simp only [RL] at h8
                  first | (exfalso; omega) | exact absurd h8 (by simp)
                · try simp only [RL] at h8
                  refine W.skip ?_
                  refine XThen.norm ?_
                  refine W.seq ?_
                  refine W.seq_region fun K hK => ?_
                  simp (disch := omega) only [↓RU, RV, RH, ↓reduceIte, Nat.reduceEqDiff, reduceCtorEq, if_pos, w64, ↓RS, RG, Nat.reduceAdd, Nat.reduceMul, Nat.reduceLeDiff, tyint]
                  refine hK _ _ ?_
                  clear hK K
                  refine W.cond rfl (fun h9 => ?_) (fun h9 => ?_)
                  · try simp only [RL] at h9
                    first | (exfalso; omega) | exact absurd h9 (by simp)
                  · try simp only [RL] at h9
                    refine W.skip ?_
                    refine XThen.norm ?_
                    refine W.seq_region fun K hK => ?_
                    simp (disch := omega) only [↓RU, RV, RH, ↓reduceIte, Nat.reduceEqDiff, reduceCtorEq, if_pos, ↓RS, RG, Nat.reduceAdd, Nat.reduceMul, Nat.reduceLeDiff]
                    refine hK _ _ ?_
                    clear hK K
                    refine W.ret ?_
                    refine BodyQ.ret rfl ?_
                    rfl

theorem orderSecondLaw_yes {p : List Txt} (hl : p.length ≤ 9223372036854775807) (hr : ∀ r ∈ p, r.length ≤ 9223372036854775807) {Q : List Int} (hQ : Q.length ≤ 9)
    (hspec : Sm p → PC Tryz.prog 41 [eStrs p] (.tup [eInts Q, .bool true]) false)
    (himp : Sm p → PN Tryz.prog 42 [eStrs p] (.tup [.loc 0 0 0 Q.length, .bool true]) [.arr 0 3 1 (Q.map (.int .i64))] false) : PC Tryz.prog 9 [eStrs p] (.bool true) true := by
  refine PC.of ⟨Tryz.func9, by kernel_rfl, rfl, by kernel_rfl⟩ tabOk mixed (by show 1 ≤ Tryz.f9.ntmps; decide) ?_
  refine W.seq_region fun K hK => ?_
  simp (disch := omega) only [↓RU, RV, RH, ↓reduceIte, Nat.reduceEqDiff, reduceCtorEq, if_pos, ↓RS, RG, Nat.reduceAdd, Nat.reduceMul, Nat.reduceLeDiff]
  refine hK _ _ ?_
  clear hK K
  refine W.seq_region fun K hK => ?_
  simp (disch := omega) only [↓RU, RV, RH, ↓reduceIte, Nat.reduceEqDiff, reduceCtorEq, if_pos, ↓RS, RG, Nat.reduceAdd, Nat.reduceMul, Nat.reduceLeDiff]
  refine hK _ _ ?_
  clear hK K
  refine W.seq_region fun K hK => ?_
  simp (disch := omega) only [↓RU, RV, RH, ↓reduceIte, Nat.reduceEqDiff, reduceCtorEq, if_pos, List.append_nil, ↓RS, RG, Nat.reduceAdd, Nat.reduceMul, Nat.reduceLeDiff]
  refine CallR.pc (szStringS_pc hl hr (left := 1048576) (by omega) (by omega)) rfl (.inl rfl) ?_
  simp (disch := omega) only [↓RU, RV, RH, ↓reduceIte, Nat.reduceEqDiff, reduceCtorEq, if_pos, List.append_nil, ↓RS, RG, Nat.reduceAdd, Nat.reduceMul, Nat.reduceLeDiff]
  refine hK _ _ ?_
  clear hK K
  refine W.seq ?_
  refine W.seq_region fun K hK => ?_
  simp (disch := omega) only [↓RU, RV, RH, ↓reduceIte, Nat.reduceEqDiff, reduceCtorEq, if_pos, w64, ↓RS, RG, Nat.reduceAdd, Nat.reduceMul, Nat.reduceLeDiff, tyint]
  refine hK _ _ ?_
  clear hK K
  refine W.cond rfl (fun h0 => ?_) (fun h0 => ?_)
  · try simp only [RL] at h0
    refine W.seq_region fun K hK => ?_
    simp (disch := omega) only [↓RU, RV, RH, ↓reduceIte, Nat.reduceEqDiff, reduceCtorEq, if_pos, ↓RS, RG, Nat.reduceAdd, Nat.reduceMul, Nat.reduceLeDiff]
    refine hK _ _ ?_
    clear hK K
    refine W.ret ?_
    refine XThen.ret ?_
    refine BodyQ.ret rfl ?_
    rfl
  · try simp only [RL] at h0
    have hs : Sm p := sz_sm (Int.le_refl _) (by omega)
    have hs1 := hs.1
    refine W.skip ?_
    refine XThen.norm ?_
    refine W.seq_region fun K hK => ?_
    simp (disch := omega) only [↓RU, RV, RH, ↓reduceIte, Nat.reduceEqDiff, reduceCtorEq, if_pos, List.append_nil, ↓RS, RG, Nat.reduceAdd, Nat.reduceMul, Nat.reduceLeDiff]
    refine CallR.pc (tStr_pc hs1) rfl (.inl rfl) ?_
    simp (disch := omega) only [↓RU, RV, RH, ↓reduceIte, Nat.reduceEqDiff, reduceCtorEq, if_pos, List.append_nil, ↓RS, RG, Nat.reduceAdd, Nat.reduceMul, Nat.reduceLeDiff]
    refine CallR.pc (hspec hs) rfl (.inr rfl) ?_
    simp (disch := omega) only [↓RU, RV, RH, ↓reduceIte, Nat.reduceEqDiff, reduceCtorEq, if_pos, List.append_nil, ↓RS, RG, Nat.reduceAdd, Nat.reduceMul, Nat.reduceLeDiff]
    refine hK _ _ ?_
    clear hK K
    refine W.seq_region fun K hK => ?_
    simp (disch := omega) only [↓RU, RV, RH, ↓reduceIte, Nat.reduceEqDiff, reduceCtorEq, if_pos, List.append_nil, ↓RS, RG, Nat.reduceAdd, Nat.reduceMul, Nat.reduceLeDiff]
    refine CallR.pn (toStringS_pn hs1) rfl (.inl rfl) ?_
    simp (disch := omega) only [↓RU, RV, RH, ↓reduceIte, Nat.reduceEqDiff, reduceCtorEq, if_pos, List.append_nil, ↓RS, RG, Nat.reduceAdd, Nat.reduceMul, Nat.reduceLeDiff, RN]
    refine hK _ _ ?_
    clear hK K
    refine W.seq_region fun K hK => ?_
    simp (disch := omega) only [↓RU, RV, RH, ↓reduceIte, Nat.reduceEqDiff, reduceCtorEq, if_pos, List.append_nil, ↓RS, RG, Nat.reduceAdd, Nat.reduceMul, Nat.reduceLeDiff]
    refine CallR.pn (himp hs) (mapM_one (reify_loc (k := 9) rfl (by simp) (mapM_str _)) rfl) (.inl rfl) ?_
    simp (disch := omega) only [↓RU, RV, RH, ↓reduceIte, Nat.reduceEqDiff, reduceCtorEq, if_pos, List.append_nil, ↓RS, RG, Nat.reduceAdd, Nat.reduceMul, Nat.reduceLeDiff, RN]
    refine hK _ _ ?_
    clear hK K
    refine W.seq ?_
    refine W.seq_region fun K hK => ?_
    simp (disch := omega) only [↓RU, RV, RH, ↓reduceIte, Nat.reduceEqDiff, reduceCtorEq, if_pos, List.append_nil, w64, ↓RS, RG, Nat.reduceAdd, Nat.reduceMul, Nat.reduceLeDiff, tybool]
    refine CallR.pc (eqIntS_pc (p := Q) (q := Q) (by omega) (by omega)) (mapM_one (reify_loc (k := 9) rfl (by simp) (mapM_int _)) (mapM_one rfl rfl)) (.inl rfl) ?_
    simp (disch := omega) only [↓RU, RV, RH, ↓reduceIte, Nat.reduceEqDiff, reduceCtorEq, if_pos, List.append_nil, w64, ↓RS, RG, Nat.reduceAdd, Nat.reduceMul, Nat.reduceLeDiff, tybool, decide_true, Bool.not_true, bne_self_eq_false]
    refine hK _ _ ?_
    clear hK K
    refine W.cond rfl (fun h2 => ?_) (fun h2 => ?_)
    · try simp only [RL] at h2
      first | (exfalso; omega) | exact absurd h2 (by simp)
    · try simp only [RL] at h2
      refine W.skip ?_
      refine XThen.norm ?_
      refine W.seq ?_
      refine W.seq_region fun K hK => ?_
      simp (disch := omega) only [↓RU, RV, RH, ↓reduceIte, Nat.reduceEqDiff, reduceCtorEq, if_pos, List.append_nil, ↓RS, RG, Nat.reduceAdd, Nat.reduceMul, Nat.reduceLeDiff]
      refine CallR.pc (tStr_pc hs1) rfl (.inl rfl) ?_
      simp (disch := omega) only [↓RU, RV, RH, ↓reduceIte, Nat.reduceEqDiff, reduceCtorEq, if_pos, List.append_nil, ↓RS, RG, Nat.reduceAdd, Nat.reduceMul, Nat.reduceLeDiff]
      refine CallR.pc (eqStringS_pc (p := p) (q := p) (by omega) (by omega)) (mapM_one (reify_loc (k := 9) rfl (by simp) (mapM_str _)) (mapM_one rfl rfl)) (.inl rfl) ?_
      simp (disch := omega) only [↓RU, RV, RH, ↓reduceIte, Nat.reduceEqDiff, reduceCtorEq, if_pos, List.append_nil, ↓RS, RG, Nat.reduceAdd, Nat.reduceMul, Nat.reduceLeDiff]
      refine hK _ _ ?_
      clear hK K
      refine W.cond rfl (fun h3 => ?_) (fun h3 => ?_)
      · try simp only [RL] at h3
        first | (exfalso; omega) | exact absurd h3 (by simp)
      · try simp only [RL] at h3
        refine W.skip ?_
        refine XThen.norm ?_
        refine W.seq_region fun K hK => ?_
        simp (disch := omega) only [↓RU, RV, RH, ↓reduceIte, Nat.reduceEqDiff, reduceCtorEq, if_pos, ↓RS, RG, Nat.reduceAdd, Nat.reduceMul, Nat.reduceLeDiff]
        refine hK _ _ ?_
        clear hK K
        refine W.seq_region fun K hK => ?_
        simp (disch := omega) only [↓RU, RV, RH, ↓reduceIte, Nat.reduceEqDiff, reduceCtorEq, if_pos, List.append_nil, ↓RS, RG, Nat.reduceAdd, Nat.reduceMul, Nat.reduceLeDiff]
        refine CallR.ev (markStringS_ev (F := []) (R := [_]) (l := p) hs1 (k0 := 1) (by omega) (by omega)) ?_
        rintro _ _ ⟨rfl, t1, ht1, rfl⟩
        simp (disch := omega) only [↓RU, RV, RH, ↓reduceIte, Nat.reduceEqDiff, reduceCtorEq, if_pos, List.append_nil, ↓RS, RG, Nat.reduceAdd, Nat.reduceMul, Nat.reduceLeDiff, List.nil_append, List.cons_append, List.append_nil]
        refine hK _ _ ?_
        clear hK K
        refine W.seq ?_
        refine W.seq_region fun K hK => ?_
        have hk0 : decide ((1 + (p.length : Int)) < 0) = false := by simp; omega
        simp (disch := omega) only [↓RU, RV, RH, ↓reduceIte, Nat.reduceEqDiff, reduceCtorEq, if_pos, w64, List.append_nil, ↓RS, RG, Nat.reduceAdd, Nat.reduceMul, Nat.reduceLeDiff, tybool, tyint, hk0]
        refine CallR.pc (eqIntS_pc (p := Q) (q := Q) (by omega) (by omega)) (mapM_one (reify_loc (k := 9) rfl (by simp) (mapM_int _)) (mapM_one rfl rfl)) (.inl rfl) ?_
        simp (disch := omega) only [↓RU, RV, RH, ↓reduceIte, Nat.reduceEqDiff, reduceCtorEq, if_pos, w64, List.append_nil, ↓RS, RG, Nat.reduceAdd, Nat.reduceMul, Nat.reduceLeDiff, tybool, tyint, hk0, decide_true, Bool.not_true, bne_self_eq_false]
        refine hK _ _ ?_
        clear hK K
        refine W.cond rfl (fun h4 => ?_) (fun h4 => ?_)
        · try simp only [RL] at h4
          first | (exfalso; omega) | exact absurd h4 (by simp)
        · try simp only [RL] at h4
          refine W.skip ?_
          refine XThen.norm ?_
          refine W.seq_region fun K hK => ?_
          simp (disch := omega) only [↓RU, RV, RH, ↓reduceIte, Nat.reduceEqDiff, reduceCtorEq, if_pos, ↓RS, RG, Nat.reduceAdd, Nat.reduceMul, Nat.reduceLeDiff]
          refine hK _ _ ?_
          clear hK K
          refine W.seq_region fun K hK => ?_
          simp (disch := omega) only [↓RU, RV, RH, ↓reduceIte, Nat.reduceEqDiff, reduceCtorEq, if_pos, List.append_nil, ↓RS, RG, Nat.reduceAdd, Nat.reduceMul, Nat.reduceLeDiff]
          refine CallR.ev (markIntS_ev (F := [_]) (R := []) (l := Q) (by omega) (k0 := 1) (by omega) (by omega)) ?_
          rintro _ _ ⟨rfl, t3, ht3, hd3, rfl⟩
          simp (disch := omega) only [↓RU, RV, RH, ↓reduceIte, Nat.reduceEqDiff, reduceCtorEq, if_pos, List.append_nil, ↓RS, RG, Nat.reduceAdd, Nat.reduceMul, Nat.reduceLeDiff, List.nil_append, List.cons_append, List.append_nil]
          refine hK _ _ ?_
          clear hK K
          refine W.seq_region fun K hK => ?_
          simp (disch := omega) only [↓RU, RV, RH, ↓reduceIte, Nat.reduceEqDiff, reduceCtorEq, if_pos, ↓RS, RG, Nat.reduceAdd, Nat.reduceMul, Nat.reduceLeDiff]
          refine hK _ _ ?_
          clear hK K
          refine W.seq_region fun K hK => ?_
          simp (disch := omega) only [↓RU, RV, RH, ↓reduceIte, Nat.reduceEqDiff, reduceCtorEq, if_pos, List.append_nil, ↓RS, RG, Nat.reduceAdd, Nat.reduceMul, Nat.reduceLeDiff]
          refine CallR.pc (heldIntS_pc (l := t3) (k0 := 1) (by omega) (by omega) (by omega) (fun j h => hd3 j (by omega))) (mapM_one ((reify_loc (k := 9) (n := Q.length) rfl (by simp [ht3]) (mapM_int _)).trans (by rw [← ht3])) rfl) (.inl rfl) ?_
          simp (disch := omega) only [↓RU, RV, RH, ↓reduceIte, Nat.reduceEqDiff, reduceCtorEq, if_pos, List.append_nil, ↓RS, RG, Nat.reduceAdd, Nat.reduceMul, Nat.reduceLeDiff, ht3]
          refine hK _ _ ?_
          clear hK K
          refine W.seq ?_
          refine W.seq_region fun K hK => ?_
          simp (disch := omega) only [↓RU, RV, RH, ↓reduceIte, Nat.reduceEqDiff, reduceCtorEq, if_pos, w64, ↓RS, RG, Nat.reduceAdd, Nat.reduceMul, Nat.reduceLeDiff, tyint]
          refine hK _ _ ?_
          clear hK K
          refine W.cond rfl (fun h5 => ?_) (fun h5 => ?_)
          · try simp only [RL] at h5
            first | (exfalso; omega) | exact absurd h5 (by simp)
          · try simp only [RL] at h5
            refine W.skip ?_
            refine XThen.norm ?_
            refine W.seq ?_
            refine W.seq_region fun K hK => ?_
            simp (disch := omega) only [↓RU, RV, RH, ↓reduceIte, Nat.reduceEqDiff, reduceCtorEq, if_pos, w64, ↓RS, RG, Nat.reduceAdd, Nat.reduceMul, Nat.reduceLeDiff, tyint]
            refine hK _ _ ?_
            clear hK K
            refine W.cond rfl (fun h6 => ?_) (fun h6 => ?_)
            · try simp only [RL] at h6
              first | (exfalso; omega) | exact absurd h6 (by simp)
            · try simp only [RL] at h6
              refine W.skip ?_
              refine XThen.norm ?_
              refine W.seq_region fun K hK => ?_
              simp (disch := omega) only [↓RU, RV, RH, ↓reduceIte, Nat.reduceEqDiff, reduceCtorEq, if_pos, List.append_nil, ↓RS, RG, Nat.reduceAdd, Nat.reduceMul, Nat.reduceLeDiff]
              refine CallR.pc (tStr_pc hs1) rfl (.inl rfl) ?_
              simp (disch := omega) only [↓RU, RV, RH, ↓reduceIte, Nat.reduceEqDiff, reduceCtorEq, if_pos, List.append_nil, ↓RS, RG, Nat.reduceAdd, Nat.reduceMul, Nat.reduceLeDiff]
              refine CallR.pn (himp hs) rfl (.inl rfl) ?_
              simp (disch := omega) only [↓RU, RV, RH, ↓reduceIte, Nat.reduceEqDiff, reduceCtorEq, if_pos, List.append_nil, ↓RS, RG, Nat.reduceAdd, Nat.reduceMul, Nat.reduceLeDiff, RN]
              refine hK _ _ ?_
              clear hK K
              refine W.seq ?_
              refine W.seq_region fun K hK => ?_
              simp (disch := omega) only [↓RU, RV, RH, ↓reduceIte, Nat.reduceEqDiff, reduceCtorEq, if_pos, List.append_nil, w64, ↓RS, RG, Nat.reduceAdd, Nat.reduceMul, Nat.reduceLeDiff, tybool]
              refine CallR.pc (eqIntS_pc (p := Q) (q := Q) (by omega) (by omega)) (mapM_one (reify_loc (k := 9) rfl (by simp) (mapM_int _)) (mapM_one rfl rfl)) (.inl rfl) ?_
              simp (disch := omega) only [↓RU, RV, RH, ↓reduceIte, Nat.reduceEqDiff, reduceCtorEq, if_pos, List.append_nil, w64, ↓RS, RG, Nat.reduceAdd, Nat.reduceMul, Nat.reduceLeDiff, tybool, decide_true, Bool.not_true, bne_self_eq_false]
              refine hK _ _ ?_
              clear hK K
              refine W.cond rfl (fun h7 => ?_) (fun h7 => ?_)
              · try simp only [RL] at h7
                first | (exfalso; omega) | exact absurd h7 (by simp)
              · try simp only [RL] at h7
                refine W.skip ?_
                refine XThen.norm ?_
                refine W.seq_region fun K hK => ?_
                simp (disch := omega) only [↓RU, RV, RH, ↓reduceIte, Nat.reduceEqDiff, reduceCtorEq, if_pos, ↓RS, RG, Nat.reduceAdd, Nat.reduceMul, Nat.reduceLeDiff]
                refine hK _ _ ?_
                clear hK K
                refine W.seq_region fun K hK => ?_
                simp (disch := omega) only [↓RU, RV, RH, ↓reduceIte, Nat.reduceEqDiff, reduceCtorEq, if_pos, List.append_nil, ↓RS, RG, Nat.reduceAdd, Nat.reduceMul, Nat.reduceLeDiff]
                refine CallR.pc (heldIntS_pc (l := t3) (k0 := 1) (by omega) (by omega) (by omega) (fun j h => hd3 j (by omega))) (mapM_one ((reify_loc (k := 9) (n := Q.length) rfl (by simp [ht3]) (mapM_int _)).trans (by rw [← ht3])) rfl) (.inl rfl) ?_
                simp (disch := omega) only [↓RU, RV, RH, ↓reduceIte, Nat.reduceEqDiff, reduceCtorEq, if_pos, List.append_nil, ↓RS, RG, Nat.reduceAdd, Nat.reduceMul, Nat.reduceLeDiff, ht3]
                refine hK _ _ ?_
                clear hK K
                refine W.seq ?_
                refine W.seq_region fun K hK => ?_
                simp (disch := omega) only [↓RU, RV, RH, ↓reduceIte, Nat.reduceEqDiff, reduceCtorEq, if_pos, w64, ↓RS, RG, Nat.reduceAdd, Nat.reduceMul, Nat.reduceLeDiff, tyint]
                refine hK _ _ ?_
                clear hK K
                refine W.cond rfl (fun h8 => ?_) (fun h8 => ?_)
                · try simp only [RL] at h8
                  first | (exfalso; omega) | exact absurd h8 (by simp)
                · try simp only [RL] at h8
                  refine W.skip ?_
                  refine XThen.norm ?_
                  refine W.seq ?_
                  refine W.seq_region fun K hK => ?_
                  simp (disch := omega) only [↓RU, RV, RH, ↓reduceIte, Nat.reduceEqDiff, reduceCtorEq, if_pos, w64, ↓RS, RG, Nat.reduceAdd, Nat.reduceMul, Nat.reduceLeDiff, tyint]
                  refine hK _ _ ?_
                  clear hK K
                  refine W.cond rfl (fun h9 => ?_) (fun h9 => ?_)
                  · try simp only [RL] at h9
                    first | (exfalso; omega) | exact absurd h9 (by simp)
                  · try simp only [RL] at h9
                    refine W.skip ?_
                    refine XThen.norm ?_
                    refine W.seq_region fun K hK => ?_
                    simp (disch := omega) only [↓RU, RV, RH, ↓reduceIte, Nat.reduceEqDiff, reduceCtorEq, if_pos, ↓RS, RG, Nat.reduceAdd, Nat.reduceMul, Nat.reduceLeDiff]
                    refine hK _ _ ?_
                    clear hK K
                    refine W.ret ?_
                    refine BodyQ.ret rfl ?_
                    rfl

theorem orderPermLaw_no {p : List Txt} (hl : p.length ≤ 9223372036854775807) (hr : ∀ r ∈ p, r.length ≤ 9223372036854775807)
    (hspec : Sm p → PC Tryz.prog 47 [eStrs p] (.tup [eInts ([] : List Int), .bool false]) false)
    (himp : Sm p → PC Tryz.prog 48 [eStrs p] (.tup [eInts [], .bool false]) true) : PC Tryz.prog 10 [eStrs p] (.bool true) true := by
  refine PC.of ⟨Tryz.func10, by kernel_rfl, rfl, by kernel_rfl⟩ tabOk mixed (by show 1 ≤ Tryz.f10.ntmps; decide) ?_
  refine W.seq_region fun K hK => ?_
  simp (disch := omega) only [↓RU, RV, RH, ↓reduceIte, Nat.reduceEqDiff, reduceCtorEq, if_pos, ↓RS, RG, Nat.reduceAdd, Nat.reduceMul, Nat.reduceLeDiff]
  refine hK _ _ ?_
  clear hK K
  refine W.seq_region fun K hK => ?_
  simp (disch := omega) only [↓RU, RV, RH, ↓reduceIte, Nat.reduceEqDiff, reduceCtorEq, if_pos, ↓RS, RG, Nat.reduceAdd, Nat.reduceMul, Nat.reduceLeDiff]
  refine hK _ _ ?_
  clear hK K
  refine W.seq_region fun K hK => ?_
  simp (disch := omega) only [↓RU, RV, RH, ↓reduceIte, Nat.reduceEqDiff, reduceCtorEq, if_pos, List.append_nil, ↓RS, RG, Nat.reduceAdd, Nat.reduceMul, Nat.reduceLeDiff]
  refine CallR.pc (szStringS_pc hl hr (left := 1048576) (by omega) (by omega)) rfl (.inl rfl) ?_
  simp (disch := omega) only [↓RU, RV, RH, ↓reduceIte, Nat.reduceEqDiff, reduceCtorEq, if_pos, List.append_nil, ↓RS, RG, Nat.reduceAdd, Nat.reduceMul, Nat.reduceLeDiff]
  refine hK _ _ ?_
  clear hK K
  refine W.seq ?_
  refine W.seq_region fun K hK => ?_
  simp (disch := omega) only [↓RU, RV, RH, ↓reduceIte, Nat.reduceEqDiff, reduceCtorEq, if_pos, w64, ↓RS, RG, Nat.reduceAdd, Nat.reduceMul, Nat.reduceLeDiff, tyint]
  refine hK _ _ ?_
  clear hK K
  refine W.cond rfl (fun h0 => ?_) (fun h0 => ?_)
  · try simp only [RL] at h0
    refine W.seq_region fun K hK => ?_
    simp (disch := omega) only [↓RU, RV, RH, ↓reduceIte, Nat.reduceEqDiff, reduceCtorEq, if_pos, ↓RS, RG, Nat.reduceAdd, Nat.reduceMul, Nat.reduceLeDiff]
    refine hK _ _ ?_
    clear hK K
    refine W.ret ?_
    refine XThen.ret ?_
    refine BodyQ.ret rfl ?_
    rfl
  · try simp only [RL] at h0
    have hs : Sm p := sz_sm (Int.le_refl _) (by omega)
    have hs1 := hs.1
    refine W.skip ?_
    refine XThen.norm ?_
    refine W.seq_region fun K hK => ?_
    simp (disch := omega) only [↓RU, RV, RH, ↓reduceIte, Nat.reduceEqDiff, reduceCtorEq, if_pos, List.append_nil, ↓RS, RG, Nat.reduceAdd, Nat.reduceMul, Nat.reduceLeDiff]
    refine CallR.pc (tStr_pc hs1) rfl (.inl rfl) ?_
    simp (disch := omega) only [↓RU, RV, RH, ↓reduceIte, Nat.reduceEqDiff, reduceCtorEq, if_pos, List.append_nil, ↓RS, RG, Nat.reduceAdd, Nat.reduceMul, Nat.reduceLeDiff]
    refine CallR.pc (hspec hs) rfl (.inr rfl) ?_
    simp (disch := omega) only [↓RU, RV, RH, ↓reduceIte, Nat.reduceEqDiff, reduceCtorEq, if_pos, List.append_nil, ↓RS, RG, Nat.reduceAdd, Nat.reduceMul, Nat.reduceLeDiff]
    refine hK _ _ ?_
    clear hK K
    refine W.seq_region fun K hK => ?_
    simp (disch := omega) only [↓RU, RV, RH, ↓reduceIte, Nat.reduceEqDiff, reduceCtorEq, if_pos, List.append_nil, ↓RS, RG, Nat.reduceAdd, Nat.reduceMul, Nat.reduceLeDiff]
    refine CallR.pn (toStringS_pn hs1) rfl (.inl rfl) ?_
    simp (disch := omega) only [↓RU, RV, RH, ↓reduceIte, Nat.reduceEqDiff, reduceCtorEq, if_pos, List.append_nil, ↓RS, RG, Nat.reduceAdd, Nat.reduceMul, Nat.reduceLeDiff, RN]
    refine hK _ _ ?_
    clear hK K
    refine W.seq_region fun K hK => ?_
    simp (disch := omega) only [↓RU, RV, RH, ↓reduceIte, Nat.reduceEqDiff, reduceCtorEq, if_pos, List.append_nil, ↓RS, RG, Nat.reduceAdd, Nat.reduceMul, Nat.reduceLeDiff]
    refine CallR.pc (himp hs) (mapM_one (reify_loc (k := 9) rfl (by simp) (mapM_str _)) rfl) (.inl rfl) ?_
    simp (disch := omega) only [↓RU, RV, RH, ↓reduceIte, Nat.reduceEqDiff, reduceCtorEq, if_pos, List.append_nil, ↓RS, RG, Nat.reduceAdd, Nat.reduceMul, Nat.reduceLeDiff]
    refine hK _ _ ?_
    clear hK K
    refine W.seq ?_
    refine W.seq_region fun K hK => ?_
    simp (disch := omega) only [↓RU, RV, RH, ↓reduceIte, Nat.reduceEqDiff, reduceCtorEq, if_pos, List.append_nil, w64, ↓RS, RG, Nat.reduceAdd, Nat.reduceMul, Nat.reduceLeDiff, tybool]
    refine CallR.pc (eqIntS_pc (p := ([] : List Int)) (q := ([] : List Int)) (by simp) (by simp)) (mapM_one rfl (mapM_one rfl rfl)) (.inl rfl) ?_
    simp (disch := omega) only [↓RU, RV, RH, ↓reduceIte, Nat.reduceEqDiff, reduceCtorEq, if_pos, List.append_nil, w64, ↓RS, RG, Nat.reduceAdd, Nat.reduceMul, Nat.reduceLeDiff, tybool, decide_true, Bool.not_true, bne_self_eq_false]
    refine hK _ _ ?_
    clear hK K
    refine W.cond rfl (fun h2 => ?_) (fun h2 => ?_)
    · try simp only [RL] at h2
      first | (exfalso; omega) | exact absurd h2 (by simp)
    · try simp only [RL] at h2
      refine W.skip ?_
      refine XThen.norm ?_
      refine W.seq ?_
      refine W.seq_region fun K hK => ?_
      simp (disch := omega) only [↓RU, RV, RH, ↓reduceIte, Nat.reduceEqDiff, reduceCtorEq, if_pos, List.append_nil, ↓RS, RG, Nat.reduceAdd, Nat.reduceMul, Nat.reduceLeDiff]
      refine CallR.pc (tStr_pc hs1) rfl (.inl rfl) ?_
      simp (disch := omega) only [↓RU, RV, RH, ↓reduceIte, Nat.reduceEqDiff, reduceCtorEq, if_pos, List.append_nil, ↓RS, RG, Nat.reduceAdd, Nat.reduceMul, Nat.reduceLeDiff]
      refine CallR.pc (eqStringS_pc (p := p) (q := p) (by omega) (by omega)) (mapM_one (reify_loc (k := 9) rfl (by simp) (mapM_str _)) (mapM_one rfl rfl)) (.inl rfl) ?_
      simp (disch := omega) only [↓RU, RV, RH, ↓reduceIte, Nat.reduceEqDiff, reduceCtorEq, if_pos, List.append_nil, ↓RS, RG, Nat.reduceAdd, Nat.reduceMul, Nat.reduceLeDiff]
      refine hK _ _ ?_
      clear hK K
      refine W.cond rfl (fun h3 => ?_) (fun h3 => ?_)
      · try simp only [RL] at h3
        first | (exfalso; omega) | exact absurd h3 (by simp)
      · try simp only [RL] at h3
        refine W.skip ?_
        refine XThen.norm ?_
        refine W.seq_region fun K hK => ?_
        simp (disch := omega) only [↓RU, RV, RH, ↓reduceIte, Nat.reduceEqDiff, reduceCtorEq, if_pos, ↓RS, RG, Nat.reduceAdd, Nat.reduceMul, Nat.reduceLeDiff]
        refine hK _ _ ?_
        clear hK K
        refine W.seq_region fun K hK => ?_
        simp (disch := omega) only [↓RU, RV, RH, ↓reduceIte, Nat.reduceEqDiff, reduceCtorEq, if_pos, List.append_nil, ↓RS, RG, Nat.reduceAdd, Nat.reduceMul, Nat.reduceLeDiff]
        refine CallR.ev (markStringS_ev (F := []) (R := []) (l := p) hs1 (k0 := 1) (by omega) (by omega)) ?_
        rintro _ _ ⟨rfl, t1, ht1, rfl⟩
        simp (disch := omega) only [↓RU, RV, RH, ↓reduceIte, Nat.reduceEqDiff, reduceCtorEq, if_pos, List.append_nil, ↓RS, RG, Nat.reduceAdd, Nat.reduceMul, Nat.reduceLeDiff, List.nil_append, List.cons_append, List.append_nil]
        refine hK _ _ ?_
        clear hK K
        refine W.seq ?_
        refine W.seq_region fun K hK => ?_
        have hk0 : decide ((1 + (p.length : Int)) < 0) = false := by simp; omega
        simp (disch := omega) only [↓RU, RV, RH, ↓reduceIte, Nat.reduceEqDiff, reduceCtorEq, if_pos, w64, List.append_nil, ↓RS, RG, Nat.reduceAdd, Nat.reduceMul, Nat.reduceLeDiff, tybool, tyint, hk0]
        refine CallR.pc (eqIntS_pc (p := ([] : List Int)) (q := ([] : List Int)) (by simp) (by simp)) (mapM_one rfl (mapM_one rfl rfl)) (.inl rfl) ?_
        simp (disch := omega) only [↓RU, RV, RH, ↓reduceIte, Nat.reduceEqDiff, reduceCtorEq, if_pos, w64, List.append_nil, ↓RS, RG, Nat.reduceAdd, Nat.reduceMul, Nat.reduceLeDiff, tybool, tyint, hk0, decide_true, Bool.not_true, bne_self_eq_false]
        refine hK _ _ ?_
        clear hK K
        refine W.cond rfl (fun h4 => ?_) (fun h4 => ?_)
        · try simp only [RL] at h4
          first | (exfalso; omega) | exact absurd h4 (by simp)
        · try simp only [RL] at h4
          refine W.skip ?_
          refine XThen.norm ?_
          refine W.seq_region fun K hK => ?_
          simp (disch := omega) only [↓RU, RV, RH, ↓reduceIte, Nat.reduceEqDiff, reduceCtorEq, if_pos, ↓RS, RG, Nat.reduceAdd, Nat.reduceMul, Nat.reduceLeDiff]
          refine hK _ _ ?_
          clear hK K
          refine W.seq_region fun K hK => ?_
          simp (disch := omega) only [↓RU, RV, RH, ↓reduceIte, Nat.reduceEqDiff, reduceCtorEq, if_pos, List.append_nil, ↓RS, RG, Nat.reduceAdd, Nat.reduceMul, Nat.reduceLeDiff]
          refine CallR.pc (markIntS0_pc 1) rfl (.inl rfl) ?_
          simp (disch := omega) only [↓RU, RV, RH, ↓reduceIte, Nat.reduceEqDiff, reduceCtorEq, if_pos, List.append_nil, ↓RS, RG, Nat.reduceAdd, Nat.reduceMul, Nat.reduceLeDiff]
          refine hK _ _ ?_
          clear hK K
          refine W.seq_region fun K hK => ?_
          simp (disch := omega) only [↓RU, RV, RH, ↓reduceIte, Nat.reduceEqDiff, reduceCtorEq, if_pos, ↓RS, RG, Nat.reduceAdd, Nat.reduceMul, Nat.reduceLeDiff]
          refine hK _ _ ?_
          clear hK K
          refine W.seq_region fun K hK => ?_
          simp (disch := omega) only [↓RU, RV, RH, ↓reduceIte, Nat.reduceEqDiff, reduceCtorEq, if_pos, List.append_nil, ↓RS, RG, Nat.reduceAdd, Nat.reduceMul, Nat.reduceLeDiff]
          refine CallR.pc (heldIntS_pc (l := []) (k0 := 1) (by simp) (by omega) (by omega) (fun j h => absurd h (by simp))) rfl (.inl rfl) ?_
          simp (disch := omega) only [↓RU, RV, RH, ↓reduceIte, Nat.reduceEqDiff, reduceCtorEq, if_pos, List.append_nil, ↓RS, RG, Nat.reduceAdd, Nat.reduceMul, Nat.reduceLeDiff, List.length_nil]
          refine hK _ _ ?_
          clear hK K
          refine W.seq ?_
          refine W.seq_region fun K hK => ?_
          simp (disch := omega) only [↓RU, RV, RH, ↓reduceIte, Nat.reduceEqDiff, reduceCtorEq, if_pos, w64, ↓RS, RG, Nat.reduceAdd, Nat.reduceMul, Nat.reduceLeDiff, tyint]
          refine hK _ _ ?_
          clear hK K
          refine W.cond rfl (fun h5 => ?_) (fun h5 => ?_)
          · try simp only [RL] at h5
            first | (exfalso; omega) | exact absurd h5 (by simp)
          · try simp only [RL] at h5
            refine W.skip ?_
            refine XThen.norm ?_
            refine W.seq ?_
            refine W.seq_region fun K hK => ?_
            simp (disch := omega) only [↓RU, RV, RH, ↓reduceIte, Nat.reduceEqDiff, reduceCtorEq, if_pos, w64, ↓RS, RG, Nat.reduceAdd, Nat.reduceMul, Nat.reduceLeDiff, tyint]
            refine hK _ _ ?_
            clear hK K
            refine W.cond rfl (fun h6 => ?_) (fun h6 => ?_)
            · try simp only [RL] at h6
              first | (exfalso; omega) | exact absurd h6 (by simp)
            · try simp only [RL] at h6
              refine W.skip ?_
              refine XThen.norm ?_
              refine W.seq_region fun K hK => ?_
              simp (disch := omega) only [↓RU, RV, RH, ↓reduceIte, Nat.reduceEqDiff, reduceCtorEq, if_pos, List.append_nil, ↓RS, RG, Nat.reduceAdd, Nat.reduceMul, Nat.reduceLeDiff]
              refine CallR.pc (tStr_pc hs1) rfl (.inl rfl) ?_
              simp (disch := omega) only [↓RU, RV, RH, ↓reduceIte, Nat.reduceEqDiff, reduceCtorEq, if_pos, List.append_nil, ↓RS, RG, Nat.reduceAdd, Nat.reduceMul, Nat.reduceLeDiff]
              refine CallR.pc (himp hs) rfl (.inl rfl) ?_
              simp (disch := omega) only [↓RU, RV, RH, ↓reduceIte, Nat.reduceEqDiff, reduceCtorEq, if_pos, List.append_nil, ↓RS, RG, Nat.reduceAdd, Nat.reduceMul, Nat.reduceLeDiff]
              refine hK _ _ ?_
              clear hK K
              refine W.seq ?_
              refine W.seq_region fun K hK => ?_
              simp (disch := omega) only [↓RU, RV, RH, ↓reduceIte, Nat.reduceEqDiff, reduceCtorEq, if_pos, List.append_nil, w64, ↓RS, RG, Nat.reduceAdd, Nat.reduceMul, Nat.reduceLeDiff, tybool]
              refine CallR.pc (eqIntS_pc (p := ([] : List Int)) (q := ([] : List Int)) (by simp) (by simp)) (mapM_one rfl (mapM_one rfl rfl)) (.inl rfl) ?_
              simp (disch := omega) only [↓RU, RV, RH, ↓reduceIte, Nat.reduceEqDiff, reduceCtorEq, if_pos, List.append_nil, w64, ↓RS, RG, Nat.reduceAdd, Nat.reduceMul, Nat.reduceLeDiff, tybool, decide_true, Bool.not_true, bne_self_eq_false]
              refine hK _ _ ?_
              clear hK K
              refine W.cond rfl (fun h7 => ?_) (fun h7 => ?_)
              · try simp only [RL] at h7
                first | (exfalso; omega) | exact absurd h7 (by simp)
              · try simp only [RL] at h7
                refine W.skip ?_
                refine XThen.norm ?_
                refine W.seq_region fun K hK => ?_
                simp (disch := omega) only [↓RU, RV, RH, ↓reduceIte, Nat.reduceEqDiff, reduceCtorEq, if_pos, ↓RS, RG, Nat.reduceAdd, Nat.reduceMul, Nat.reduceLeDiff]
                refine hK _ _ ?_
                clear hK K
                refine W.seq_region fun K hK => ?_
                simp (disch := omega) only [↓RU, RV, RH, ↓reduceIte, Nat.reduceEqDiff, reduceCtorEq, if_pos, List.append_nil, ↓RS, RG, Nat.reduceAdd, Nat.reduceMul, Nat.reduceLeDiff]
                refine CallR.pc (heldIntS_pc (l := []) (k0 := 1) (by simp) (by omega) (by omega) (fun j h => absurd h (by simp))) rfl (.inl rfl) ?_
                simp (disch := omega) only [↓RU, RV, RH, ↓reduceIte, Nat.reduceEqDiff, reduceCtorEq, if_pos, List.append_nil, ↓RS, RG, Nat.reduceAdd, Nat.reduceMul, Nat.reduceLeDiff, List.length_nil]
                refine hK _ _ ?_
                clear hK K
                refine W.seq ?_
                refine W.seq_region fun K hK => ?_
                simp (disch := omega) only [↓RU, RV, RH, ↓reduceIte, Nat.reduceEqDiff, reduceCtorEq, if_pos, w64, ↓RS, RG, Nat.reduceAdd, Nat.reduceMul, Nat.reduceLeDiff, tyint]
                refine hK _ _ ?_
                clear hK K
                refine W.cond rfl (fun h8 => ?_) (fun h8 => ?_)
                · try simp only [RL] at h8
                  first | (exfalso; omega) | exact absurd h8 (by simp)
                · try simp only [RL] at h8
                  refine W.skip ?_
                  refine XThen.norm ?_
                  refine W.seq ?_
                  refine W.seq_region fun K hK => ?_
                  simp (disch := omega) only [↓RU, RV, RH, ↓reduceIte, Nat.reduceEqDiff, reduceCtorEq, if_pos, w64, ↓RS, RG, Nat.reduceAdd, Nat.reduceMul, Nat.reduceLeDiff, tyint]
                  refine hK _ _ ?_
                  clear hK K
                  refine W.cond rfl (fun h9 => ?_) (fun h9 => ?_)
                  · try simp only [RL] at h9
                    first | (exfalso; omega) | exact absurd h9 (by simp)
                  · try simp only [RL] at h9
                    refine W.skip ?_
                    refine XThen.norm ?_
                    refine W.seq_region fun K hK => ?_
                    simp (disch := omega) only [↓RU, RV, RH, ↓reduceIte, Nat.reduceEqDiff, reduceCtorEq, if_pos, ↓RS, RG, Nat.reduceAdd, Nat.reduceMul, Nat.reduceLeDiff]
                    refine hK _ _ ?_
                    clear hK K
                    refine W.ret ?_
                    refine BodyQ.ret rfl ?_
                    rfl

theorem orderPermLaw_yes {p : List Txt} (hl : p.length ≤ 9223372036854775807) (hr : ∀ r ∈ p, r.length ≤ 9223372036854775807) {Q : List Int} (hQ : Q.length ≤ 9)
    (hspec : Sm p → PC Tryz.prog 47 [eStrs p] (.tup [eInts Q, .bool true]) false)
    (himp : Sm p → PN Tryz.prog 48 [eStrs p] (.tup [.loc 0 0 0 Q.length, .bool true]) [.arr 0 3 1 (Q.map (.int .i64))] false) : PC Tryz.prog 10 [eStrs p] (.bool true) true := by
  refine PC.of ⟨Tryz.func10, by kernel_rfl, rfl, by kernel_rfl⟩ tabOk mixed (by show 1 ≤ Tryz.f10.ntmps; decide) ?_
  refine W.seq_region fun K hK => ?_
  simp (disch := omega) only [↓RU, RV, RH, ↓reduceIte, Nat.reduceEqDiff, reduceCtorEq, if_pos, ↓RS, RG, Nat.reduceAdd, Nat.reduceMul, Nat.reduceLeDiff]
  refine hK _ _ ?_
  clear hK K
  refine W.seq_region fun K hK => ?_
  simp (disch := omega) only [↓RU, RV, RH, ↓reduceIte, Nat.reduceEqDiff, reduceCtorEq, if_pos, ↓RS, RG, Nat.reduceAdd, Nat.reduceMul, Nat.reduceLeDiff]
  refine hK _ _ ?_
  clear hK K
  refine W.seq_region fun K hK => ?_
  simp (disch := omega) only [↓RU, RV, RH, ↓reduceIte, Nat.reduceEqDiff, reduceCtorEq, if_pos, List.append_nil, ↓RS, RG, Nat.reduceAdd, Nat.reduceMul, Nat.reduceLeDiff]
  refine CallR.pc (szStringS_pc hl hr (left := 1048576) (by omega) (by omega)) rfl (.inl rfl) ?_
  simp (disch := omega) only [↓RU, RV, RH, ↓reduceIte, Nat.reduceEqDiff, reduceCtorEq, if_pos, List.append_nil, ↓RS, RG, Nat.reduceAdd, Nat.reduceMul, Nat.reduceLeDiff]
  refine hK _ _ ?_
  clear hK K
  refine W.seq ?_
  refine W.seq_region fun K hK => ?_
  simp (disch := omega) only [↓RU, RV, RH, ↓reduceIte, Nat.reduceEqDiff, reduceCtorEq, if_pos, w64, ↓RS, RG, Nat.reduceAdd, Nat.reduceMul, Nat.reduceLeDiff, tyint]
  refine hK _ _ ?_
  clear hK K
  refine W.cond rfl (fun h0 => ?_) (fun h0 => ?_)
  · try simp only [RL] at h0
    refine W.seq_region fun K hK => ?_
    simp (disch := omega) only [↓RU, RV, RH, ↓reduceIte, Nat.reduceEqDiff, reduceCtorEq, if_pos, ↓RS, RG, Nat.reduceAdd, Nat.reduceMul, Nat.reduceLeDiff]
    refine hK _ _ ?_
    clear hK K
    refine W.ret ?_
    refine XThen.ret ?_
    refine BodyQ.ret rfl ?_
    rfl
  · try simp only [RL] at h0
    have hs : Sm p := sz_sm (Int.le_refl _) (by omega)
    have hs1 := hs.1
    refine W.skip ?_
    refine XThen.norm ?_
    refine W.seq_region fun K hK => ?_
    simp (disch := omega) only [↓RU, RV, RH, ↓reduceIte, Nat.reduceEqDiff, reduceCtorEq, if_pos, List.append_nil, ↓RS, RG, Nat.reduceAdd, Nat.reduceMul, Nat.reduceLeDiff]
    refine CallR.pc (tStr_pc hs1) rfl (.inl rfl) ?_
    simp (disch := omega) only [↓RU, RV, RH, ↓reduceIte, Nat.reduceEqDiff, reduceCtorEq, if_pos, List.append_nil, ↓RS, RG, Nat.reduceAdd, Nat.reduceMul, Nat.reduceLeDiff]
    refine CallR.pc (hspec hs) rfl (.inr rfl) ?_
    simp (disch := omega) only [↓RU, RV, RH, ↓reduceIte, Nat.reduceEqDiff, reduceCtorEq, if_pos, List.append_nil, ↓RS, RG, Nat.reduceAdd, Nat.reduceMul, Nat.reduceLeDiff]
    refine hK _ _ ?_
    clear hK K
    refine W.seq_region fun K hK => ?_
    simp (disch := omega) only [↓RU, RV, RH, ↓reduceIte, Nat.reduceEqDiff, reduceCtorEq, if_pos, List.append_nil, ↓RS, RG, Nat.reduceAdd, Nat.reduceMul, Nat.reduceLeDiff]
    refine CallR.pn (toStringS_pn hs1) rfl (.inl rfl) ?_
    simp (disch := omega) only [↓RU, RV, RH, ↓reduceIte, Nat.reduceEqDiff, reduceCtorEq, if_pos, List.append_nil, ↓RS, RG, Nat.reduceAdd, Nat.reduceMul, Nat.reduceLeDiff, RN]
    refine hK _ _ ?_
    clear hK K
    refine W.seq_region fun K hK => ?_
    simp (disch := omega) only [↓RU, RV, RH, ↓reduceIte, Nat.reduceEqDiff, reduceCtorEq, if_pos, List.append_nil, ↓RS, RG, Nat.reduceAdd, Nat.reduceMul, Nat.reduceLeDiff]
    refine CallR.pn (himp hs) (mapM_one (reify_loc (k := 9) rfl (by simp) (mapM_str _)) rfl) (.inl rfl) ?_
    simp (disch := omega) only [↓RU, RV, RH, ↓reduceIte, Nat.reduceEqDiff, reduceCtorEq, if_pos, List.append_nil, ↓RS, RG, Nat.reduceAdd, Nat.reduceMul, Nat.reduceLeDiff, RN]
    refine hK _ _ ?_
    clear hK K
    refine W.seq ?_
    refine W.seq_region fun K hK => ?_
    simp (disch := omega) only [↓RU, RV, RH, ↓reduceIte, Nat.reduceEqDiff, reduceCtorEq, if_pos, List.append_nil, w64, ↓RS, RG, Nat.reduceAdd, Nat.reduceMul, Nat.reduceLeDiff, tybool]
    refine CallR.pc (eqIntS_pc (p := Q) (q := Q) (by omega) (by omega)) (mapM_one (reify_loc (k := 9) rfl (by simp) (mapM_int _)) (mapM_one rfl rfl)) (.inl rfl) ?_
    simp (disch := omega) only [↓RU, RV, RH, ↓reduceIte, Nat.reduceEqDiff, reduceCtorEq, if_pos, List.append_nil, w64, ↓RS, RG, Nat.reduceAdd, Nat.reduceMul, Nat.reduceLeDiff, tybool, decide_true, Bool.not_true, bne_self_eq_false]
    refine hK _ _ ?_
    clear hK K
    refine W.cond rfl (fun h2 => ?_) (fun h2 => ?_)
    · try simp only [RL] at h2
      first | (exfalso; omega) | exact absurd h2 (by simp)
    · try simp only [RL] at h2
      refine W.skip ?_
      refine XThen.norm ?_
      refine W.seq ?_
      refine W.seq_region fun K hK => ?_
      simp (disch := omega) only [↓RU, RV, RH, ↓reduceIte, Nat.reduceEqDiff, reduceCtorEq, if_pos, List.append_nil, ↓RS, RG, Nat.reduceAdd, Nat.reduceMul, Nat.reduceLeDiff]
      refine CallR.pc (tStr_pc hs1) rfl (.inl rfl) ?_
      simp (disch := omega) only [↓RU, RV, RH, ↓reduceIte, Nat.reduceEqDiff, reduceCtorEq, if_pos, List.append_nil, ↓RS, RG, Nat.reduceAdd, Nat.reduceMul, Nat.reduceLeDiff]
      refine CallR.pc (eqStringS_pc (p := p) (q := p) (by omega) (by omega)) (mapM_one (reify_loc (k := 9) rfl (by simp) (mapM_str _)) (mapM_one rfl rfl)) (.inl rfl) ?_
      simp (disch := omega) only [↓RU, RV, RH, ↓reduceIte, Nat.reduceEqDiff, reduceCtorEq, if_pos, List.append_nil, ↓RS, RG, Nat.reduceAdd, Nat.reduceMul, Nat.reduceLeDiff]
      refine hK _ _ ?_
      clear hK K
      refine W.cond rfl (fun h3 => ?_) (fun h3 => ?_)
      · try simp only [RL] at h3
        first | (exfalso; omega) | exact absurd h3 (by simp)
      · try simp only [RL] at h3
        refine W.skip ?_
        refine XThen.norm ?_
        refine W.seq_region fun K hK => ?_
        simp (disch := omega) only [↓RU, RV, RH, ↓reduceIte, Nat.reduceEqDiff, reduceCtorEq, if_pos, ↓RS, RG, Nat.reduceAdd, Nat.reduceMul, Nat.reduceLeDiff]
        refine hK _ _ ?_
        clear hK K
        refine W.seq_region fun K hK => ?_
        simp (disch := omega) only [↓RU, RV, RH, ↓reduceIte, Nat.reduceEqDiff, reduceCtorEq, if_pos, List.append_nil, ↓RS, RG, Nat.reduceAdd, Nat.reduceMul, Nat.reduceLeDiff]
        refine CallR.ev (markStringS_ev (F := []) (R := [_]) (l := p) hs1 (k0 := 1) (by omega) (by omega)) ?_
        rintro _ _ ⟨rfl, t1, ht1, rfl⟩
        simp (disch := omega) only [↓RU, RV, RH, ↓reduceIte, Nat.reduceEqDiff, reduceCtorEq, if_pos, List.append_nil, ↓RS, RG, Nat.reduceAdd, Nat.reduceMul, Nat.reduceLeDiff, List.nil_append, List.cons_append, List.append_nil]
        refine hK _ _ ?_
        clear hK K
        refine W.seq ?_
        refine W.seq_region fun K hK => ?_
        have hk0 : decide ((1 + (p.length : Int)) < 0) = false := by simp; omega
        simp (disch := omega) only [↓RU, RV, RH, ↓reduceIte, Nat.reduceEqDiff, reduceCtorEq, if_pos, w64, List.append_nil, ↓RS, RG, Nat.reduceAdd, Nat.reduceMul, Nat.reduceLeDiff, tybool, tyint, hk0]
        refine CallR.pc (eqIntS_pc (p := Q) (q := Q) (by omega) (by omega)) (mapM_one (reify_loc (k := 9) rfl (by simp) (mapM_int _)) (mapM_one rfl rfl)) (.inl rfl) ?_
        simp (disch := omega) only [↓RU, RV, RH, ↓reduceIte, Nat.reduceEqDiff, reduceCtorEq, if_pos, w64, List.append_nil, ↓RS, RG, Nat.reduceAdd, Nat.reduceMul, Nat.reduceLeDiff, tybool, tyint, hk0, decide_true, Bool.not_true, bne_self_eq_false]
        refine hK _ _ ?_
        clear hK K
        refine W.cond rfl (fun h4 => ?_) (fun h4 => ?_)
        · try simp only [RL] at h4
          first | (exfalso; omega) | exact absurd h4 (by simp)
        · try simp only [RL] at h4
          refine W.skip ?_
          refine XThen.norm ?_
          refine W.seq_region fun K hK => ?_
          simp (disch := omega) only [↓RU, RV, RH, ↓reduceIte, Nat.reduceEqDiff, reduceCtorEq, if_pos, ↓RS, RG, Nat.reduceAdd, Nat.reduceMul, Nat.reduceLeDiff]
          refine hK _ _ ?_
          clear hK K
          refine W.seq_region fun K hK => ?_
          simp (disch := omega) only [↓RU, RV, RH, ↓reduceIte, Nat.reduceEqDiff, reduceCtorEq, if_pos, List.append_nil, ↓RS, RG, Nat.reduceAdd, Nat.reduceMul, Nat.reduceLeDiff]
          refine CallR.ev (markIntS_ev (F := [_]) (R := []) (l := Q) (by omega) (k0 := 1) (by omega) (by omega)) ?_
          rintro _ _ ⟨rfl, t3, ht3, hd3, rfl⟩
          simp (disch := omega) only [↓RU, RV, RH, ↓reduceIte, Nat.reduceEqDiff, reduceCtorEq, if_pos, List.append_nil, ↓RS, RG, Nat.reduceAdd, Nat.reduceMul, Nat.reduceLeDiff, List.nil_append, List.cons_append, List.append_nil]
          refine hK _ _ ?_
          clear hK K
          refine W.seq_region fun K hK => ?_
          simp (disch := omega) only [↓RU, RV, RH, ↓reduceIte, Nat.reduceEqDiff, reduceCtorEq, if_pos, ↓RS, RG, Nat.reduceAdd, Nat.reduceMul, Nat.reduceLeDiff]
          refine hK _ _ ?_
          clear hK K
          refine W.seq_region fun K hK => ?_
          simp (disch := omega) only [↓RU, RV, RH, ↓reduceIte, Nat.reduceEqDiff, reduceCtorEq, if_pos, List.append_nil, ↓RS, RG, Nat.reduceAdd, Nat.reduceMul, Nat.reduceLeDiff]
          refine CallR.pc (heldIntS_pc (l := t3) (k0 := 1) (by omega) (by omega) (by omega) (fun j h => hd3 j (by omega))) (mapM_one ((reify_loc (k := 9) (n := Q.length) rfl (by simp [ht3]) (mapM_int _)).trans (by rw [← ht3])) rfl) (.inl rfl) ?_
          simp (disch := omega) only [↓RU, RV, RH, ↓reduceIte, Nat.reduceEqDiff, reduceCtorEq, if_pos, List.append_nil, ↓RS, RG, Nat.reduceAdd, Nat.reduceMul, Nat.reduceLeDiff, ht3]
          refine hK _ _ ?_
          clear hK K
          refine W.seq ?_
          refine W.seq_region fun K hK => ?_
          simp (disch := omega) only [↓RU, RV, RH, ↓reduceIte, Nat.reduceEqDiff, reduceCtorEq, if_pos, w64, ↓RS, RG, Nat.reduceAdd, Nat.reduceMul, Nat.reduceLeDiff, tyint]
          refine hK _ _ ?_
          clear hK K
          refine W.cond rfl (fun h5 => ?_) (fun h5 => ?_)
          · try simp only [RL] at h5
            first | (exfalso; omega) | exact absurd h5 (by simp)
          · try simp only [RL] at h5
            refine W.skip ?_
            refine XThen.norm ?_
            refine W.seq ?_
            refine W.seq_region fun K hK => ?_
            simp (disch := omega) only [↓RU, RV, RH, ↓reduceIte, Nat.reduceEqDiff, reduceCtorEq, if_pos, w64, ↓RS, RG, Nat.reduceAdd, Nat.reduceMul, Nat.reduceLeDiff, tyint]
            refine hK _ _ ?_
            clear hK K
            refine W.cond rfl (fun h6 => ?_) (fun h6 => ?_)
            · try simp only [RL] at h6
              first | (exfalso; omega) | exact absurd h6 (by simp)
            · try simp only [RL] at h6
              refine W.skip ?_
              refine XThen.norm ?_
              refine W.seq_region fun K hK => ?_
              simp (disch := omega) only [↓RU, RV, RH, ↓reduceIte, Nat.reduceEqDiff, reduceCtorEq, if_pos, List.append_nil, ↓RS, RG, Nat.reduceAdd, Nat.reduceMul, Nat.reduceLeDiff]
              refine CallR.pc (tStr_pc hs1) rfl (.inl rfl) ?_
              simp (disch := omega) only [↓RU, RV, RH, ↓reduceIte, Nat.reduceEqDiff, reduceCtorEq, if_pos, List.append_nil, ↓RS, RG, Nat.reduceAdd, Nat.reduceMul, Nat.reduceLeDiff]
              refine CallR.pn (himp hs) rfl (.inl rfl) ?_
              simp (disch := omega) only [↓RU, RV, RH, ↓reduceIte, Nat.reduceEqDiff, reduceCtorEq, if_pos, List.append_nil, ↓RS, RG, Nat.reduceAdd, Nat.reduceMul, Nat.reduceLeDiff, RN]
              refine hK _ _ ?_
              clear hK K
              refine W.seq ?_
              refine W.seq_region fun K hK => ?_
              simp (disch := omega) only [↓RU, RV, RH, ↓reduceIte, Nat.reduceEqDiff, reduceCtorEq, if_pos, List.append_nil, w64, ↓RS, RG, Nat.reduceAdd, Nat.reduceMul, Nat.reduceLeDiff, tybool]
              refine CallR.pc (eqIntS_pc (p := Q) (q := Q) (by omega) (by omega)) (mapM_one (reify_loc (k := 9) rfl (by simp) (mapM_int _)) (mapM_one rfl rfl)) (.inl rfl) ?_
              simp (disch := omega) only [↓RU, RV, RH, ↓reduceIte, Nat.reduceEqDiff, reduceCtorEq, if_pos, List.append_nil, w64, ↓RS, RG, Nat.reduceAdd, Nat.reduceMul, Nat.reduceLeDiff, tybool, decide_true, Bool.not_true, bne_self_eq_false]
              refine hK _ _ ?_
              clear hK K
              refine W.cond rfl (fun h7 => ?_) (fun h7 => ?_)
              · try simp only [RL] at h7
                first | (exfalso; omega) | exact absurd h7 (by simp)
              · try simp only [RL] at h7
                refine W.skip ?_
                refine XThen.norm ?_
                refine W.seq_region fun K hK => ?_
                simp (disch := omega) only [↓RU, RV, RH, ↓reduceIte, Nat.reduceEqDiff, reduceCtorEq, if_pos, ↓RS, RG, Nat.reduceAdd, Nat.reduceMul, Nat.reduceLeDiff]
                refine hK _ _ ?_
                clear hK K
                refine W.seq_region fun K hK => ?_
                simp (disch := omega) only [↓RU, RV, RH, ↓reduceIte, Nat.reduceEqDiff, reduceCtorEq, if_pos, List.append_nil, ↓RS, RG, Nat.reduceAdd, Nat.reduceMul, Nat.reduceLeDiff]
                refine CallR.pc (heldIntS_pc (l := t3) (k0 := 1) (by omega) (by omega) (by omega) (fun j h => hd3 j (by omega))) (mapM_one ((reify_loc (k := 9) (n := Q.length) rfl (by simp [ht3]) (mapM_int _)).trans (by rw [← ht3])) rfl) (.inl rfl) ?_
                simp (disch := omega) only [↓RU, RV, RH, ↓reduceIte, Nat.reduceEqDiff, reduceCtorEq, if_pos, List.append_nil, ↓RS, RG, Nat.reduceAdd, Nat.reduceMul, Nat.reduceLeDiff, ht3]
                refine hK _ _ ?_
                clear hK K
                refine W.seq ?_
                refine W.seq_region fun K hK => ?_
                simp (disch := omega) only [↓RU, RV, RH, ↓reduceIte, Nat.reduceEqDiff, reduceCtorEq, if_pos, w64, ↓RS, RG, Nat.reduceAdd, Nat.reduceMul, Nat.reduceLeDiff, tyint]
                refine hK _ _ ?_
                clear hK K
                refine W.cond rfl (fun h8 => ?_) (fun h8 => ?_)
                · try simp only [RL] at h8
                  first | (exfalso; omega) | exact absurd h8 (by simp)
                · try simp only [RL] at h8
                  refine W.skip ?_
                  refine XThen.norm ?_
                  refine W.seq ?_
                  refine W.seq_region fun K hK => ?_
                  simp (disch := omega) only [↓RU, RV, RH, ↓reduceIte, Nat.reduceEqDiff, reduceCtorEq, if_pos, w64, ↓RS, RG, Nat.reduceAdd, Nat.reduceMul, Nat.reduceLeDiff, tyint]
                  refine hK _ _ ?_
                  clear hK K
                  refine W.cond rfl (fun h9 => ?_) (fun h9 => ?_)
                  · try simp only [RL] at h9
                    first | (exfalso; omega) | exact absurd h9 (by simp)
                  · try simp only [RL] at h9
                    refine W.skip ?_
                    refine XThen.norm ?_
                    refine W.seq_region fun K hK => ?_
                    simp (disch := omega) only [↓RU, RV, RH, ↓reduceIte, Nat.reduceEqDiff, reduceCtorEq, if_pos, ↓RS, RG, Nat.reduceAdd, Nat.reduceMul, Nat.reduceLeDiff]
                    refine hK _ _ ?_
                    clear hK K
                    refine W.ret ?_
                    refine BodyQ.ret rfl ?_
                    rfl

theorem orderPerm_nt {p : List Txt} (hs : Sm p) (hv : plainI p = false) : PC Tryz.prog 48 [eStrs p] (.tup [eInts [], .bool false]) true := by
  refine PC.of ⟨Tryz.func48, by kernel_rfl, rfl, by kernel_rfl⟩ tabOk mixed (by show 1 ≤ Tryz.f48.ntmps; decide) ?_
  refine W.seq_region fun K hK => ?_
  simp (disch := omega) only [↓RU, RV, RH, ↓reduceIte, Nat.reduceEqDiff, reduceCtorEq, if_pos, ↓RS, RG, Nat.reduceAdd, Nat.reduceMul, Nat.reduceLeDiff]
  refine hK _ _ ?_
  clear hK K
  refine W.seq_region fun K hK => ?_
  simp (disch := omega) only [↓RU, RV, RH, ↓reduceIte, Nat.reduceEqDiff, reduceCtorEq, if_pos, List.append_nil, ↓RS, RG, Nat.reduceAdd, Nat.reduceMul, Nat.reduceLeDiff, tyLLbool, tyLbool, tybool, tyimpl_orders, tyimpl_relation, tystruct_left_impl_relation_above_impl_relation_]
  refine CallR.pc (ordersOf_no hs hv) rfl (.inr rfl) ?_
  simp (disch := omega) only [↓RU, RV, RH, ↓reduceIte, Nat.reduceEqDiff, reduceCtorEq, if_pos, List.append_nil, ↓RS, RG, Nat.reduceAdd, Nat.reduceMul, Nat.reduceLeDiff, tyLLbool, tyLbool, tybool, tyimpl_orders, tyimpl_relation, tystruct_left_impl_relation_above_impl_relation_]
  refine hK _ _ ?_
  clear hK K
  refine W.seq ?_
  refine W.seq_region fun K hK => ?_
  simp (disch := omega) only [↓RU, RV, RH, ↓reduceIte, Nat.reduceEqDiff, reduceCtorEq, if_pos, ↓RS, RG, Nat.reduceAdd, Nat.reduceMul, Nat.reduceLeDiff]
  refine hK _ _ ?_
  clear hK K
  refine W.cond rfl (fun h => ?_) (fun h => ?_)
  · try simp only [RL] at h
    refine W.seq_region fun K hK => ?_
    simp (disch := omega) only [↓RU, RV, RH, ↓reduceIte, Nat.reduceEqDiff, reduceCtorEq, if_pos, ↓RS, RG, Nat.reduceAdd, Nat.reduceMul, Nat.reduceLeDiff]
    refine hK _ _ ?_
    clear hK K
    refine W.ret ?_
    refine XThen.ret ?_
    refine BodyQ.ret rfl ?_
    rfl
  · try simp only [RL] at h
    exact absurd h (by simp)

/-- The law FnExactOrderPerm. -/
theorem lawOrderPerm {p : List Txt} (hl : p.length ≤ 9223372036854775807) (hr : ∀ r ∈ p, r.length ≤ 9223372036854775807) : PC Tryz.prog 10 [eStrs p] (.bool true) true := by
  have hI := plainI_plain (p := p)
  cases hv : plainI p with
  | false =>
    refine orderPermLaw_no hl hr (fun hs => ?_) (fun hs => orderPerm_nt hs hv)
    have h := sOrderPerm_pc hs
    rw [← hI, hv] at h; exact h
  | true =>
    have hq : (permV p).length ≤ 9 := by rw [permV_len]; exact okB_rooms (plain_okB hv).1
    refine orderPermLaw_yes hl hr hq (fun hs => ?_) (fun hs => by rw [permV_len]; exact orderPerm_yn hs hv)
    have h := sOrderPerm_pc hs
    rw [← hI, hv] at h; exact h

end Fw
end Go.Proofs.YtcglmbijpjhbmaaGreat

/-! The program's OrderPerm answers as the specification's, for all arguments, and leaves what it should: the statement FnExactOrderPerm. No condition. -/
namespace Go.Proofs.YtcglmbijpjhbmaaGreat
open Go Go.ChangeShapes Go.WideShapes Go.ChangeAt Go.RowKit Fw

theorem Tryz.ownRr : ownKnob Tryz.prog.godebug = none := by kernel_rfl
theorem Tryz.laidOutRr : laidOutB Tryz.prog = true := by kernel_rfl

set_option maxRecDepth 100000 in
theorem rr_lifted (os : Os) (started : os.Started) (H : Type) (enc : TypeId × Value → H) :
    ReturnsInHanded {} Tryz.checked os 10 .any (Rows.fnExactOrderPermSpec.pre6 enc Tryz.prog Tryz.f10 Rows.fnExactOrderPermRow.domain false) (Rows.fnExactOrderPermSpec.post enc Tryz.prog Tryz.f10 false true false false) := by
  refine returnsInHanded_of_change (C := Tryz.checked) Tryz.ownRr started (by kernel_rfl) Tryz.func10
    (ChangeSpec.witness6 (enc := enc) (C := Tryz.checked) false ⟨#[], #[.slice none 0 0], []⟩ 8 (by kernel_rfl) (by kernel_rfl) (by kernel_rfl) (by kernel_rfl)) ?_
  intro W base args ds gs before hval0 hW hcnd _
  have hval : ∀ (j : Nat) t v, Tryz.f10.params[j]? = some t → args[j]? = some v → Value.okWide Tryz.prog W .any base t v := hval0
  have hW' := hW
  obtain ⟨p, q, hA0, hV, rfl, hfz, hnd⟩ := hW
  have hA : DataW.TrodAll enc Tryz.prog W 0 (fun _ => true) true Tryz.f10.params.toList args.toList ds p := hA0
  rw [Tryz.params10] at hA hval
  obtain ⟨v0, d0, rfl, rfl, h0⟩ := trodAll_one hA
  obtain ⟨rfl, rfl⟩ := trodVars_none hV
  obtain ⟨l0, i0, b0, c0⟩ := vi_strs (hval 0 _ v0 rfl rfl) h0
  have hlt : ∀ x ∈ p, x.block < W.heap.size := fun x hx => hW'.lt x (by simp [hx])
  refine ((lawOrderPerm b0 c0).run (fun b => b < W.heap.size) W #[v0] (fun _ h => h) rfl ?_).mono ?_
  · rintro (_ | i) p c hp hc
    · cases hp; cases hc; exact i0
    · simp at hp
  · rintro e W' ⟨cv, rfl, hB, hr⟩
    have hcv : cv = .bool true := by cases hr; rfl
    subst hcv
    have t0 := Below.trod Tryz.laidOutRr (by kernel_rfl) (of_decide_eq_true (by kernel_rfl)) h0 hB fun x hx => hlt x (by simp [hx])
    refine ⟨_, rfl, _, _, _, [], p, [], hW', ?_, ?_, ?_, hB.frame _, fun h => by cases h⟩
    · exact trodAll_mk1 (shut_bool Tryz.underlying4 true)
    · rw [Tryz.params10]; exact trodAll_mk1 t0
    · trivial
theorem rr_holds : Rows.FnExactOrderPermSaid :=
  OpenClaim.holds_of_wide 10 Tryz.f10 rfl rfl rfl rfl rfl rfl rfl ⟨rfl, rfl, rfl, rfl, rfl⟩ rfl rfl rfl rfl rfl (by kernel_rfl) Tryz.func10 (by kernel_rfl)
    (of_decide_eq_true (by kernel_rfl)) (by unfold Func.isWrapper; first | (rw [if_pos (by decide +kernel)]; kernel_rfl) | (rw [if_neg (by decide +kernel)]; exact ⟨rfl, rfl⟩))
    (fun os started H enc _ => rr_lifted os started H enc)
end Go.Proofs.YtcglmbijpjhbmaaGreat
