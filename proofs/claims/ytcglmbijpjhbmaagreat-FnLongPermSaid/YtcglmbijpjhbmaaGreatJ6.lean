/- Longest rows of rooms are longest growing parts of permutations: the law FnLongPerm answers true for all codes. No condition. -/
import Derived.Test.YtcglmbijpjhbmaaGreatJ5
import Derived.Test.YtcglmbijpjhbmaaGreatJ4
set_option linter.all false
namespace Go.Proofs.YtcglmbijpjhbmaaGreat
namespace Fw
open Go
open Nat (reduceEqDiff reduceLeDiff reduceAdd reduceMul)
theorem longPerm_law {code : Txt} (hcode : code.length ≤ 9223372036854775807) : PC Tryz.prog 14 [eBy code] (.bool true) true := by
 refine PC.of ⟨Tryz.func14, by kernel_rfl, rfl, by kernel_rfl⟩ tabOk mixed (by show 1 ≤ Tryz.f14.ntmps; decide) ?_
 refine W.seq_region fun K hK => ?_
 simp (disch := omega) only [↓RU, RV, RH, ↓reduceIte, reduceEqDiff, reduceCtorEq, if_pos, ↓RS, RG, reduceAdd, reduceMul, reduceLeDiff]
 refine hK _ _ ?_;clear hK K
 refine W.seq ?_
 refine W.seq_region fun K hK => ?_
 simp (disch := omega) only [↓RU, RV, RH, ↓reduceIte, reduceEqDiff, reduceCtorEq, if_pos, w64, ↓RS, RG, reduceAdd, reduceMul, reduceLeDiff, ty6, tyint, ty27]
 refine hK _ _ ?_;clear hK K
 refine W.cond rfl (fun h0 => ?_) (fun h0 => ?_)
 ·try simp only [RL] at h0
  refine W.seq_region fun K hK => ?_
  simp (disch := omega) only [↓RU, RV, RH, ↓reduceIte, reduceEqDiff, reduceCtorEq, if_pos, ↓RS, RG, reduceAdd, reduceMul, reduceLeDiff]
  refine hK _ _ ?_;clear hK K
  refine W.ret ?_
  refine XThen.ret ?_
  refine BodyQ.ret rfl ?_
  rfl
 ·try simp only [RL] at h0
  have hcl : code.length ≤ 1048576 := by omega
  refine W.skip ?_
  refine XThen.norm ?_
  refine W.seq_region fun K hK => ?_
  simp (disch := omega) only [↓RU, RV, RH, ↓reduceIte, reduceEqDiff, reduceCtorEq, if_pos, List.append_nil, ↓RS, RG, reduceAdd, reduceMul, reduceLeDiff]
  refine CallR.ev (drawOrderLong_ev hcl) ?_
  rintro _ _ ⟨p, t, hs, rfl, rfl⟩
  simp (disch := omega) only [↓RU, RV, RH, ↓reduceIte, reduceEqDiff, reduceCtorEq, if_pos, List.append_nil, ↓RS, RG, reduceAdd, reduceMul, reduceLeDiff]
  refine hK _ _ ?_;clear hK K
  have hI : plainB p = plainI p := plainI_plain.symm
  refine W.seq_region fun K hK => ?_
  simp (disch := omega) only [↓RU, RV, RH, ↓reduceIte, reduceEqDiff, reduceCtorEq, if_pos, List.append_nil, ↓RS, RG, reduceAdd, reduceMul, reduceLeDiff]
  refine CallR.pc (orderLong_pc hs) rfl (.inl rfl) ?_
  simp (disch := omega) only [↓RU, RV, RH, ↓reduceIte, reduceEqDiff, reduceCtorEq, if_pos, List.append_nil, ↓RS, RG, reduceAdd, reduceMul, reduceLeDiff]
  refine hK _ _ ?_;clear hK K
  refine W.seq_region fun K hK => ?_
  simp (disch := omega) only [↓RU, RV, RH, ↓reduceIte, reduceEqDiff, reduceCtorEq, if_pos, List.append_nil, ↓RS, RG, reduceAdd, reduceMul, reduceLeDiff]
  refine CallR.pc (sOrderLong_pc hs) rfl (.inl rfl) ?_
  simp (disch := omega) only [↓RU, RV, RH, ↓reduceIte, reduceEqDiff, reduceCtorEq, if_pos, List.append_nil, ↓RS, RG, reduceAdd, reduceMul, reduceLeDiff]
  refine hK _ _ ?_;clear hK K
  refine W.seq ?_
  refine W.seq_region fun K hK => ?_
  cases hv : plainI p
  ·skip
   rw [hv] at hI
   simp (disch := omega) only [↓RU, RV, RH, ↓reduceIte, reduceEqDiff, reduceCtorEq, if_pos, w64, ↓RS, RG, reduceAdd, reduceMul, reduceLeDiff, tybool, tyint, pEq_bb, Option.map_some, bne_self_eq_false, beq_self_eq_true, Bool.not_true, Bool.not_false, decide_true, hI]
   refine hK _ _ ?_;clear hK K
   refine W.cond rfl (fun h1 => ?_) (fun h1 => ?_)
   ·try simp only [RL] at h1
    refine W.seq_region fun K hK => ?_
    simp (disch := omega) only [↓RU, RV, RH, ↓reduceIte, reduceEqDiff, reduceCtorEq, if_pos, w64, ↓RS, RG, reduceAdd, reduceMul, reduceLeDiff, tybool, tyint, pEq_bb, Option.map_some, bne_self_eq_false, beq_self_eq_true, Bool.not_true, Bool.not_false, decide_true]
    refine hK _ _ ?_;clear hK K
    refine W.ret ?_
    refine XThen.ret ?_
    refine BodyQ.ret rfl ?_
    rfl
   ·try simp only [RL] at h1
    exact absurd h1 (by simp)
  ·skip
   rw [hv] at hI
   simp (disch := omega) only [↓RU, RV, RH, ↓reduceIte, reduceEqDiff, reduceCtorEq, if_pos, w64, ↓RS, RG, reduceAdd, reduceMul, reduceLeDiff, tybool, tyint, pEq_bb, Option.map_some, bne_self_eq_false, beq_self_eq_true, Bool.not_true, Bool.not_false, decide_true, hI]
   refine hK _ _ ?_;clear hK K
   refine W.cond rfl (fun h1 => ?_) (fun h1 => ?_)
   ·try simp only [RL] at h1
    exact absurd h1 (by simp)
   ·try simp only [RL] at h1
    obtain ⟨u1, u2, hn1, hn9, hp⟩ := plain_ups hv
    have hpl := permV_len (p := p)
    have hlu := (longV_yes hv).1
    have hld := (longV_yes hv).2
    have hmu := mx_up hv
    have hmd := mx_dn hv
    refine W.skip ?_
    refine XThen.norm ?_
    refine W.seq_region fun K hK => ?_
    simp (disch := omega) only [↓RU, RV, RH, ↓reduceIte, reduceEqDiff, reduceCtorEq, if_pos, List.append_nil, ↓RS, RG, reduceAdd, reduceMul, reduceLeDiff, hv, ifL_t]
    refine CallR.pc (orderPerm_pc hs) rfl (.inr rfl) ?_
    simp (disch := omega) only [↓RU, RV, RH, ↓reduceIte, reduceEqDiff, reduceCtorEq, if_pos, List.append_nil, ↓RS, RG, reduceAdd, reduceMul, reduceLeDiff, hv, ifL_t]
    refine hK _ _ ?_;clear hK K
    refine W.seq_region fun K hK => ?_
    simp (disch := omega) only [↓RU, RV, RH, ↓reduceIte, reduceEqDiff, reduceCtorEq, if_pos, ↓RS, RG, reduceAdd, reduceMul, reduceLeDiff, tyLint, tyint, hpl, repz_int, ile_true]
    refine hK _ _ ?_;clear hK K
    refine W.seq_region fun K hK => ?_
    simp (disch := omega) only [↓RU, RV, RH, ↓reduceIte, reduceEqDiff, reduceCtorEq, if_pos, ↓RS, RG, reduceAdd, reduceMul, reduceLeDiff, tyLint, tyint, hpl, repz_int, ile_true]
    refine hK _ _ ?_;clear hK K
    refine W.seq_region fun K hK => ?_
    simp (disch := omega) only [↓RU, RV, RH, ↓reduceIte, reduceEqDiff, reduceCtorEq, if_pos, ↓RS, RG, reduceAdd, reduceMul, reduceLeDiff]
    refine hK _ _ ?_;clear hK K
    refine W.seq_region fun K hK => ?_
    simp (disch := omega) only [↓RU, RV, RH, ↓reduceIte, reduceEqDiff, reduceCtorEq, if_pos, ↓RS, RG, reduceAdd, reduceMul, reduceLeDiff]
    refine hK _ _ ?_;clear hK K
    refine W.seq ?_
    refine W.seq_region fun K hK => ?_
    simp (disch := omega) only [↓RU, RV, RH, ↓reduceIte, reduceEqDiff, reduceCtorEq, if_pos, ↓RS, RG, reduceAdd, reduceMul, reduceLeDiff]
    refine hK _ _ ?_;clear hK K
    refine W.block ?_
    refine W.loop [4, 5, 10, 11, 12, 13, 14, 15, 16] (fun n vs S => ∃ i : Nat, n = (rP p).length - i ∧ i ≤ (rP p).length ∧ vs = [.int .i64 (longV p 0), .int .i64 (longV p 1), eInts (permV p), .bool true, .loc 0 t 0 (rP p).length, .loc 1 (t + 1) 0 (rP p).length, .int .i64 (mxF (upN p) i), .int .i64 (mxF (dnN p) i), .int .i64 i] ∧ S = ⟨[.arr t 3 1 (((stp (upN p) i (rP p).length)).map (.int .i64)), .arr (t + 1) 3 1 (((stp (dnN p) i (rP p).length)).map (.int .i64))], t + 2⟩) (rP p).length ?_ ?_
    ·refine ⟨2, 0, rfl, Nat.zero_le _, ?_, ?_⟩
     ·simp [Env.put, Env.of, argEnv, mxF]
     ·simp [take_eq, stp_zero]
    rintro n vs S - ⟨i, rfl, h_i, rfl, rfl⟩
    refine W.seq ?_
    refine W.seq_region fun K hK => ?_
    simp (disch := omega) only [↓RU, RV, RH, ↓reduceIte, reduceEqDiff, reduceCtorEq, if_pos, w64, ↓RS, RG, reduceAdd, reduceMul, reduceLeDiff, tyLint, tyint, hpl]
    refine hK _ _ ?_;clear hK K
    refine W.cond rfl (fun h2 => ?_) (fun h2 => ?_)
    ·try simp only [RL] at h2
     have hiN : i < (rP p).length := by omega
     have hul := stp_len (f := upN p) (i := i) (n := (rP p).length)
     have hdl := stp_len (f := dnN p) (i := i) (n := (rP p).length)
     have hxi := xI_at hp hiN
     have hbu := mxF_le (f := upN p) (B := 909) (n := i) (by omega) fun j hj => (up_bnd hv (by omega)).2.1
     have hbd := mxF_le (f := dnN p) (B := 909) (n := i) (by omega) fun j hj => (dn_bnd hv (by omega)).2.1
     refine W.skip ?_
     refine XThen.norm ?_
     refine W.seq ?_
     refine W.block ?_
     refine W.seq_region fun K hK => ?_
     simp (disch := omega) only [↓RU, RV, RH, ↓reduceIte, reduceEqDiff, reduceCtorEq, if_pos, ↓RS, RG, reduceAdd, reduceMul, reduceLeDiff, tyLint, tyint, hul, set_spl, set_int]
     refine hK _ _ ?_;clear hK K
     refine W.seq_region fun K hK => ?_
     simp (disch := omega) only [↓RU, RV, RH, ↓reduceIte, reduceEqDiff, reduceCtorEq, if_pos, ↓RS, RG, reduceAdd, reduceMul, reduceLeDiff, tyLint, tyint, hdl, set_spl, set_int]
     refine hK _ _ ?_;clear hK K
     refine W.seq ?_
     refine W.seq_region fun K hK => ?_
     simp (disch := omega) only [↓RU, RV, RH, ↓reduceIte, reduceEqDiff, reduceCtorEq, if_pos, ↓RS, RG, reduceAdd, reduceMul, reduceLeDiff]
     refine hK _ _ ?_;clear hK K
     refine W.block ?_
     refine W.loop [4, 5, 10, 11, 12, 13, 14, 15, 16, 17] (fun n vs S => ∃ k : Nat, n = i - k ∧ k ≤ i ∧ vs = [.int .i64 (longV p 0), .int .i64 (longV p 1), eInts (permV p), .bool true, .loc 0 t 0 (rP p).length, .loc 1 (t + 1) 0 (rP p).length, .int .i64 (mxF (upN p) i), .int .i64 (mxF (dnN p) i), .int .i64 i, .int .i64 k] ∧ S = ⟨[.arr t 3 1 (((stp (upN p) i (rP p).length).set i (upI p i k)).map (.int .i64)), .arr (t + 1) 3 1 (((stp (dnN p) i (rP p).length).set i (dnI p i k)).map (.int .i64))], t + 2⟩) i ?_ ?_
     ·refine ⟨2, 0, rfl, Nat.zero_le _, ?_, ?_⟩
      ·simp [Env.put, Env.of]
      ·simp [take_eq, upI, dnI]
     rintro n vs S - ⟨k, rfl, h_k, rfl, rfl⟩
     refine W.seq ?_
     refine W.seq_region fun K hK => ?_
     simp (disch := omega) only [↓RU, RV, RH, ↓reduceIte, reduceEqDiff, reduceCtorEq, if_pos, w64, ↓RS, RG, reduceAdd, reduceMul, reduceLeDiff, tyint]
     refine hK _ _ ?_;clear hK K
     refine W.cond rfl (fun h3 => ?_) (fun h3 => ?_)
     ·try simp only [RL] at h3
      have hki : k < i := by omega
      have hxk := xI_at hp (show k < (rP p).length by omega)
      have su := up_bnd hv (show k < (rP p).length by omega)
      have sd := dn_bnd hv (show k < (rP p).length by omega)
      have bu := upI_le (p := p) (i := i) (k := k) (B := 910) (by omega) fun j hj _ => by have := up_bnd hv (show j < (rP p).length by omega); omega
      have bd := dnI_le (p := p) (i := i) (k := k) (B := 910) (by omega) fun j hj _ => by have := dn_bnd hv (show j < (rP p).length by omega); omega
      have gu1 := stp_here (f := upN p) (v := upI p i k) hiN
      have gu2 := stp_get (f := upN p) (v := upI p i k) hki (show k < (rP p).length by omega)
      have gd1 := stp_here (f := dnN p) (v := dnI p i k) hiN
      have gd2 := stp_get (f := dnN p) (v := dnI p i k) hki (show k < (rP p).length by omega)
      have gl1 : ((stp (upN p) i (rP p).length).set i (upI p i k)).length = (rP p).length := by simp [hul]
      have gl2 : ((stp (dnN p) i (rP p).length).set i (dnI p i k)).length = (rP p).length := by simp [hdl]
      refine W.skip ?_
      refine XThen.norm ?_
      refine W.seq ?_
      refine W.block ?_
      refine W.seq_draw (by kernel_rfl) fun K hK => ?_
      simp (disch := omega) only [↓RU, RV, RH, ↓reduceIte, reduceEqDiff, reduceCtorEq, if_pos, w64, ↓RS, RG, reduceAdd, reduceMul, reduceLeDiff, tyLint, tyint, hxk, hxi, hpl]
      refine hK _ _ ?_;clear hK K
      refine W.cond rfl (fun h4 => ?_) (fun h4 => ?_)
      ·try simp only [RL] at h4
       refine W.draw_k (by kernel_rfl) fun K hK => ?_
       simp (disch := omega) only [↓RU, RV, RH, ↓reduceIte, reduceEqDiff, reduceCtorEq, if_pos, w64, ite_max, ↓RS, RG, reduceAdd, reduceMul, reduceLeDiff, tyLint, tyint, gu1, gu2, gl1, set_spl, set_int, List.set_set]
       refine hK _ _ ?_;clear hK K
       refine XBlock.norm ?_
       refine XThen.norm ?_
       refine W.region_k fun K hK => ?_
       simp (disch := omega) only [↓RU, RV, RH, ↓reduceIte, reduceEqDiff, reduceCtorEq, if_pos, w64, ↓RS, RG, reduceAdd, reduceMul, reduceLeDiff, tyint]
       refine hK _ _ ?_;clear hK K
       refine XThen.norm ?_
       refine ⟨i - (k + 1), by omega, 2, k + 1, rfl, by omega, ?_, ?_⟩
       ·simp [Env.put, Env.of]
       ·simp only [take_eq, upI, dnI, if_pos h4]; rfl
      ·try simp only [RL] at h4
       refine W.draw_k (by kernel_rfl) fun K hK => ?_
       simp (disch := omega) only [↓RU, RV, RH, ↓reduceIte, reduceEqDiff, reduceCtorEq, if_pos, w64, ite_max, ↓RS, RG, reduceAdd, reduceMul, reduceLeDiff, tyLint, tyint, gd1, gd2, gl2, set_spl, set_int, List.set_set]
       refine hK _ _ ?_;clear hK K
       refine XBlock.norm ?_
       refine XThen.norm ?_
       refine W.region_k fun K hK => ?_
       simp (disch := omega) only [↓RU, RV, RH, ↓reduceIte, reduceEqDiff, reduceCtorEq, if_pos, w64, ↓RS, RG, reduceAdd, reduceMul, reduceLeDiff, tyint]
       refine hK _ _ ?_;clear hK K
       refine XThen.norm ?_
       refine ⟨i - (k + 1), by omega, 2, k + 1, rfl, by omega, ?_, ?_⟩
       ·simp [Env.put, Env.of]
       ·simp only [take_eq, upI, dnI, if_neg h4]; rfl
     ·try simp only [RL] at h3
      obtain rfl : i = k := by omega
      have gu1 := stp_here (f := upN p) (v := upI p i i) hiN
      have gd1 := stp_here (f := dnN p) (v := dnI p i i) hiN
      have gl1 : ((stp (upN p) i (rP p).length).set i (upI p i i)).length = (rP p).length := by simp [hul]
      have gl2 : ((stp (dnN p) i (rP p).length).set i (dnI p i i)).length = (rP p).length := by simp [hdl]
      rw [upI_all hv hiN] at gu1 gl1 ⊢
      rw [dnI_all hv hiN] at gd1 gl2 ⊢
      have su := up_bnd hv hiN
      have sd := dn_bnd hv hiN
      refine W.exit ?_
      refine XThen.exit ?_
      refine XThen.exit ?_
      refine XBlock.hit ?_
      refine XThen.norm ?_
      refine W.seq_region fun K hK => ?_
      simp (disch := omega) only [↓RU, RV, RH, ↓reduceIte, reduceEqDiff, reduceCtorEq, if_pos, ite_max, ↓RS, RG, reduceAdd, reduceMul, reduceLeDiff, tyLint, tyint, gu1, gl1]
      refine hK _ _ ?_;clear hK K
      refine W.region_k fun K hK => ?_
      simp (disch := omega) only [↓RU, RV, RH, ↓reduceIte, reduceEqDiff, reduceCtorEq, if_pos, ite_max, ↓RS, RG, reduceAdd, reduceMul, reduceLeDiff, tyLint, tyint, gd1, gl2]
      refine hK _ _ ?_;clear hK K
      refine XBlock.norm ?_
      refine XThen.norm ?_
      refine W.region_k fun K hK => ?_
      simp (disch := omega) only [↓RU, RV, RH, ↓reduceIte, reduceEqDiff, reduceCtorEq, if_pos, w64, ↓RS, RG, reduceAdd, reduceMul, reduceLeDiff, tyint]
      refine hK _ _ ?_;clear hK K
      refine XThen.norm ?_
      refine ⟨(rP p).length - (i + 1), by omega, 2, i + 1, rfl, by omega, ?_, ?_⟩
      ·simp [Env.put, Env.of, mxF]
      ·simp only [take_eq, stp_set]; rfl
    ·try simp only [RL] at h2
     obtain rfl : i = (rP p).length := by omega
     refine W.exit ?_
     refine XThen.exit ?_
     refine XThen.exit ?_
     refine XBlock.hit ?_
     refine XThen.norm ?_
     refine W.seq_region fun K hK => ?_
     have e1 : mxF (upN p) (rP p).length = longV p 0 := by rw [hlu]; exact hmu
     have e2 : mxF (dnN p) (rP p).length = longV p 1 := by rw [hld]; exact hmd
     simp (disch := omega) only [↓RU, RV, RH, ↓reduceIte, reduceEqDiff, reduceCtorEq, if_pos, w64, ↓RS, RG, reduceAdd, reduceMul, reduceLeDiff, tyint, pEq_bb, Option.map_some, bne_self_eq_false, beq_self_eq_true, Bool.not_true, Bool.not_false, decide_true, e1, e2, beq_self_eq_true]
     refine hK _ _ ?_;clear hK K
     refine W.ret ?_
     refine BodyQ.ret rfl ?_
     rfl
end Fw
end Go.Proofs.YtcglmbijpjhbmaaGreat
namespace Go.Proofs.YtcglmbijpjhbmaaGreat
open Go Go.ChangeShapes Go.WideShapes Go.ChangeAt Go.RowKit Fw
theorem Tryz.ownRx : ownKnob Tryz.prog.godebug = none := by kernel_rfl
theorem Tryz.laidOutRx : laidOutB Tryz.prog = true := by kernel_rfl
set_option maxRecDepth 100000 in
theorem rx_lifted (os : Os) (started : os.Started) (H : Type) (enc : TypeId × Value → H) :
  ReturnsInHanded {} Tryz.checked os 14 .any (Rows.fnLongPermSpec.pre6 enc Tryz.prog Tryz.f14 Rows.fnLongPermRow.domain false) (Rows.fnLongPermSpec.post enc Tryz.prog Tryz.f14 false true false false) := by
 refine returnsInHanded_of_change (C := Tryz.checked) Tryz.ownRx started (by kernel_rfl) Tryz.func14
  (ChangeSpec.witness6 (enc := enc) (C := Tryz.checked) false ⟨#[], #[.slice none 0 0], []⟩ 8 (by kernel_rfl) (by kernel_rfl) (by kernel_rfl) (by kernel_rfl)) ?_
 intro W base args ds gs before hval0 hW hcnd _
 have hval : ∀ (j : Nat) t v, Tryz.f14.params[j]? = some t → args[j]? = some v → Value.okWide Tryz.prog W .any base t v := hval0
 have hW' := hW
 obtain ⟨p, q, hA0, hV, rfl, hfz, hnd⟩ := hW
 have hA : DataW.TrodAll enc Tryz.prog W 0 (fun _ => true) true Tryz.f14.params.toList args.toList ds p := hA0
 rw [Tryz.params14] at hA hval
 obtain ⟨v0, d0, rfl, rfl, h0⟩ := trodAll_one hA
 obtain ⟨rfl, rfl⟩ := trodVars_none hV
 obtain ⟨l0, i0, b0⟩ := vi_bytes (hval 0 _ v0 rfl rfl) h0
 have hlt : ∀ x ∈ p, x.block < W.heap.size := fun x hx => hW'.lt x (by simp [hx])
 refine ((longPerm_law b0).run (fun b => b < W.heap.size) W #[v0] (fun _ h => h) rfl ?_).mono ?_
 ·rintro (_ | i) p c hp hc
  ·cases hp; cases hc; exact i0
  ·simp at hp
 ·rintro e W' ⟨cv, rfl, hB, hr⟩
  have hcv : cv = .bool true := by cases hr; rfl
  subst hcv
  have t0 := Below.trod Tryz.laidOutRx (by kernel_rfl) (of_decide_eq_true (by kernel_rfl)) h0 hB fun x hx => hlt x (by simp [hx])
  refine ⟨_, rfl, _, _, _, [], p, [], hW', ?_, ?_, ?_, hB.frame _, fun h => by cases h⟩
  ·exact trodAll_mk1 (shut_bool Tryz.underlying4 true)
  ·rw [Tryz.params14]; exact trodAll_mk1 t0
  ·trivial
theorem rx_holds : Rows.FnLongPermSaid :=
 OpenClaim.holds_of_wide 14 Tryz.f14 rfl rfl rfl rfl rfl rfl rfl ⟨rfl, rfl, rfl, rfl, rfl⟩ rfl rfl rfl rfl rfl (by kernel_rfl) Tryz.func14 (by kernel_rfl)
  (of_decide_eq_true (by kernel_rfl)) (by unfold Func.isWrapper; first | (rw [if_pos (by decide +kernel)]; kernel_rfl) | (rw [if_neg (by decide +kernel)]; exact ⟨rfl, rfl⟩))
  (fun os started H enc _ => rx_lifted os started H enc)
end Go.Proofs.YtcglmbijpjhbmaaGreat
