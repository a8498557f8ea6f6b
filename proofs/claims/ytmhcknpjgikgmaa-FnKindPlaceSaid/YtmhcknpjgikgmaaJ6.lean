/- Rooms that lie to the left altogether are left or apart up and down: the law FnKindPlace answers true for all codes. No condition. -/
import Derived.Test.YtmhcknpjgikgmaaJ5
set_option linter.all false
/-! Rooms that lie to the left altogether are left or apart up and down: the law FnKindPlace answers true for all codes. No condition. -/
namespace Go.Proofs.Ytmhcknpjgikgmaa
open Go Go.ChangeShapes Go.WideShapes Go.ChangeAt Go.RowKit Fw

theorem Try.ownRk : ownKnob Try.prog.godebug = none := by kernel_rfl
theorem Try.laidOutRk : laidOutB Try.prog = true := by kernel_rfl

set_option maxRecDepth 100000 in
theorem rk_lifted (os : Os) (started : os.Started) (H : Type) (enc : TypeId × Value → H) :
    ReturnsInHanded {} Try.checked os 7 .any (Rows.fnKindPlaceSpec.pre6 enc Try.prog Try.f7 Rows.fnKindPlaceRow.domain false) (Rows.fnKindPlaceSpec.post enc Try.prog Try.f7 false true false false) := by
  refine returnsInHanded_of_change (C := Try.checked) Try.ownRk started (by kernel_rfl) Try.func7
    (ChangeSpec.witness6 (enc := enc) (C := Try.checked) false ⟨#[], #[.slice none 0 0], []⟩ 8 (by kernel_rfl) (by kernel_rfl) (by kernel_rfl) (by kernel_rfl)) ?_
  intro W base args ds gs before hval0 hW hcnd _
  have hval : ∀ (j : Nat) t v, Try.f7.params[j]? = some t → args[j]? = some v → Value.okWide Try.prog W .any base t v := hval0
  have hW' := hW
  obtain ⟨p, q, hA0, hV, rfl, hfz, hnd⟩ := hW
  have hA : DataW.TrodAll enc Try.prog W 0 (fun _ => true) true Try.f7.params.toList args.toList ds p := hA0
  rw [Try.params7] at hA hval
  obtain ⟨v0, d0, rfl, rfl, h0⟩ := trodAll_one hA
  obtain ⟨rfl, rfl⟩ := trodVars_none hV
  obtain ⟨l0, i0, b0⟩ := vi_bytes (hval 0 _ v0 rfl rfl) h0
  have hlt : ∀ x ∈ p, x.block < W.heap.size := fun x hx => hW'.lt x (by simp [hx])
  refine ((kindPlace_law b0).run (fun b => b < W.heap.size) W #[v0] (fun _ h => h) rfl ?_).mono ?_
  · rintro (_ | i) p c hp hc
    · cases hp; cases hc; exact i0
    · simp at hp
  · rintro e W' ⟨cv, rfl, hB, hr⟩
    have hcv : cv = .bool true := by cases hr; rfl
    subst hcv
    have t0 := Below.trod Try.laidOutRk (by kernel_rfl) (of_decide_eq_true (by kernel_rfl)) h0 hB fun x hx => hlt x (by simp [hx])
    refine ⟨_, rfl, _, _, _, [], p, [], hW', ?_, ?_, ?_, hB.frame _, fun h => by cases h⟩
    · exact trodAll_mk1 (shut_bool Try.underlying4 true)
    · rw [Try.params7]; exact trodAll_mk1 t0
    · trivial
theorem rk_holds : Rows.FnKindPlaceSaid :=
  OpenClaim.holds_of_wide 7 Try.f7 rfl rfl rfl rfl rfl rfl rfl ⟨rfl, rfl, rfl, rfl, rfl⟩ rfl rfl rfl rfl rfl (by kernel_rfl) Try.func7 (by kernel_rfl)
    (of_decide_eq_true (by kernel_rfl)) (by unfold Func.isWrapper; first | (rw [if_pos (by decide +kernel)]; kernel_rfl) | (rw [if_neg (by decide +kernel)]; exact ⟨rfl, rfl⟩))
    (fun os started H enc _ => rk_lifted os started H enc)
end Go.Proofs.Ytmhcknpjgikgmaa
