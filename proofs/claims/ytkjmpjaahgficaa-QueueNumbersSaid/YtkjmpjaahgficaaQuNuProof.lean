/- For every input the law of the numbers returns true: numbers rise, and are never given twice, whatever is taken, dropped or cleared. -/
import Derived.Test.YtkjmpjaahgficaaRows
import Derived.Test.YtkjmpjaahgficaaQuNuLaw
import Derived.WalkKit
import Derived.ProofKit
import Derived.OpenShut
namespace Go.Proofs.Ytkjmpjaahgficaa.queueNumbers
open Go.ChangeShapes Go.WideShapes Go.ChangeAt Go.RowKit

theorem own : ownKnob Try.prog.godebug = none := by kernel_rfl

theorem spec_fn {H : Type} : ∀ ds : List (DataW H), ds.length = Try.f6.params.toList.length → (Rows.queueNumbersSpec.fn H ds).results = [.lit (.bool true)] ∧ (Rows.queueNumbersSpec.fn H ds).args = ds ∧ (Rows.queueNumbersSpec.fn H ds).vars = []
  | [_], _ => ⟨rfl, rfl, rfl⟩

  | [], h => by rw [Try.params6] at h; simp at h
  | _ :: _ :: _, h => by rw [Try.params6] at h; simp at h

set_option maxRecDepth 100000 in
theorem lifted (os : Os) (started : os.Started) (H : Type) (enc : TypeId × Value → H) :
    ReturnsInHanded {} Try.checked os 6 .any (Rows.queueNumbersSpec.pre6 enc Try.prog Try.f6 Rows.queueNumbersRow.domain false) (Rows.queueNumbersSpec.post enc Try.prog Try.f6 false true false false) := by
  refine returnsInHanded_of_change (C := Try.checked) own started (by kernel_rfl) Try.func6
    (ChangeSpec.witness6 (enc := enc) (C := Try.checked) false ⟨#[], #[.slice none 0 0], []⟩ 8 (by kernel_rfl) (by kernel_rfl) (by kernel_rfl) (by kernel_rfl)) ?_
  intro W base args ds gs before hval0 hW hcnd _
  exact Go.CM.law_step [34, 40, 5, 3] 4 (by kernel_rfl) (by kernel_rfl) (by kernel_rfl) (by kernel_rfl) (by kernel_rfl) (by kernel_rfl) (by kernel_rfl) rfl spec_fn
    (fun j t v a b => hval0 j t v a b) hW queueNumbers_law

theorem over : Rows.queueNumbersRow.holds Try.pinned (OpenSpec.ofChange Rows.queueNumbersSpec) :=
  OpenClaim.holds_of_wide 6 Try.f6 rfl rfl rfl rfl rfl rfl rfl ⟨rfl, rfl, rfl, rfl, rfl⟩ rfl rfl rfl rfl rfl (by kernel_rfl) Try.func6 (by kernel_rfl)
    (of_decide_eq_true (by kernel_rfl)) (by unfold Func.isWrapper; first | (rw [if_pos (by decide +kernel)]; kernel_rfl) | (rw [if_neg (by decide +kernel)]; exact ⟨rfl, rfl⟩))
    (fun os started H enc _ => lifted os started H enc)

/-- The statement. -/
theorem proved : Rows.QueueNumbersSaid :=
  over
#print axioms proved
end Go.Proofs.Ytkjmpjaahgficaa.queueNumbers
