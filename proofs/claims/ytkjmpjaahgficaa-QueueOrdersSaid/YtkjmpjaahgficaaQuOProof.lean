/- For every input the law of the queue of texts returns true: any texts come out as they were put in; more than the limit are not taken. -/
import Derived.Test.YtkjmpjaahgficaaRows
import Derived.Test.YtkjmpjaahgficaaQuOLaw
import Derived.WalkKit
import Derived.ProofKit
import Derived.OpenShut
namespace Go.Proofs.Ytkjmpjaahgficaa.queueOrders
open Go.ChangeShapes Go.WideShapes Go.ChangeAt Go.RowKit

theorem own : ownKnob Try.prog.godebug = none := by kernel_rfl

theorem spec_fn {H : Type} : ∀ ds : List (DataW H), ds.length = Try.f3.params.toList.length → (Rows.queueOrdersSpec.fn H ds).results = [.lit (.bool true)] ∧ (Rows.queueOrdersSpec.fn H ds).args = ds ∧ (Rows.queueOrdersSpec.fn H ds).vars = []
  | [_, _], _ => ⟨rfl, rfl, rfl⟩

  | [], h => by rw [Try.params3] at h; simp at h
  | [_], h => by rw [Try.params3] at h; simp at h
  | _ :: _ :: _ :: _, h => by rw [Try.params3] at h; simp at h

set_option maxRecDepth 100000 in
theorem lifted (os : Os) (started : os.Started) (H : Type) (enc : TypeId × Value → H) :
    ReturnsInHanded {} Try.checked os 3 .any (Rows.queueOrdersSpec.pre6 enc Try.prog Try.f3 Rows.queueOrdersRow.domain false) (Rows.queueOrdersSpec.post enc Try.prog Try.f3 false true false false) := by
  refine returnsInHanded_of_change (C := Try.checked) own started (by kernel_rfl) Try.func3
    (ChangeSpec.witness6 (enc := enc) (C := Try.checked) false ⟨#[], #[.slice none 0 0, .int .u8 0], []⟩ 8 (by kernel_rfl) (by kernel_rfl) (by kernel_rfl) (by kernel_rfl)) ?_
  intro W base args ds gs before hval0 hW hcnd _
  exact Go.CM.law_step [22, 9, 5] 4 (by kernel_rfl) (by kernel_rfl) (by kernel_rfl) (by kernel_rfl) (by kernel_rfl) (by kernel_rfl) (by kernel_rfl) rfl spec_fn
    (fun j t v a b => hval0 j t v a b) hW queueOrders_law

theorem over : Rows.queueOrdersRow.holds Try.pinned (OpenSpec.ofChange Rows.queueOrdersSpec) :=
  OpenClaim.holds_of_wide 3 Try.f3 rfl rfl rfl rfl rfl rfl rfl ⟨rfl, rfl, rfl, rfl, rfl⟩ rfl rfl rfl rfl rfl (by kernel_rfl) Try.func3 (by kernel_rfl)
    (of_decide_eq_true (by kernel_rfl)) (by unfold Func.isWrapper; first | (rw [if_pos (by decide +kernel)]; kernel_rfl) | (rw [if_neg (by decide +kernel)]; exact ⟨rfl, rfl⟩))
    (fun os started H enc _ => lifted os started H enc)

/-- The statement. -/
theorem proved : Rows.QueueOrdersSaid :=
  over
#print axioms proved
end Go.Proofs.Ytkjmpjaahgficaa.queueOrders
