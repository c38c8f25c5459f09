/- For every input the law of the queue at play returns true: whatever is done with a queue of any limit, what comes out, and what is in it. -/
import Derived.Test.YtkjmpjaahgficaaRows
import Derived.Test.YtkjmpjaahgficaaQuPlLaw
import Derived.WalkKit
import Derived.ProofKit
import Derived.OpenShut
namespace Go.Proofs.Ytkjmpjaahgficaa.queuePlays
open Go.ChangeShapes Go.WideShapes Go.ChangeAt Go.RowKit

theorem own : ownKnob Try.prog.godebug = none := by kernel_rfl

theorem spec_fn {H : Type} : ∀ ds : List (DataW H), ds.length = Try.f4.params.toList.length → (Rows.queuePlaysSpec.fn H ds).results = [.lit (.bool true)] ∧ (Rows.queuePlaysSpec.fn H ds).args = ds ∧ (Rows.queuePlaysSpec.fn H ds).vars = []
  | [_, _], _ => ⟨rfl, rfl, rfl⟩

  | [], h => by rw [Try.params4] at h; simp at h
  | [_], h => by rw [Try.params4] at h; simp at h
  | _ :: _ :: _ :: _, h => by rw [Try.params4] at h; simp at h

set_option maxRecDepth 100000 in
theorem lifted (os : Os) (started : os.Started) (H : Type) (enc : TypeId × Value → H) :
    ReturnsInHanded {} Try.checked os 4 .any (Rows.queuePlaysSpec.pre6 enc Try.prog Try.f4 Rows.queuePlaysRow.domain false) (Rows.queuePlaysSpec.post enc Try.prog Try.f4 false true false false) := by
  refine returnsInHanded_of_change (C := Try.checked) own started (by kernel_rfl) Try.func4
    (ChangeSpec.witness6 (enc := enc) (C := Try.checked) false ⟨#[], #[.int .i64 0, .slice none 0 0], []⟩ 8 (by kernel_rfl) (by kernel_rfl) (by kernel_rfl) (by kernel_rfl)) ?_
  intro W base args ds gs before hval0 hW hcnd _
  exact Go.CM.law_step [3, 34, 40, 5] 4 (by kernel_rfl) (by kernel_rfl) (by kernel_rfl) (by kernel_rfl) (by kernel_rfl) (by kernel_rfl) (by kernel_rfl) rfl spec_fn
    (fun j t v a b => hval0 j t v a b) hW queuePlays_law

theorem over : Rows.queuePlaysRow.holds Try.pinned (OpenSpec.ofChange Rows.queuePlaysSpec) :=
  OpenClaim.holds_of_wide 4 Try.f4 rfl rfl rfl rfl rfl rfl rfl ⟨rfl, rfl, rfl, rfl, rfl⟩ rfl rfl rfl rfl rfl (by kernel_rfl) Try.func4 (by kernel_rfl)
    (of_decide_eq_true (by kernel_rfl)) (by unfold Func.isWrapper; first | (rw [if_pos (by decide +kernel)]; kernel_rfl) | (rw [if_neg (by decide +kernel)]; exact ⟨rfl, rfl⟩))
    (fun os started H enc _ => lifted os started H enc)

/-- The statement. -/
theorem proved : Rows.QueuePlaysSaid :=
  over
#print axioms proved
end Go.Proofs.Ytkjmpjaahgficaa.queuePlays
