/- For every input the law of cleaned texts returns true: any text is cleaned of any secrets as the document says; whether it leaks one is told; and a cleaned text leaks none. -/
import Derived.Test.YtkjmpjaahgficaaRows
import Derived.Test.YtkjmpjaahgficaaAmLaw
import Derived.WalkKit
import Derived.ProofKit
import Derived.OpenShut
import Derived.HandedShaped
namespace Go.Proofs.Ytkjmpjaahgficaa.markCleans
open Go.ChangeShapes Go.WideShapes Go.ChangeAt Go.RowKit

theorem own : ownKnob Try.prog.godebug = none := by kernel_rfl

theorem spec_fn {H : Type} : ∀ ds : List (DataW H), ds.length = Try.f7.params.toList.length → (Rows.markCleansSpec.fn H ds).results = [.lit (.bool true)] ∧ (Rows.markCleansSpec.fn H ds).args = ds ∧ (Rows.markCleansSpec.fn H ds).vars = []
  | [_, _], _ => ⟨rfl, rfl, rfl⟩

  | [], h => by rw [Try.params7] at h; simp at h
  | [_], h => by rw [Try.params7] at h; simp at h
  | _ :: _ :: _ :: _, h => by rw [Try.params7] at h; simp at h

set_option maxRecDepth 100000 in
theorem lifted (os : Os) (started : os.Started) (H : Type) (enc : TypeId × Value → H) :
    ReturnsInHanded {} Try.checked os 7 .any (Rows.markCleansSpec.pre6 enc Try.prog Try.f7 Rows.markCleansRow.domain false) (Rows.markCleansSpec.post enc Try.prog Try.f7 false true false false) := by
  refine returnsInHanded_of_change_shaped (C := Try.checked) own started (by kernel_rfl) Try.func7
    (ChangeSpec.witness6 (enc := enc) (C := Try.checked) false ⟨#[], #[.string .empty, .slice none 0 0], []⟩ 8 (by kernel_rfl) (by kernel_rfl) (by kernel_rfl) (by kernel_rfl)) ?_
  intro W base args ds gs before hval0 hW hcnd _ hsh _
  obtain ⟨m, hu⟩ := gls_met hsh
  exact Go.CN.law_stepL [9, 22] 4 (by kernel_rfl) (by kernel_rfl) (by kernel_rfl) (by kernel_rfl) (by kernel_rfl) (by kernel_rfl) (by kernel_rfl) rfl spec_fn Try.func7 (by kernel_rfl) (by kernel_rfl)
    (fun j t v a b => hval0 j t v a b) hW (gls m) hu (markCleans_law m)

theorem over : Rows.markCleansRow.holds Try.pinned (OpenSpec.ofChange Rows.markCleansSpec) :=
  OpenClaim.holds_of_wide 7 Try.f7 rfl rfl rfl rfl rfl rfl rfl ⟨rfl, rfl, rfl, rfl, rfl⟩ rfl rfl rfl rfl rfl (by kernel_rfl) Try.func7 (by kernel_rfl)
    (of_decide_eq_true (by kernel_rfl)) (by unfold Func.isWrapper; first | (rw [if_pos (by decide +kernel)]; kernel_rfl) | (rw [if_neg (by decide +kernel)]; exact ⟨rfl, rfl⟩))
    (fun os started H enc _ => lifted os started H enc)

/-- The statement. -/
theorem proved : Rows.MarkCleansSaid :=
  over
#print axioms proved
end Go.Proofs.Ytkjmpjaahgficaa.markCleans
