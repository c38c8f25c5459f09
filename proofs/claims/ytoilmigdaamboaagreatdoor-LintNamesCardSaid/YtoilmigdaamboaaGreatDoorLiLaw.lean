/- LintNames, of arguments as they come. -/
import Derived.Test.YtoilmigdaamboaaGreatDoorLiN
import Derived.Test.YtoilmigdaamboaaGreatDoorRows
namespace Go.Proofs.YtoilmigdaamboaaGreatDoor
open Go Go.CM

theorem lintNames_law : ∀ xs st, allRo st → TypedAs Tryz.prog st Tryz.f3.params.toList xs → LCalls Tryz.prog 3 xs st fun r _ => r = .bool true := by
  intro xs st _ h
  rw [Tryz.params3] at h
  obtain ⟨x, xs', rfl, t1, rfl⟩ := h
  obtain ⟨m, rfl, _⟩ := t1.int Tryz.underlying3
  exact lint_law fun _ => rfl

end Go.Proofs.YtoilmigdaamboaaGreatDoor
