/- QueuePlays, of arguments as they come. -/
import Derived.Test.YtkjmpjaahgficaaQuPlays
import Derived.Test.YtkjmpjaahgficaaQuNuLaw
namespace Go.Proofs.Ytkjmpjaahgficaa
open Go Go.CM

theorem queuePlays_law : ∀ xs st, allRo st → TypedAs Try.prog st Try.f4.params.toList xs → LCalls Try.prog 4 xs st fun r _ => r = .bool true := by
  intro xs st _ h
  rw [Try.params4] at h
  obtain ⟨x, xs', rfl, t1, y, ys, rfl, t2, rfl⟩ := h
  obtain ⟨m, rfl, _⟩ := t1.int Try.underlying3
  obtain ⟨rows, n, hs, _, hr⟩ := t2.slice Try.underlying34
  obtain ⟨l, rfl⟩ := arows_of hr
  rw [show Try.prog.cellsOf 40 = 2 by kernel_rfl] at hs
  exact plays_law hs fun _ => rfl

end Go.Proofs.Ytkjmpjaahgficaa
