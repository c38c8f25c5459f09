/- HostNone, of arguments as they come. -/
import Derived.Test.YtgpllhhgfbkakaaGreatDoorHoN
import Derived.Test.YtgpllhhgfbkakaaGreatDoorRows
namespace Go.Proofs.YtgpllhhgfbkakaaGreatDoor
open Go Go.CM

theorem hostNone_law : ∀ xs st, allRo st → TypedAs Tryz.prog st Tryz.f3.params.toList xs → LCalls Tryz.prog 3 xs st fun r _ => r = .bool true := by
  intro xs st _ h
  rw [Tryz.params3] at h
  obtain ⟨x, xs', rfl, t1, y, ys, rfl, t2, z, zs, rfl, t3, rfl⟩ := h
  obtain ⟨s, rfl, _⟩ := t1.str Tryz.underlying9
  obtain ⟨rows, _, hs, _⟩ := t2.slice Tryz.underlying22
  have hb : y.ok = true := by
    rcases hs with ⟨_, rfl | rfl⟩ | ⟨o, cap, m, rfl, _⟩ <;> rfl
  exact host_law hb hs.lenSl fun _ => rfl

end Go.Proofs.YtgpllhhgfbkakaaGreatDoor
