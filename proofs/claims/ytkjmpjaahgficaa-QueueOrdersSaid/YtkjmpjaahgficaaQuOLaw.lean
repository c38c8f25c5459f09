/- QueueOrders, of arguments as they come. -/
import Derived.Test.YtkjmpjaahgficaaQuO
import Derived.Test.YtkjmpjaahgficaaRows
namespace Go.Proofs.Ytkjmpjaahgficaa
open Go Go.CM

theorem srows_of {st : LState} {n : Nat} : ∀ {rows : List (List LV)}, (∀ r ∈ rows, Typed Try.prog st n 9 r) → ∃ l, rows = srows l
  | [], _ => ⟨[], rfl⟩
  | r :: rows, h => by
    obtain ⟨l, rfl⟩ := srows_of (rows := rows) fun r hr => h r (List.mem_cons_of_mem _ hr)
    obtain ⟨s, rfl, _⟩ := (h r (by simp)).str Try.underlying9
    exact ⟨s :: l, rfl⟩

theorem wf_u8 {m : Int} (h : (Lit.int .u8 m).wf = true) : 0 ≤ m ∧ m < 256 := by
  simp [Lit.wf, IntKind.min, IntKind.max, IntKind.bits, IntKind.signed] at h
  omega

theorem queueOrders_law : ∀ xs st, allRo st → TypedAs Try.prog st Try.f3.params.toList xs → LCalls Try.prog 3 xs st fun r _ => r = .bool true := by
  intro xs st _ h
  rw [Try.params3] at h
  obtain ⟨x, xs', rfl, t1, y, ys, rfl, t2, rfl⟩ := h
  obtain ⟨rows, n, hs, _, hr⟩ := t1.slice Try.underlying22
  obtain ⟨l, rfl⟩ := srows_of hr
  rw [show Try.prog.cellsOf 9 = 1 by kernel_rfl] at hs
  obtain ⟨m, rfl, hm⟩ := t2.int Try.underlying5
  exact orders_spec hs (wf_u8 hm) fun _ => rfl

end Go.Proofs.Ytkjmpjaahgficaa
