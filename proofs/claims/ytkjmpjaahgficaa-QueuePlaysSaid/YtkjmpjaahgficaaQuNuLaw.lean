/- QueueNumbers, of arguments as they come. -/
import Derived.Test.YtkjmpjaahgficaaQuNu
import Derived.Test.YtkjmpjaahgficaaRows
namespace Go.Proofs.Ytkjmpjaahgficaa
open Go Go.CM

theorem arows_of {st : LState} {n : Nat} : ∀ {rows : List (List LV)}, (∀ r ∈ rows, Typed Try.prog st n 40 r) → ∃ l, rows = arows l
  | [], _ => ⟨[], rfl⟩
  | r :: rows, h => by
    obtain ⟨l, rfl⟩ := arows_of (rows := rows) fun r hr => h r (List.mem_cons_of_mem _ hr)
    obtain ⟨m, hl, hf⟩ := (h r (by simp)).struct Try.underlying40
    rw [show Try.prog.cellsOf 40 = 2 by kernel_rfl] at hl
    have h1 := hf _ (List.mem_cons_self)
    have h2 := hf _ (List.mem_cons_of_mem _ List.mem_cons_self)
    obtain ⟨a, e1, _⟩ := h1.int Try.underlying5
    obtain ⟨b, e2, _⟩ := h2.int Try.underlying3
    rw [show Try.prog.cellsOf 5 = 1 by kernel_rfl] at e1
    rw [show Try.prog.cellsOf 3 = 1 by kernel_rfl] at e2
    have e1' : r.take 1 = [LV.int .u8 a] := e1
    have e2' : (r.drop 1).take 1 = [LV.int .i64 b] := e2
    exact ⟨(a, b) :: l, by
      have : r = [LV.int .u8 a, i64 b] := by
        cases r with
        | nil => simp at hl
        | cons x r =>
          cases r with
          | nil => simp at hl
          | cons y r =>
            simp at hl; subst hl
            injection e1' with g1 _
            injection e2' with g2 _
            rw [g1, g2]
      rw [this]; rfl⟩

theorem queueNumbers_law : ∀ xs st, allRo st → TypedAs Try.prog st Try.f6.params.toList xs → LCalls Try.prog 6 xs st fun r _ => r = .bool true := by
  intro xs st _ h
  rw [Try.params6] at h
  obtain ⟨x, xs', rfl, t1, rfl⟩ := h
  obtain ⟨rows, n, hs, _, hr⟩ := t1.slice Try.underlying34
  obtain ⟨l, rfl⟩ := arows_of hr
  rw [show Try.prog.cellsOf 40 = 2 by kernel_rfl] at hs
  exact numbers_law hs fun _ => rfl

end Go.Proofs.Ytkjmpjaahgficaa
