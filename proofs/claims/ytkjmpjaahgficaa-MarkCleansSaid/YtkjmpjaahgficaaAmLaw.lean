/- MarkCleans: of arguments as they come; the library's variable holds some number. -/
import Derived.Test.YtkjmpjaahgficaaAmC
import Derived.Test.YtkjmpjaahgficaaRows
namespace Go.Proofs.Ytkjmpjaahgficaa
open Go Go.CN
set_option maxRecDepth 100000

/-- The variable that is known. -/
abbrev gls (m : Int) : List (Nat × List LV) := [(0, [i64 m])]

theorem gls_met {W : World} (h : W.ShapedOpen Try.prog) : ∃ m, ∀ p ∈ gls m, Gl W p := by
  obtain ⟨m, hm⟩ := Try.laysM144.s1_3 W h
  have hm : W.cell? ⟨0, 0, none⟩ = some (.int .i64 m) := hm
  obtain ⟨cs, hh, hs, _⟩ := h.1 0 #[.int .i64 0] 3 (of_decide_eq_true (by kernel_rfl)) (by kernel_rfl)
  refine ⟨m, fun p hp => ?_⟩
  rw [List.mem_singleton] at hp
  subst hp
  refine ⟨cs, 3, (0, 0), hh, hs.symm, fun i x hx => ?_⟩
  cases i with
  | zero =>
    simp at hx
    subst hx
    refine ⟨.int .i64 m, ?_, fun _ => rfl⟩
    simpa [World.cell?, hh] using hm
  | succ i => simp at hx

theorem rows_of {P : Program} {st : LState} {e n : Nat} {rows : List (List LV)} (he : P.underlying e = some .string) (h : ∀ r ∈ rows, Typed P st n e r) : ∃ l, rows = rowsOf l := by
  induction rows with
  | nil => exact ⟨[], rfl⟩
  | cons r rows ih =>
    obtain ⟨s, hs, _⟩ := (h r (by simp)).str he
    obtain ⟨l, hl⟩ := ih fun r hr => h r (by simp [hr])
    exact ⟨s :: l, by rw [hs, hl]; rfl⟩

theorem markCleans_law (m : Int) : ∀ xs ext, allRo (glSt (gls m) ++ ext) → TypedAs Try.prog (glSt (gls m) ++ ext) Try.f7.params.toList xs → LCalls Try.prog 7 xs (glSt (gls m) ++ ext) fun r _ => r = .bool true := by
  intro xs ext _ h
  rw [Try.params7] at h
  obtain ⟨x, xs', rfl, t1, y, ys, rfl, t2, rfl⟩ := h
  obtain ⟨s, rfl, _⟩ := t1.str Try.underlying9
  obtain ⟨rows, n, h1, _, h3⟩ := t2.slice Try.underlying22
  obtain ⟨l, rfl⟩ := rows_of Try.underlying9 h3
  rw [show Try.prog.cellsOf 9 = 1 by kernel_rfl] at h1
  exact marks_law (o0 := 0) (m := m) h1 rfl fun _ => rfl

end Go.Proofs.Ytkjmpjaahgficaa
