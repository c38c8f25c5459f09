/- AddressOrders, AddressSorts: of arguments as they come. -/
import Derived.Test.YtkjmpjaahgficaaDoorBoL
import Derived.Test.YtkjmpjaahgficaaDoorRows
namespace Go.Proofs.YtkjmpjaahgficaaDoor
open Go Go.CO
set_option maxRecDepth 100000

theorem cells_of {st : LState} {n : Nat} {cs : List LV} (h : Typed Tryd.prog st n 23 cs) : ∃ a : Ad, cs = cellsA a := by
  obtain ⟨m, hl, hf⟩ := h.struct Tryd.underlying23
  rw [show Tryd.prog.cellsOf 23 = 4 by kernel_rfl] at hl
  obtain ⟨p, e1, _⟩ := (hf _ List.mem_cons_self).str Tryd.underlying9
  obtain ⟨k, e2, _⟩ := (hf _ (List.mem_cons_of_mem _ List.mem_cons_self)).str Tryd.underlying9
  obtain ⟨n, e3, _⟩ := (hf _ (List.mem_cons_of_mem _ (List.mem_cons_of_mem _ List.mem_cons_self))).str Tryd.underlying9
  obtain ⟨i, e4, _⟩ := (hf _ (List.mem_cons_of_mem _ (List.mem_cons_of_mem _ (List.mem_cons_of_mem _ List.mem_cons_self)))).int Tryd.underlying3
  rw [show Tryd.prog.cellsOf 9 = 1 by kernel_rfl] at e1 e2 e3
  rw [show Tryd.prog.cellsOf 3 = 1 by kernel_rfl] at e4
  have g1 : cs.take 1 = [LV.str p] := e1
  have g2 : (cs.drop 1).take 1 = [LV.str k] := e2
  have g3 : (cs.drop 2).take 1 = [LV.str n] := e3
  have g4 : (cs.drop 3).take 1 = [LV.int .i64 i] := e4
  refine ⟨⟨p, k, n, i⟩, ?_⟩
  have hcs : cs = [LV.str p, .str k, .str n, .int .i64 i] := by
    cases cs with
    | nil => simp at hl
    | cons a cs =>
      cases cs with
      | nil => simp at hl
      | cons b cs =>
        cases cs with
        | nil => simp at hl
        | cons c cs =>
          cases cs with
          | nil => simp at hl
          | cons d cs =>
            have : cs = [] := List.eq_nil_of_length_eq_zero (by simpa using hl)
            subst this
            injection g1 with g1 _
            injection g2 with g2 _
            injection g3 with g3 _
            injection g4 with g4 _
            rw [g1, g2, g3, g4]
  exact hcs


theorem rows_of {st : LState} {n : Nat} {rows : List (List LV)} (h : ∀ r ∈ rows, Typed Tryd.prog st n 23 r) : ∃ l : List Ad, rows = l.map cellsA := by
  induction rows with
  | nil => exact ⟨[], rfl⟩
  | cons r rows ih =>
    obtain ⟨a, ha⟩ := cells_of (h r (by simp))
    obtain ⟨l, hl⟩ := ih fun r hr => h r (by simp [hr])
    exact ⟨a :: l, by rw [ha, hl]; rfl⟩

theorem rows_arg {st : LState} {x : LV} {e : TypeId} (ht : Tryd.prog.underlying e = some (.slice 23)) (h : TypedA Tryd.prog st e x) : ∃ l, RowsA st x l := by
  obtain ⟨rows, n, h1, _, h3⟩ := h.slice ht
  obtain ⟨l, rfl⟩ := rows_of h3
  refine ⟨l, ?_⟩
  rcases h1 with ⟨hl, h⟩ | ⟨o, cap, m, h1, h2, _⟩
  · exact .inl ⟨by simpa using hl, h⟩
  · exact .inr ⟨o, _, m, [], by rw [h1, List.length_map], by rw [List.append_nil]; exact h2⟩

theorem addressOrders_law : ∀ xs st, allRo st → TypedAs Tryd.prog st Tryd.f6.params.toList xs → LCalls Tryd.prog 6 xs st fun r _ => r = .bool true := by
  intro xs st _ h
  rw [Tryd.params6] at h
  obtain ⟨x, xs', rfl, t1, rfl⟩ := h
  obtain ⟨l, hx⟩ := rows_arg Tryd.underlying40 t1
  exact orders_law hx fun _ => rfl

theorem addressSorts_law : ∀ xs st, allRo st → TypedAs Tryd.prog st Tryd.f7.params.toList xs → LCalls Tryd.prog 7 xs st fun r _ => r = .bool true := by
  intro xs st _ h
  rw [Tryd.params7] at h
  obtain ⟨x, xs', rfl, t1, rfl⟩ := h
  obtain ⟨l, hx⟩ := rows_arg Tryd.underlying40 t1
  exact sorts_law hx fun _ => rfl

end Go.Proofs.YtkjmpjaahgficaaDoor
