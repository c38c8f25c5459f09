/- AddressMatches, of arguments as they come. -/
import Derived.Test.YtkjmpjaahgficaaDoorAdM
import Derived.Test.YtkjmpjaahgficaaDoorRows
namespace Go.Proofs.YtkjmpjaahgficaaDoor
open Go Go.CM

theorem ad_of {st : LState} {x : LV} (h : TypedA Tryd.prog st 23 x) : ∃ a : Ad, x = a.lv := by
  obtain ⟨m, cs, rfl, hl, hf⟩ := h.struct Tryd.underlying23
  rw [show Tryd.prog.cellsOf 23 = 4 by kernel_rfl] at hl
  obtain ⟨p, e1, _⟩ := (hf _ List.mem_cons_self).str Tryd.underlying9
  obtain ⟨k, e2, _⟩ := (hf _ (List.mem_cons_of_mem _ List.mem_cons_self)).str Tryd.underlying9
  obtain ⟨n, e3, _⟩ := (hf _ (List.mem_cons_of_mem _ (List.mem_cons_of_mem _ List.mem_cons_self))).str Tryd.underlying9
  obtain ⟨i, e4, _⟩ := (hf _ (List.mem_cons_of_mem _ (List.mem_cons_of_mem _ (List.mem_cons_of_mem _ List.mem_cons_self)))).int Tryd.underlying3
  rw [show Tryd.prog.cellsOf 9 = 1 by kernel_rfl] at e1 e2 e3
  rw [show Tryd.prog.cellsOf 3 = 1 by kernel_rfl] at e4
  have g1 : cs.take 1 = [LV.str p] := e1
  have g2 : (cs.drop 1).take 1 = [LV.str k] := e2
  have g3 : (cs.drop 2).take 1 = [LV.str n] := e3
  have g4 : (cs.drop 3).take 1 = [LV.int .i64 i] := e4
  refine ⟨⟨p, k, n, i⟩, ?_⟩
  have hcs : cs = [LV.str p, .str k, .str n, .int .i64 i] := by
    cases cs with
    | nil => simp at hl
    | cons a cs =>
      cases cs with
      | nil => simp at hl
      | cons b cs =>
        cases cs with
        | nil => simp at hl
        | cons c cs =>
          cases cs with
          | nil => simp at hl
          | cons d cs =>
            have : cs = [] := List.eq_nil_of_length_eq_zero (by simpa using hl)
            subst this
            injection g1 with g1 _
            injection g2 with g2 _
            injection g3 with g3 _
            injection g4 with g4 _
            rw [g1, g2, g3, g4]
  rw [hcs]; rfl

theorem addressMatches_law : ∀ xs st, allRo st → TypedAs Tryd.prog st Tryd.f3.params.toList xs → LCalls Tryd.prog 3 xs st fun r _ => r = .bool true := by
  intro xs st _ h
  rw [Tryd.params3] at h
  obtain ⟨x, xs', rfl, t1, y, ys, rfl, t2, rfl⟩ := h
  obtain ⟨s, rfl, _⟩ := t1.str Tryd.underlying9
  obtain ⟨a, rfl⟩ := ad_of t2
  exact matches_law fun _ => rfl

end Go.Proofs.YtkjmpjaahgficaaDoor
