/- AddressParses, AddressPrints: of arguments as they come, beside the variables that the rows list. -/
import Derived.Test.YtkjmpjaahgficaaDoorAnL
import Derived.Test.YtkjmpjaahgficaaDoorRows
namespace Go.Proofs.YtkjmpjaahgficaaDoor
open Go Go.CN

theorem ad_of {st : LState} {x : LV} (h : TypedA Tryd.prog st 23 x) : ∃ a : Ad, x = a.lv := by
  obtain ⟨m, cs, rfl, hl, hf⟩ := h.struct Tryd.underlying23
  rw [show Tryd.prog.cellsOf 23 = 4 by kernel_rfl] at hl
  obtain ⟨p, e1, _⟩ := (hf _ List.mem_cons_self).str Tryd.underlying9
  obtain ⟨k, e2, _⟩ := (hf _ (List.mem_cons_of_mem _ List.mem_cons_self)).str Tryd.underlying9
  obtain ⟨n, e3, _⟩ := (hf _ (List.mem_cons_of_mem _ (List.mem_cons_of_mem _ List.mem_cons_self))).str Tryd.underlying9
  obtain ⟨i, e4, _⟩ := (hf _ (List.mem_cons_of_mem _ (List.mem_cons_of_mem _ (List.mem_cons_of_mem _ List.mem_cons_self)))).int Tryd.underlying3
  rw [show Tryd.prog.cellsOf 9 = 1 by kernel_rfl] at e1 e2 e3
  rw [show Tryd.prog.cellsOf 3 = 1 by kernel_rfl] at e4
  have g1 : cs.take 1 = [LV.str p] := e1
  have g2 : (cs.drop 1).take 1 = [LV.str k] := e2
  have g3 : (cs.drop 2).take 1 = [LV.str n] := e3
  have g4 : (cs.drop 3).take 1 = [LV.int .i64 i] := e4
  refine ⟨⟨p, k, n, i⟩, ?_⟩
  have hcs : cs = [LV.str p, .str k, .str n, .int .i64 i] := by
    cases cs with
    | nil => simp at hl
    | cons a cs =>
      cases cs with
      | nil => simp at hl
      | cons b cs =>
        cases cs with
        | nil => simp at hl
        | cons c cs =>
          cases cs with
          | nil => simp at hl
          | cons d cs =>
            have : cs = [] := List.eq_nil_of_length_eq_zero (by simpa using hl)
            subst this
            injection g1 with g1 _
            injection g2 with g2 _
            injection g3 with g3 _
            injection g4 with g4 _
            rw [g1, g2, g3, g4]
  rw [hcs]; rfl

/-- The variables that are known. -/
abbrev gls (u : TypeId) : List (Nat × List LV) := [(3, Lib.pow10Tab.map fun z => .int .u64 z), (1, [.iface u .junk])]

theorem gls_met {W : World} {l : List (String × DataW Unit)} (h : laidMet Tryd.prog l W) (h3 : ("internal/strconv.uint64pow10", (Rows.laid_internal_strconv_uint64pow10 : DataW Unit)) ∈ l) (h1 : ("strconv.ErrSyntax", (Rows.laid_strconv_ErrSyntax : DataW Unit)) ∈ l) :
    ∃ u, ∀ p ∈ gls u, Gl W p := by
  obtain ⟨u, hu⟩ := gl_iface (g := 1) (t := 67) h (show ("strconv.ErrSyntax", .iface "*errors.errorString" _) ∈ l from h1) (by kernel_rfl) (by kernel_rfl) Tryd.underlying67
  have ht := gl_tab (k := .u64) (zs := Lib.pow10Tab) (g := 3) (t := 127) (e := 95) (n := 20) h (show ("internal/strconv.uint64pow10", Lib.tabData .u64 Lib.pow10Tab) ∈ l by
    rw [show (Lib.tabData .u64 Lib.pow10Tab : DataW Unit) = Rows.laid_internal_strconv_uint64pow10 by kernel_rfl]; exact h3) (by kernel_rfl) (by kernel_rfl) Tryd.underlying127 Tryd.underlying95 (by kernel_rfl) (by kernel_rfl)
  refine ⟨u, fun p hp => ?_⟩
  simp only [gls, List.mem_cons, List.not_mem_nil, or_false] at hp
  rcases hp with rfl | rfl
  · exact ht
  · exact hu

theorem addressParses_law (u : TypeId) : ∀ xs ext, allRo (glSt (gls u) ++ ext) → TypedAs Tryd.prog (glSt (gls u) ++ ext) Tryd.f4.params.toList xs → LCalls Tryd.prog 4 xs (glSt (gls u) ++ ext) fun r _ => r = .bool true := by
  intro xs ext _ h
  rw [Tryd.params4] at h
  obtain ⟨x, xs', rfl, t1, rfl⟩ := h
  obtain ⟨s, rfl, _⟩ := t1.str Tryd.underlying9
  exact parses_law (o1 := 1) (o3 := 0) (u := u) rfl rfl fun _ => rfl

theorem addressPrints_law (u : TypeId) : ∀ xs ext, allRo (glSt (gls u) ++ ext) → TypedAs Tryd.prog (glSt (gls u) ++ ext) Tryd.f5.params.toList xs → LCalls Tryd.prog 5 xs (glSt (gls u) ++ ext) fun r _ => r = .bool true := by
  intro xs ext _ h
  rw [Tryd.params5] at h
  obtain ⟨x, xs', rfl, t1, rfl⟩ := h
  obtain ⟨a, rfl⟩ := ad_of t1
  exact prints_law (o1 := 1) (o3 := 0) (u := u) rfl rfl fun _ => rfl

end Go.Proofs.YtkjmpjaahgficaaDoor
