/- HostFills, of arguments as they come. -/
import Derived.Test.YthiaahbmibndkaaGreatDoorHfL
import Derived.Test.YthiaahbmibndkaaGreatDoorRows
namespace Go.Proofs.YthiaahbmibndkaaGreatDoor
open Go Go.CP
set_option maxRecDepth 100000

theorem awake_spec {R : LV → LState → Prop} {st : LState} (h : R (.bool true) st) : LCalls Tryz.prog 4 [] st R := lrun_forget cm_mixed awake_run rfl rfl h

/-- Of values without elements, from nothing. -/
theorem fills_law {a b : Int} {k m : Nat} {s : List UInt8} {x5 : LV} (hk : a.tmod 12 = k) (hk12 : k < 12) (hm : b.tmod 14 = m) (hm14 : m < 14) (h5 : x5 = .nils ∨ x5 = .emp) :
    LCalls Tryz.prog 3 [.int .u8 a, .int .u8 b, .agg [.junk, .junk, .junk, .junk, .str s, x5, .junk]] [] fun r _ => r = .bool true := by
  apply c3
  have hb : lbox [] (.agg [.junk, .junk, .junk, .junk, .str s, x5, .junk]) = some (.ptr 0 0, [.cells .rw [.junk, .junk, .junk, .junk, .str s, x5, .junk]]) := rfl
  have hl : lenSl x5 = some (i64 0) := by rcases h5 with rfl | rfl <;> rfl
  have g : ([.cells .rw [.junk, .junk, .junk, .junk, .str s, x5, .junk]] : LState)[0]? = some (.cells .rw [.junk, .junk, .junk, .junk, .str s, x5, .junk]) := rfl
  unfold w3
  rw [hb, bd2_some]
  simp only [fAddr_ptr, Nat.zero_add, bd_some, ld1_of g, List.getElem?_cons_zero, List.getElem?_cons_succ, lenStr_str, bInt_int, lint_gtr, bsel_dec, hl]
  refine ⟨fun _ => awake_spec rfl, fun _ => ?_⟩
  refine ⟨fun h => absurd h (by omega), fun _ => ?_⟩
  refine awake_spec ?_
  simp only [lun_not, Bool.not_true, bd_some, bsel_false]
  have hwk : WkS [.cells .rw [.junk, .junk, .junk, .junk, .str s, x5, .junk]] [bx] :=
    WkS.set (st := [.cells .rw [.junk, .junk, .junk, .junk, .str s, x5, .junk]]) (o := 0) (y := bx) rfl
      ⟨rfl, .cons (.same _) (.cons (.same _) (.cons (.same _) (.cons (.same _) (.cons (.txt s) (.cons (.junk _) (.cons (.same _) .nil))))))⟩
  refine LCalls.wkS (WkL.nil) hwk (lrun_ok cm_mixed 40 _ _ _ _ _ new_run _ ?_)
  exact loop1 hk hk12 hm hm14 fun _ => rfl

theorem hostFills_law : ∀ xs st, allRo st → TypedAs Tryz.prog st Tryz.f3.params.toList xs → LCalls Tryz.prog 3 xs st fun r _ => r = .bool true := by
  intro xs st _ h
  rw [Tryz.params3] at h
  obtain ⟨x, xs', rfl, t1, y, ys, rfl, t2, z, zs, rfl, t3, rfl⟩ := h
  obtain ⟨a, rfl, ha⟩ := t1.int Tryz.underlying5
  obtain ⟨b, rfl, hb⟩ := t2.int Tryz.underlying5
  obtain ⟨n, cs, rfl, hl, hf⟩ := t3.struct Tryz.underlying25
  have hl7 : cs.length = 7 := by rw [hl]; kernel_rfl
  obtain ⟨c0, c1, c2, c3', c4, c5, c6, rfl⟩ : ∃ c0 c1 c2 c3 c4 c5 c6, cs = [c0, c1, c2, c3, c4, c5, c6] := by
    match cs, hl7 with
    | [c0, c1, c2, c3, c4, c5, c6], _ => exact ⟨c0, c1, c2, c3, c4, c5, c6, rfl⟩
  have e9 : Tryz.prog.cellsOf 9 = 1 := by kernel_rfl
  have e22 : Tryz.prog.cellsOf 22 = 1 := by kernel_rfl
  have hS := hf _ (List.getElem_mem (n := 4) (by decide))
  have hL := hf _ (List.getElem_mem (n := 5) (by decide))
  simp only [List.getElem_cons_succ, List.getElem_cons_zero, e9, e22, List.drop_succ_cons, List.drop_zero, List.take_succ_cons, List.take_zero] at hS hL
  obtain ⟨s, hs, _⟩ := hS.str Tryz.underlying9
  obtain rfl : c4 = .str s := by simpa using hs
  have hwf : ∀ z : Int, (Lit.int .u8 z).wf = true → 0 ≤ z := fun z hz => by
    have h0 : IntKind.u8.min = 0 := rfl
    simp [Lit.wf] at hz
    omega
  have ha0 := hwf a ha
  have hb0 := hwf b hb
  obtain ⟨k, hk⟩ : ∃ k : Nat, a.tmod 12 = k := ⟨(a.tmod 12).toNat, by have := Int.tmod_nonneg (a := a) 12 ha0; omega⟩
  obtain ⟨m, hm⟩ : ∃ m : Nat, b.tmod 14 = m := ⟨(b.tmod 14).toNat, by have := Int.tmod_nonneg (a := b) 14 hb0; omega⟩
  have hk12 : k < 12 := by have := Int.tmod_lt_of_pos a (b := 12) (by omega); omega
  have hm14 : m < 14 := by have := Int.tmod_lt_of_pos b (b := 14) (by omega); omega
  have short : (c5 = .nils ∨ c5 = .emp) → LCalls Tryz.prog 3 [.int .u8 a, .int .u8 b, .agg [c0, c1, c2, c3', .str s, c5, c6]] st fun r _ => r = .bool true := by
    intro h5
    have hp : LV.plains [.int .u8 a, .int .u8 b, .agg [.junk, .junk, .junk, .junk, .str s, c5, .junk]] = true := by rcases h5 with rfl | rfl <;> rfl
    have := LCalls.forget (st := st) (R := fun r _ => r = .bool true) (fills_law (s := s) hk hk12 hm hm14 h5) hp rfl rfl
    refine LCalls.wkS ?_ (WkS.refl st) this
    refine .cons (.same _) (.cons (.same _) (.cons ?_ .nil))
    have w : WkL [c0, c1, c2, c3', .str s, c5, c6] [.junk, .junk, .junk, .junk, .str s, c5, .junk] :=
      .cons (.junk _) (.cons (.junk _) (.cons (.junk _) (.cons (.junk _) (.cons (.same _) (.cons (.same _) (.cons (.junk _) .nil))))))
    exact .agg w.1 w.2
  cases n with
  | zero => exact hL.elim
  | succ n =>
    unfold Typed at hL
    rw [Tryz.underlying22] at hL
    rcases hL with h | h | ⟨o, cap, rows, h4, h5, h6, h7, h8, h9⟩
    · exact short (.inl (by simpa using h))
    · exact short (.inr (by simpa using h))
    · obtain rfl : c5 = .sl o 0 rows.length (.ex cap) := by simpa using h4
      apply c3
      have hb : lbox st (.agg [c0, c1, c2, c3', .str s, .sl o 0 rows.length (.ex cap), c6]) = some (.ptr st.length 0, st ++ [.cells .rw [c0, c1, c2, c3', .str s, .sl o 0 rows.length (.ex cap), c6]]) := rfl
      have g : (st ++ [LObj.cells .rw [c0, c1, c2, c3', .str s, .sl o 0 rows.length (.ex cap), c6]])[st.length]? = some (.cells .rw [c0, c1, c2, c3', .str s, .sl o 0 rows.length (.ex cap), c6]) := get_app_new
      unfold w3
      rw [hb, bd2_some]
      simp only [fAddr_ptr, Nat.zero_add, bd_some, ld1_of g, List.getElem?_cons_zero, List.getElem?_cons_succ, lenStr_str, bInt_int, lint_gtr, bsel_dec, lenSl_sl]
      refine ⟨fun _ => awake_spec rfl, fun _ => ⟨fun _ => awake_spec rfl, fun hn => by omega⟩⟩

end Go.Proofs.YthiaahbmibndkaaGreatDoor
