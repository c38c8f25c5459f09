/- What the library's functions answer: strings.Join, strconv.Itoa, strconv.Atoi: the kit's contracts, taken over. -/
import Derived.Test.YtkjmpjaahgficaaDoorAnP
import Derived.Test.YtkjmpjaahgficaaDoorAnShelf
import Derived.Shelf.SlSorted.Search
namespace Go.Proofs.YtkjmpjaahgficaaDoor
open Go Go.CN Go.RowKit
set_option maxRecDepth 100000

variable {R : LV → LState → Prop} {st : LState}

/-- The table of tens, and the fault of a text that is no number. -/
abbrev pow10 : LObj := .cells (.gl 3 Lib.pow10Tab.length) (Lib.pow10Tab.map fun z => .int .u64 z)
abbrev noNum (u : TypeId) : LObj := .cells (.gl 1 1) [.iface u .junk]

/-- strings.Join of three texts -/
theorem join_spec {o : Nat} {m : Md} {a b c sep : List UInt8} (h : st[o]? = some (.cells m [.str a, .str b, .str c])) (hl : (Lib.join [a, b, c] sep).length ≤ 140737488355328) (hR : R (.str (Lib.join [a, b, c] sep)) st) :
    LCalls Tryd.prog 34 [.sl o 0 3 (.ex 3), .str sep] st R := by
  refine LCalls.of_kit ⟨Tryd.f34, bodyOf Tryd.f34, Tryd.func34, by kernel_rfl, by kernel_rfl⟩ ?_ hR
  intro w0 β w vs hr hp
  obtain ⟨v1, us, rfl, ⟨bl, hb, hle, rfl⟩, v2, us2, rfl, rfl, rfl⟩ := hp
  obtain ⟨bl', hb', cc, e, fz, hh, hs, hle', hc, hm⟩ := hr.obj o _ h
  rw [hb] at hb'; cases hb'
  have cell : ∀ (j : Nat) (x : ByteArray), [(⟨⟨a⟩⟩ : ByteArray), ⟨⟨b⟩⟩, ⟨⟨c⟩⟩][j]? = some x → w.cell? ⟨bl.blk, (bl.base + 0) + j, none⟩ = some (.string x) := by
    intro j x hx
    match j, hx with
    | 0, hx => cases hx; obtain ⟨u, hu, r⟩ := hr.cell h hb (k := 0) rfl; rw [show u = _ from r] at hu; exact hu
    | 1, hx => cases hx; obtain ⟨u, hu, r⟩ := hr.cell h hb (k := 1) rfl; rw [show u = _ from r] at hu; exact hu
    | 2, hx => cases hx; obtain ⟨u, hu, r⟩ := hr.cell h hb (k := 2) rfl; rw [show u = _ from r] at hu; exact hu
    | j + 3, hx => cases hx
  have hblk : bl.blk < w.heap.size := by
    rcases Nat.lt_or_ge bl.blk w.heap.size with hlt | hge
    · exact hlt
    · rw [Array.getElem?_eq_none hge] at hh; cases hh
  refine (Tryd.strings_Join bl.blk (bl.base + 0) 3 [⟨⟨a⟩⟩, ⟨⟨b⟩⟩, ⟨⟨c⟩⟩] ⟨⟨sep⟩⟩ w cell hblk (show 3 ≤ 140737488355328 by decide) (show 3 ≤ 3 by decide) hl).mono ?_
  rintro e w' ⟨rfl, hbw⟩
  exact ⟨_, rfl, rfl, hbw⟩

/-- strconv.Itoa -/
theorem itoa_spec {o : Nat} {n : Nat} (h : st[o]? = some pow10) (hn : n ≤ 999) (hR : R (.str (Lib.decDigits n)) st) : LCalls Tryd.prog 35 [i64 n] st R := by
  refine LCalls.of_kit ⟨Tryd.f35, bodyOf Tryd.f35, Tryd.func35, by kernel_rfl, by kernel_rfl⟩ ?_ hR
  intro w0 β w vs hr hp
  obtain ⟨v1, us, rfl, rfl, rfl⟩ := hp
  refine (Tryd.strconv_Itoa n (by omega) (by omega) w (hr.gl_tab h (by kernel_rfl))).mono ?_
  rintro e w' ⟨rfl, k, os, rfl⟩
  exact ⟨_, rfl, by rw [itoa_nat]; rfl, below_grown_sl _ w k os (Nat.le_refl _)⟩

/-- strconv.Atoi of digits -/
theorem atoi_spec {s : List UInt8} (hl : s.length ≤ 3) (hd : ∀ c, c ∈ s → isDig c = true) (h0 : s ≠ []) (hR : R (.tup [i64 (numB s : Nat), .nili]) st) : LCalls Tryd.prog 45 [.str s] st R := by
  refine LCalls.of_kit ⟨Tryd.f45, bodyOf Tryd.f45, Tryd.func45, by kernel_rfl, by kernel_rfl⟩ ?_ hR
  intro w0 β w vs hr hp
  obtain ⟨v1, us, rfl, rfl, rfl⟩ := hp
  refine (Tryd.strconv_Atoi ⟨⟨s⟩⟩ (numB s : Nat) (show s.length ≤ 18 by omega) (atoi_num hd h0) w).mono ?_
  rintro e w' ⟨rfl, t, rfl⟩
  exact ⟨_, rfl, ⟨_, rfl, _, _, rfl, rfl, _, _, rfl, rfl, rfl⟩, Lib.bytesWorld_below _ _ _⟩

/-- strconv.Atoi of nothing -/
theorem atoi_none {o : Nat} {u : TypeId} (h : st[o]? = some (noNum u)) (hR : R (.tup [i64 0, .iface 103 .junk]) st) : LCalls Tryd.prog 45 [.str []] st R := by
  refine LCalls.of_kit ⟨Tryd.f45, bodyOf Tryd.f45, Tryd.func45, by kernel_rfl, by kernel_rfl⟩ ?_ hR
  intro w0 β w vs hr hp
  obtain ⟨v1, us, rfl, rfl, rfl⟩ := hp
  obtain ⟨ev, hev, pe, he, _⟩ := hr.gl_cell (i := 0) (l := [.iface u .junk]) (x := .iface u .junk) h rfl
  refine (Tryd.strconv_Atoi_err ⟨⟨[]⟩⟩ (show 0 ≤ 18 by omega) rfl ev w hev (.inr ⟨_, _, he⟩)).mono ?_
  rintro e w' ⟨N, rfl, _, _, hb⟩
  exact ⟨_, rfl, ⟨_, rfl, _, _, rfl, rfl, _, _, rfl, ⟨_, rfl, trivial⟩, rfl⟩, hb⟩

end Go.Proofs.YtkjmpjaahgficaaDoor
