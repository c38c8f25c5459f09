/- slices.SortFunc of addresses: the kit's contract, taken over. -/
import Derived.Test.YtkjmpjaahgficaaDoorBoC
import Derived.Test.YtkjmpjaahgficaaDoorCo36
import Derived.Shelf.SlSortCmp.InsertionK
namespace Go.Proofs.YtkjmpjaahgficaaDoor
open Go Go.CO Go.RowKit Go.Sort
set_option maxRecDepth 100000

/-- An address's cells in the world. -/
def encA (a : Ad) : List Value := [.string ⟨⟨a.p⟩⟩, .string ⟨⟨a.k⟩⟩, .string ⟨⟨a.n⟩⟩, .int .i64 a.ix]

instance : Inhabited Ad := ⟨⟨[], [], [], 0⟩⟩

/-- What lies behind a world in which nothing below turned: draws, and new blocks. -/
theorem bw_grow {w w' : World} (h : Bw w.heap.size w w') : ∃ q os, w' = grow (w.drewN q) os := by
  refine ⟨w'.drawn - w.drawn, w'.heap.extract w.heap.size w'.heap.size, ?_⟩
  have e1 : w.drawn + (w'.drawn - w.drawn) = w'.drawn := by have := h.drawn; omega
  have e2 : w.heap ++ w'.heap.extract w.heap.size w'.heap.size = w'.heap := by
    apply Array.ext_getElem?
    intro i
    by_cases hi : i < w.heap.size
    · rw [Array.getElem?_append_left hi, h.block i hi]
    · rw [Array.getElem?_append_right (by omega)]
      have hs := h.size
      by_cases hj : i < w'.heap.size
      · rw [Array.getElem?_extract, if_pos (by simp; omega), show w.heap.size + (i - w.heap.size) = i by omega]
      · rw [Array.getElem?_eq_none (by simp; omega), Array.getElem?_eq_none (by omega)]
  obtain ⟨hp, tp, dr, os, out⟩ := w'
  obtain ⟨hp0, tp0, dr0, os0, out0⟩ := w
  have a1 : os = os0 := h.os
  have a2 : tp = tp0 := h.tape
  have a3 : out = out0 := h.output
  subst a1; subst a2; subst a3
  simp only [grow, World.drewN] at e1 e2 ⊢
  rw [e1, e2]

theorem grow_bw {w : World} {q : Nat} {os : Array Obj} : Bw w.heap.size w (grow (w.drewN q) os) := by
  refine ⟨⟨rfl, rfl, rfl, ?_, fun k hk => ?_⟩, ?_⟩
  · show w.heap.size ≤ (w.heap ++ os).size; simp
  · show (w.heap ++ os)[k]? = _; rw [Array.getElem?_append_left hk]
  · show w.drawn ≤ w.drawn + q; omega

/-- Compare, as the sort asks for it. -/
theorem compare_calls (x y : Ad) (w : World) : Calls Tryd.prog 19 #[.agg (encA x).toArray, .agg (encA y).toArray] w fun e w' => e = .returned (.int .i64 (cmpAd x y)) ∧ ∃ q os', w' = grow (w.drewN q) os' := by
  have hc : LCalls Tryd.prog 19 [x.lv, y.lv] [] fun r _ => r = i64 (cmpAd x y) := compare_spec fun _ _ => rfl
  have hb := hc.body ⟨Tryd.f19, bodyOf Tryd.f19, Tryd.func19, by kernel_rfl, by kernel_rfl⟩
  have h0 : Rel w (fun _ => none) [] w := ⟨Bw.refl _ _, fun _ _ => rfl, fun _ _ h => by simp at h, fun _ _ _ _ _ _ h => by simp at h⟩
  have hp : Rps (fun _ => none) [x.lv, y.lv] [.agg (encA x).toArray, .agg (encA y).toArray] :=
    ⟨_, _, rfl, ⟨encA x, rfl, _, _, rfl, rfl, _, _, rfl, rfl, _, _, rfl, rfl, _, _, rfl, rfl, rfl⟩, _, _, rfl, ⟨encA y, rfl, _, _, rfl, rfl, _, _, rfl, rfl, _, _, rfl, rfl, _, _, rfl, rfl, rfl⟩, rfl⟩
  refine (hb.2 w (fun _ => none) w _ h0 hp).mono ?_
  rintro e w' ⟨β', r, st', v, h1, h2, h3, h4, _⟩
  subst h1
  simp only [Rp] at h3
  subst h3
  exact ⟨h2, bw_grow h4.below⟩

theorem less_of (x y : Ad) : ltOf cmpAd x y = lessAd x y := by
  unfold ltOf
  rw [cmp_less]
  cases h1 : lessAd y x with
  | true => rw [less_asymm h1]; rfl
  | false =>
    cases h2 : lessAd x y <;> rfl

theorem cmp_swo : SWO (ltOf cmpAd) where
  irrefl x := by rw [less_of]; exact less_irrefl x
  trans x y z h k := by rw [less_of] at *; exact less_trans h k
  ntrans x y z h k := by
    rw [less_of] at *
    rw [Bool.eq_false_iff]
    intro e
    by_cases hyx : lessAd y x = true
    · have := less_trans hyx e
      rw [this] at k; cases k
    · have : x = y := less_tri h (by simpa using hyx)
      subst this
      rw [e] at k; cases k

theorem flatK_at {l : List Ad} {t : Nat} (h : t < l.length * 4) : (flatA l)[t]? = some ((cellsA l[t / 4])[t % 4]'(by show t % 4 < 4; omega)) ∧ (flatK encA 4 l.toArray)[t]! = (encA l[t / 4])[t % 4]'(by show t % 4 < 4; omega) := by
  have hi : t / 4 < l.length := by omega
  refine ⟨?_, ?_⟩
  · obtain ⟨e1, _⟩ := flatA_at (l := l) (rest := []) hi
    rw [List.append_nil] at e1
    have : ((flatA l).drop (t / 4 * 4)).take 4 = cellsA l[t / 4] := e1
    have h2 : (((flatA l).drop (t / 4 * 4)).take 4)[t % 4]? = (cellsA l[t / 4])[t % 4]? := by rw [this]
    rw [List.getElem?_take_of_lt (by omega), List.getElem?_drop, show t / 4 * 4 + t % 4 = t by omega] at h2
    rw [h2]; exact List.getElem?_eq_getElem _
  · rw [get_flatK encA 4 l.toArray t (by simpa using h)]
    have : l.toArray[t / 4]! = l[t / 4] := by simp [hi]
    rw [this]
    exact getElem!_pos _ _ _

theorem cell_rel {β : Lay} {a : Ad} {j : Nat} (h : j < 4) {u : Value} (hr : Rp β ((cellsA a)[j]'h) u) : u = (encA a)[j]'h := by
  match j, h with
  | 0, _ => exact hr
  | 1, _ => exact hr
  | 2, _ => exact hr
  | 3, _ => exact hr

theorem rel_cell {β : Lay} {a : Ad} {j : Nat} (h : j < 4) : Rp β ((cellsA a)[j]'h) ((encA a)[j]'h) := by
  match j, h with
  | 0, _ => rfl
  | 1, _ => rfl
  | 2, _ => rfl
  | 3, _ => rfl

section
variable {w0 w : World} {β : Lay} {st : LState} {o : Nat} {b : Bl} {l : List Ad}

theorem holds_of (h : Rel w0 β st w) (ho : st[o]? = some (.cells .rw (flatA l))) (hb : β o = some b) : HoldsK encA 4 w b.blk b.base l.toArray := by
  obtain ⟨b', hb', c, e, fz, hh, hs, hl, hc, hm⟩ := h.obj o _ ho
  rw [hb] at hb'; cases hb'
  intro j hj
  have hj : j < l.length * 4 := by simpa using hj
  obtain ⟨e1, e2⟩ := flatK_at hj
  obtain ⟨u, hu, r⟩ := hc j _ e1
  have := cell_rel (by omega) r
  rw [flatA_len] at hl
  refine ⟨?_, ?_⟩
  · rw [e2]
    show w.cell? ⟨b.blk, b.base + j, none⟩ = some ((encA l[j / 4])[j % 4]'(by show j % 4 < 4; omega))
    exact (show w.cell? ⟨b.blk, b.base + j, none⟩ = some u by simp [World.cell?, hh, hu]).trans (congrArg some this)
  · have := (hm.1 rfl).2 (b.base + j) (by omega)
    simp only [World.frozen?, hh]
    simpa using this

/-- The world that the sort leaves behind. -/
theorem rel_sorted {l' : List Ad} {n : Nat} {os : Array Obj} (h : Rel w0 β st w) (ho : st[o]? = some (.cells .rw (flatA l))) (hb : β o = some b) (hl : l'.length = l.length) :
    Rel w0 β (st.set o (.cells .rw (flatA l'))) (sortWorldK encA 4 w b.blk b.base n l'.toArray os) := by
  obtain ⟨b', hb', c, e, fz, hh, hs, hle, hc, hm⟩ := h.obj o _ ho
  rw [hb] at hb'; cases hb'
  rw [flatA_len] at hle
  have h1 : Rel w0 β st (Sort.ahead w n) := h.draws (Nat.le_add_right _ _)
  have hh1 : (Sort.ahead w n).heap[b.blk]? = some (.cells c e fz) := hh
  have heap : (putRowK encA 4 (Sort.ahead w n) b.blk b.base l'.toArray).heap = (Sort.ahead w n).heap.modify b.blk (onCells (putCells id b.base (flatK encA 4 l'.toArray))) := rfl
  have h2 : Rel w0 β (st.set o (.cells .rw (flatA l'))) (putRowK encA 4 (Sort.ahead w n) b.blk b.base l'.toArray) := by
    refine h1.upd ho rfl hb rfl rfl rfl (by rw [heap]; simp) (fun k hk => by rw [heap, Array.getElem?_modify, if_neg (Ne.symm hk)]) ⟨b, hb, putCells id b.base (flatK encA 4 l'.toArray) c, e, fz, ?_, ?_, ?_, ?_, ?_⟩ (Nat.le_refl _)
    · rw [heap, Array.getElem?_modify, if_pos rfl, hh1]; rfl
    · rw [← hs]; simp [putCells]
    · rw [flatA_len]; omega
    · intro i x hx
      have hi : i < l'.length * 4 := by
        have := (List.getElem?_eq_some_iff.1 hx).1
        rwa [flatA_len] at this
      obtain ⟨e1, e2⟩ := flatK_at hi
      rw [e1] at hx
      have hx := Option.some.inj hx
      subst hx
      refine ⟨_, ?_, rel_cell (by omega)⟩
      have hsz : b.base + i < c.size := by omega
      simp only [putCells, Array.getElem?_mapIdx, Array.getElem?_eq_getElem hsz, Option.map_some]
      rw [if_pos ⟨by omega, by simp; omega⟩, Nat.add_sub_cancel_left, e2]
      rfl
    · refine ⟨fun hm' => ⟨(hm.1 hm').1, fun j hj => (hm.1 hm').2 j ?_⟩, (by rintro t ⟨⟩), (by rintro g n ⟨⟩)⟩
      simpa [putCells] using hj
  exact h2.below_kept (grow_bw (q := 0))

end

end Go.Proofs.YtkjmpjaahgficaaDoor
