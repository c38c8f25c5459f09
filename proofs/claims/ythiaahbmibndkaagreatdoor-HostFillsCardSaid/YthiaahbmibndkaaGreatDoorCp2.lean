/- The clean machine, part 2: what happens to the logical store when the world draws, makes a block, or writes a cell. -/
import Derived.Test.YthiaahbmibndkaaGreatDoorCp1
namespace Go.CP
open Go.RowKit (Below)

def Lay.put (β : Lay) (n : Nat) (b : Bl) : Lay := fun o => if o = n then some b else β o

theorem Lay.le_put {β : Lay} {n : Nat} {b : Bl} (h : β n = none) : β.le (β.put n b) := by
  intro o x e
  unfold Lay.put
  by_cases ho : o = n
  · subst ho; rw [h] at e; cases e
  · rw [if_neg ho]; exact e

theorem Lay.put_same {β : Lay} {n : Nat} {b : Bl} : (β.put n b) n = some b := by simp [Lay.put]
theorem Lay.put_other {β : Lay} {n o : Nat} {b : Bl} (h : o ≠ n) : (β.put n b) o = β o := by simp [Lay.put, h]

/-- What a live object's block is. -/
theorem OR.live {N : Nat} {β : Lay} {w : World} {o : Nat} {x : LObj} (h : OR N β w o x) (hl : x.live = true) : ∃ b, β o = some b ∧ b.blk < w.heap.size := by
  cases x with
  | dead => simp [LObj.live] at hl
  | cells m l =>
    obtain ⟨b, hb, c, e, fz, hh, _⟩ := h
    exact ⟨b, hb, by rcases Nat.lt_or_ge b.blk w.heap.size with k | k; exact k; simp [Array.getElem?_eq_none k] at hh⟩
  | map m es bs k =>
    obtain ⟨b, hb, c, hh, _⟩ := h
    exact ⟨b, hb, by rcases Nat.lt_or_ge b.blk w.heap.size with k | k; exact k; simp [Array.getElem?_eq_none k] at hh⟩
  | iter =>
    obtain ⟨b, hb, c, hh, _⟩ := h
    exact ⟨b, hb, by rcases Nat.lt_or_ge b.blk w.heap.size with k | k; exact k; simp [Array.getElem?_eq_none k] at hh⟩

theorem OR.same {N : Nat} {β : Lay} {w w' : World} {o : Nat} {x : LObj} (h : OR N β w o x) (hs : ∀ b, β o = some b → x.live = true → w'.heap[b.blk]? = w.heap[b.blk]?) : OR N β w' o x := by
  cases x with
  | dead => trivial
  | cells m l =>
    obtain ⟨b, hb, c, e, fz, hh, r⟩ := h
    exact ⟨b, hb, c, e, fz, by rw [hs b hb rfl]; exact hh, r⟩
  | map m es bs k =>
    obtain ⟨b, hb, c, hh, r⟩ := h
    exact ⟨b, hb, c, by rw [hs b hb rfl]; exact hh, r⟩
  | iter =>
    obtain ⟨b, hb, c, hh, r⟩ := h
    exact ⟨b, hb, c, by rw [hs b hb rfl]; exact hh, r⟩

theorem LObj.live_of_rw {x : LObj} (h : x.rw = true) : x.live = true := by
  cases x with
  | dead => simp [LObj.rw] at h
  | cells m l => rfl
  | map m es bs k => rfl
  | iter => rfl

theorem OR.newBlk {N : Nat} {β : Lay} {w : World} {o : Nat} {x : LObj} {b : Bl} (h : OR N β w o x) (hx : x.rw = true) (hb : β o = some b) : N ≤ b.blk := by
  cases x with
  | dead => simp [LObj.rw] at hx
  | cells m l =>
    obtain ⟨b', hb', c, e, fz, hh, _, _, _, r⟩ := h
    rw [hb] at hb'; cases hb'; exact (r.1 hx).1
  | map m es bs k =>
    obtain ⟨b', hb', c, hh, _, r, _⟩ := h
    rw [hb] at hb'; cases hb'; exact r hx
  | iter =>
    obtain ⟨b', hb', c, hh, _, _, r⟩ := h
    rw [hb] at hb'; cases hb'; exact r

section
variable {w0 w w' : World} {β β' : Lay} {st : LState}

/-- Nothing turns but the count of draws. -/
theorem Rel.draw (h : Rel w0 β st w) : Rel w0 β st w.drew :=
  ⟨h.below.drew, h.dom, fun o x hx => (h.obj o x hx).same fun _ _ _ => rfl, h.sep⟩

theorem Rel.draws (h : Rel w0 β st w) {n : Nat} (_hn : w.drawn ≤ n) : Rel w0 β st { w with drawn := n } :=
  ⟨⟨⟨h.below.os, h.below.tape, h.below.output, h.below.size, h.below.block⟩⟩, h.dom, fun o x hx => (h.obj o x hx).same fun _ _ _ => rfl, h.sep⟩

/-- A new block that no object names. -/
theorem Rel.grow (h : Rel w0 β st w) (o : Obj) : Rel w0 β st (w.alloc o) :=
  ⟨h.below.alloc (Nat.le_refl _) o, h.dom, fun i x hx => (h.obj i x hx).same fun b hb hl => by
    obtain ⟨b', hb', hlt⟩ := (h.obj i x hx).live hl
    rw [hb] at hb'; cases hb'
    exact Below.heap_alloc w o _ hlt, h.sep⟩

/-- An object is written, and perhaps its block's cells beyond it. -/
theorem Rel.upd {o : Nat} {x x' : LObj} {b : Bl} (h : Rel w0 β st w) (ho : st[o]? = some x) (hx : x.rw = true) (hb : β o = some b)
    (hos : w'.os = w.os) (htape : w'.tape = w.tape) (hout : w'.output = w.output) (hsz : w'.heap.size = w.heap.size)
    (hw : ∀ k, k ≠ b.blk → w'.heap[k]? = w.heap[k]?) (hx' : OR w0.heap.size β w' o x') : Rel w0 β (st.set o x') w' := by
  have hN := (h.obj o x ho).newBlk hx hb
  refine ⟨h.below.trans ⟨⟨hos, htape, hout, by omega, fun k hk => hw k (by have := h.below.size; omega)⟩⟩, fun i hi => h.dom i (by simpa using hi), ?_, ?_⟩
  · intro i y hy
    by_cases hio : i = o
    · subst hio
      have hlt : i < st.length := by
        rcases Nat.lt_or_ge i st.length with k | k
        · exact k
        · simp [List.getElem?_eq_none k] at ho
      simp [hlt] at hy; subst hy; exact hx'
    · have hy' : st[i]? = some y := by simpa [List.getElem?_set, Ne.symm hio] using hy
      exact (h.obj i y hy').same fun b' hb' hl => hw _ (fun e => h.sep o i x y b b' ho hx hy' hl (Ne.symm hio) hb hb' e.symm)
  · intro i j y z b1 b2 hy hyr hz hzl hij h1 h2
    by_cases hio : i = o
    · subst hio
      have hz' : st[j]? = some z := by simpa [List.getElem?_set, hij] using hz
      exact h.sep i j x z b1 b2 ho hx hz' hzl hij h1 h2
    · have hy' : st[i]? = some y := by simpa [List.getElem?_set, Ne.symm hio] using hy
      by_cases hjo : j = o
      · subst hjo
        exact h.sep i j y x b1 b2 hy' hyr ho (LObj.live_of_rw hx) hij h1 h2
      · have hz' : st[j]? = some z := by simpa [List.getElem?_set, Ne.symm hjo] using hz
        exact h.sep i j y z b1 b2 hy' hyr hz' hzl hij h1 h2

/-- An object dies, or is closed against writing: nothing turns in the world. -/
theorem Rel.weaken {o : Nat} {x x' : LObj} (h : Rel w0 β st w) (ho : st[o]? = some x) (hrw : x'.rw = true → x.rw = true) (hlive : x'.live = true → x.live = true)
    (hx' : OR w0.heap.size β w o x → OR w0.heap.size β w o x') : Rel w0 β (st.set o x') w := by
  have hlt : o < st.length := by
    rcases Nat.lt_or_ge o st.length with k | k
    · exact k
    · simp [List.getElem?_eq_none k] at ho
  refine ⟨h.below, fun i hi => h.dom i (by simpa using hi), ?_, ?_⟩
  · intro i y hy
    by_cases hio : i = o
    · subst hio; simp [hlt] at hy; subst hy; exact hx' (h.obj i x ho)
    · exact h.obj i y (by simpa [List.getElem?_set, Ne.symm hio] using hy)
  · intro i j y z b1 b2 hy hyr hz hzl hij h1 h2
    have hy' : ∃ y', st[i]? = some y' ∧ y'.rw = true := by
      by_cases hio : i = o
      · subst hio; simp [hlt] at hy; subst hy; exact ⟨x, ho, hrw hyr⟩
      · exact ⟨y, by simpa [List.getElem?_set, Ne.symm hio] using hy, hyr⟩
    have hz' : ∃ z', st[j]? = some z' ∧ z'.live = true := by
      by_cases hjo : j = o
      · subst hjo; simp [hlt] at hz; subst hz; exact ⟨x, ho, hlive hzl⟩
      · exact ⟨z, by simpa [List.getElem?_set, Ne.symm hjo] using hz, hzl⟩
    obtain ⟨y', e1, e2⟩ := hy'
    obtain ⟨z', e3, e4⟩ := hz'
    exact h.sep i j y' z' b1 b2 e1 e2 e3 e4 hij h1 h2

/-- A new object, in a block that no living object names. -/
theorem Rel.push {x : LObj} {b : Bl} (h : Rel w0 β st w) (hf : ∀ o y b', st[o]? = some y → y.live = true → β o = some b' → b'.blk ≠ b.blk)
    (hx : OR w0.heap.size (β.put st.length b) w st.length x) : Rel w0 (β.put st.length b) (st ++ [x]) w := by
  have hle : β.le (β.put st.length b) := Lay.le_put (h.dom _ (Nat.le_refl _))
  refine ⟨h.below, ?_, ?_, ?_⟩
  · intro o ho
    simp at ho
    rw [Lay.put_other (by omega)]; exact h.dom o (by omega)
  · intro o y hy
    rcases Nat.lt_trichotomy o st.length with k | k | k
    · rw [List.getElem?_append_left k] at hy
      exact (h.obj o y hy).mono hle
    · subst k; simp at hy; subst hy; exact hx
    · simp [List.getElem?_append_right (Nat.le_of_lt k)] at hy
      have : o - st.length ≠ 0 := by omega
      cases hh : o - st.length with
      | zero => omega
      | succ n => simp [hh] at hy
  · intro o o' y y' b1 b2 hy hyr hy' hyl hne h1 h2
    have get : ∀ {i : Nat} {z : LObj}, (st ++ [x])[i]? = some z → i < st.length ∧ st[i]? = some z ∨ i = st.length := by
      intro i z hz
      rcases Nat.lt_or_ge i st.length with k | k
      · rw [List.getElem?_append_left k] at hz; exact .inl ⟨k, hz⟩
      · have : i < (st ++ [x]).length := by
          rcases Nat.lt_or_ge i (st ++ [x]).length with k' | k'
          · exact k'
          · simp [List.getElem?_eq_none k'] at hz
        simp at this; exact .inr (by omega)
    rcases get hy with ⟨k, g⟩ | k
    · rw [Lay.put_other (by omega)] at h1
      rcases get hy' with ⟨k', g'⟩ | k'
      · rw [Lay.put_other (by omega)] at h2
        exact h.sep o o' y y' b1 b2 g hyr g' hyl hne h1 h2
      · subst k'; rw [Lay.put_same] at h2; cases h2
        exact hf o y b1 g (LObj.live_of_rw hyr) h1
    · subst k; rw [Lay.put_same] at h1; cases h1
      rcases get hy' with ⟨k', g'⟩ | k'
      · rw [Lay.put_other (by omega)] at h2
        exact fun e => hf o' y' b2 g' hyl h2 e.symm
      · exact absurd k'.symm hne

/-- A new object in a new block. -/
theorem alloc_heap (w : World) (o : Obj) : (w.alloc o).heap = w.heap.push o := rfl

theorem Rel.alloc {m : Md} {l : List LV} {c : Array Value} {e : TypeId} {fz : Nat × Nat} (h : Rel w0 β st w) (hl : l.length ≤ c.size)
    (hc : ∀ (i : Nat) (x : LV), l[i]? = some x → ∃ u, c[i]? = some u ∧ Rp β x u) (hfz : ∀ j, j < c.size → ¬(fz.1 ≤ j ∧ j < fz.2))
    (hm : m = .rw ∨ m = .ro ∨ m = .bt e := by first | exact .inl rfl | exact .inr (.inr rfl) | exact .inr (.inl rfl)) :
    Rel w0 (β.put st.length ⟨w.heap.size, 0, c.size⟩) (st ++ [.cells m l]) (w.alloc (.cells c e fz)) := by
  have hle : β.le (β.put st.length ⟨w.heap.size, 0, c.size⟩) := Lay.le_put (h.dom _ (Nat.le_refl _))
  refine (h.grow _).push ?_ ?_
  · intro o y b' hy hl hb'
    obtain ⟨b'', hb'', hlt⟩ := (h.obj o y hy).live hl
    rw [hb'] at hb''; cases hb''
    show b'.blk ≠ w.heap.size
    omega
  · refine ⟨_, Lay.put_same, c, e, fz, by simp [alloc_heap], by simp, hl, ?_, fun _ => ⟨h.below.size, hfz⟩, ?_, ?_⟩
    rotate_left
    · rintro t rfl; rcases hm with k | k | k <;> cases k; exact ⟨rfl, rfl⟩
    · rintro g n rfl; rcases hm with k | k | k <;> cases k
    intro i x hx
    obtain ⟨u, hu, r⟩ := hc i x hx
    exact ⟨u, by simpa using hu, r.mono hle⟩

theorem Rel.allocMap {m : Md} (h : Rel w0 β st w) :
    Rel w0 (β.put st.length ⟨w.heap.size, 0, 0⟩) (st ++ [.map m [] [] 0]) (w.alloc (.map #[] 0)) := by
  refine (h.grow _).push ?_ ?_
  · intro o y b' hy hl hb'
    obtain ⟨b'', hb'', hlt⟩ := (h.obj o y hy).live hl
    rw [hb'] at hb''; cases hb''
    show b'.blk ≠ w.heap.size
    omega
  · exact ⟨_, Lay.put_same, #[], by simp [alloc_heap], by simp [Entries], fun _ => h.below.size, by simp [Stmp], rfl⟩

theorem Rel.lt {o : Nat} {b : Bl} (h : Rel w0 β st w) (hb : β o = some b) : o < st.length := by
  rcases Nat.lt_or_ge o st.length with k | k
  · exact k
  · rw [h.dom o k] at hb; cases hb

/-- What a cell of an object holds. -/
theorem Rel.cell {o k : Nat} {m : Md} {l : List LV} {b : Bl} {x : LV} (h : Rel w0 β st w) (ho : st[o]? = some (.cells m l)) (hb : β o = some b) (hk : l[k]? = some x) :
    ∃ u, w.cell? ⟨b.blk, b.base + k, none⟩ = some u ∧ Rp β x u := by
  obtain ⟨b', hb', c, e, fz, hh, h1, h2, h3, h4⟩ := h.obj o _ ho
  rw [hb] at hb'; cases hb'
  obtain ⟨u, hu, r⟩ := h3 k x hk
  exact ⟨u, by simp [World.cell?, hh, hu], r⟩

end
end Go.CP
