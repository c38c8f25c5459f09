/- The clean machine, part 13: what is written into the world's blocks. -/
import Derived.Test.YthiaahbmibndkaaGreatDoorCp12
namespace Go.CP

/-- A block is replaced. -/
def putBlk (w : World) (b : Nat) (o : Obj) : World := { w with heap := w.heap.setIfInBounds b o }

section
variable {β : Lay} {P : Program} {w w0 : World} {st : LState}

theorem putBlk_same {b : Nat} {o x : Obj} (h : w.heap[b]? = some x) : (putBlk w b o).heap[b]? = some o := by
  have hlt : b < w.heap.size := (Array.getElem?_eq_some_iff.1 h).1
  simp [putBlk, hlt]

theorem putBlk_other {b k : Nat} {o : Obj} (h : k ≠ b) : (putBlk w b o).heap[k]? = w.heap[k]? := by
  simp [putBlk, Ne.symm h]

theorem putBlk_size {b : Nat} {o : Obj} : (putBlk w b o).heap.size = w.heap.size := by simp [putBlk]

theorem putBlk_put {b : Nat} {o o' : Obj} : putBlk (putBlk w b o) b o' = putBlk w b o' := by simp [putBlk]

theorem putBlk_id {b : Nat} {o : Obj} (h : w.heap[b]? = some o) : putBlk w b o = w := by
  obtain ⟨hlt, hx⟩ := Array.getElem?_eq_some_iff.1 h
  cases w
  simp only [putBlk, World.mk.injEq, and_true]
  apply Array.ext
  · simp
  · intro i h1 h2
    rw [Array.getElem_setIfInBounds]
    split
    · rename_i e; subst e; exact hx.symm
    · rfl

theorem setCell_putBlk {b k : Nat} {c : Array Value} {e : TypeId} {fz : Nat × Nat} {v : Value} (h : w.heap[b]? = some (.cells c e fz)) :
    w.setCell ⟨b, k, none⟩ v = putBlk w b (.cells (c.setIfInBounds k v) e fz) := by
  obtain ⟨hlt, hx⟩ := Array.getElem?_eq_some_iff.1 h
  simp only [World.setCell, putBlk]
  congr 1
  apply Array.ext
  · simp
  · intro i h1 h2
    rw [Array.getElem_modify, Array.getElem_setIfInBounds]
    by_cases e : b = i
    · subst e; rw [if_pos rfl, if_pos rfl]; rw [hx]; rfl
    · rw [if_neg e, if_neg e]

theorem LV.one_sound {v : LV} {u : Value} (h : Rp β v u) (ho : v.one = true) : u.oneCell' = true := by
  cases v <;> simp [LV.one] at ho
  all_goals
    first
      | (simp only [Rp] at h; subst h; rfl)
      | (obtain ⟨_, _, rfl⟩ := h; rfl)
      | (obtain ⟨_, _, _, rfl⟩ := h; rfl)
      | (obtain ⟨_, _, rfl, _⟩ := h; rfl)
      | (obtain ⟨_, rfl, _⟩ := h; rfl)

theorem ones_sound : ∀ {vs : List LV} {us : List Value}, Rps β vs us → vs.all LV.one = true → ∀ u ∈ us, u.oneCell' = true
  | [], us, h, _, u, hu => by simp only [Rps] at h; subst h; simp at hu
  | v :: vs, us, h, ho, u, hu => by
    obtain ⟨u', us', rfl, r, s⟩ := h
    simp only [List.all_cons, Bool.and_eq_true] at ho
    rcases List.mem_cons.1 hu with e | e
    · subst e; exact LV.one_sound r ho.1
    · exact ones_sound s ho.2 u e

theorem vsplice_nil (l : List Value) (k : Nat) : vsplice l k [] = l := by simp [vsplice]

theorem vsplice_cons {l : List Value} {k : Nat} {v : Value} {vs : List Value} (h : k < l.length) : vsplice (l.set k v) (k + 1) vs = vsplice l k (v :: vs) := by
  unfold vsplice
  rw [take_set_succ _ _ _ h, List.drop_set_of_lt (by omega)]
  simp [Nat.add_comm, Nat.add_left_comm]

/-- Cells are stored one behind the other. -/
theorem run_storeCells' {b k : Nat} {e : TypeId} {fz : Nat × Nat} : ∀ (vs : List Value) (i : Nat) (c : Array Value) (w : World), w.heap[b]? = some (.cells c e fz) → k + i + vs.length ≤ c.size →
    (∀ j, j < c.size → ¬(fz.1 ≤ j ∧ j < fz.2)) → (∀ v ∈ vs, v.oneCell' = true) →
    (storeCells ⟨b, k, none⟩ vs i).run P w = .ok () (putBlk w b (.cells ⟨vsplice c.toList (k + i) vs⟩ e fz))
  | [], i, c, w, h, _, _, _ => by
    simp only [storeCells, Sem.run_pure, vsplice_nil]
    rw [putBlk_id h]
  | v :: vs, i, c, w, h, hn, hf, ho => by
    simp only [List.length_cons] at hn
    have hlt : k + i < c.size := by omega
    have hc : w.cell? ⟨b, k + i, none⟩ = some c[k + i] := by simp [World.cell?, h, hlt]
    have hz : w.frozen? ⟨b, k + i, none⟩ = false := by
      have := hf (k + i) hlt
      simp only [World.frozen?, h]
      simpa using this
    have hset := setCell_putBlk (k := k + i) (v := v) h
    simp only [storeCells, Sem.run_bind, addr_add]
    rw [run_store P w _ v .plain (ho v (by simp)), hc]
    simp only [hz, Bool.false_eq_true, if_false, Result.andThen_ok]
    rw [hset, run_storeCells' vs (i + 1) (c.setIfInBounds (k + i) v) (putBlk w b (.cells (c.setIfInBounds (k + i) v) e fz)) (putBlk_same h) (by simp; omega) (by simpa using hf) (fun u hu => ho u (by simp [hu]))]
    rw [putBlk_put, Array.toList_setIfInBounds, show k + (i + 1) = k + i + 1 from by omega, vsplice_cons (by simpa using hlt)]

/-- The block of an object that may be written. -/
theorem Rel.rwBlk {o : Nat} {m : Md} {l : List LV} {b : Bl} (h : Rel w0 β st w) (ho : st[o]? = some (.cells m l)) (hm : m.w = true) (hb : β o = some b) :
    ∃ c e fz, w.heap[b.blk]? = some (.cells c e fz) ∧ c.size = b.base + b.room ∧ l.length ≤ b.room ∧ Rps β l ((c.toList.drop b.base).take l.length) ∧ (∀ j, j < c.size → ¬(fz.1 ≤ j ∧ j < fz.2)) ∧ MdOk w0.heap.size m b c e fz := by
  obtain ⟨b', hb', c, e, fz, hh, h1, h2, h3, h4⟩ := h.obj o _ ho
  rw [hb] at hb'; cases hb'
  refine ⟨c, e, fz, hh, h1, h2, ?_, (h4.1 hm).2, h4⟩
  apply Rps.of_get
  · simp; omega
  · intro i x hx
    obtain ⟨u, hu, r⟩ := h3 i x hx
    have hi : i < l.length := by
      rcases Nat.lt_or_ge i l.length with k | k
      · exact k
      · simp [List.getElem?_eq_none k] at hx
    exact ⟨u, by rw [List.getElem?_take, if_pos hi, List.getElem?_drop]; simpa using hu, r⟩

/-- Cells are written into an object, or beyond what it holds: the world follows. -/
theorem Rel.splice {o k : Nat} {md : Md} {l l' : List LV} {b : Bl} {us : List Value} (h : Rel w0 β st w) (ho : st[o]? = some (.cells md l)) (hmd : md.w = true) (hb : β o = some b) (hk : k + us.length ≤ b.room)
    (ho1 : ∀ u ∈ us, u.oneCell' = true)
    (hl' : l'.length ≤ b.room) (hrel : ∀ m : List Value, m.length = b.room → Rps β l (m.take l.length) → Rps β l' ((vsplice m k us).take l'.length)) :
    ∃ w', (storeCells ⟨b.blk, b.base + k, none⟩ us 0).run P w = .ok () w' ∧ Rel w0 β (st.set o (.cells md l')) w' := by
  obtain ⟨c, e, fz, hh, h1, h2, h3, h4, h5⟩ := h.rwBlk ho hmd hb
  refine ⟨putBlk w b.blk (.cells ⟨vsplice c.toList (b.base + k) us⟩ e fz), ?_, ?_⟩
  · have := run_storeCells' (P := P) us 0 c w hh (by omega : b.base + k + 0 + us.length ≤ c.size) h4 ho1
    simpa using this
  · have hlen : (vsplice c.toList (b.base + k) us).length = c.size := by
      unfold vsplice; simp; omega
    refine h.upd ho hmd hb rfl rfl rfl putBlk_size (fun j hj => putBlk_other hj) ?_
    refine ⟨b, hb, ⟨vsplice c.toList (b.base + k) us⟩, e, fz, putBlk_same hh, by simpa [hlen] using h1, hl', ?_, fun _ => ⟨(h.obj o _ ho).newBlk hmd hb, by simpa [hlen] using h4⟩, h5.2.1, h5.2.2⟩
    have hdrop : (vsplice c.toList (b.base + k) us).drop b.base = vsplice (c.toList.drop b.base) k us := by
      unfold vsplice
      rw [List.append_assoc, List.append_assoc, List.drop_append_of_le_length (by simp; omega), List.drop_take, List.drop_drop]
      rw [show b.base + k - b.base = k from by omega, show b.base + (k + us.length) = b.base + k + us.length from by omega]
    have hr := hrel (c.toList.drop b.base) (by simp; omega) h3
    intro i x hx
    obtain ⟨u, hu, r⟩ := hr.get hx
    refine ⟨u, ?_, r⟩
    rw [← hdrop, List.getElem?_take] at hu
    split at hu
    · rw [List.getElem?_drop] at hu
      simpa using hu
    · simp at hu

end
end Go.CP
