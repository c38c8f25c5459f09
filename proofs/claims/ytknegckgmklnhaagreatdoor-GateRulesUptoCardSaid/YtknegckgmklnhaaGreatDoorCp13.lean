/- The clean machine, part 13: what is written into the world's blocks. -/
/- The clean machine, part 14: new blocks of zeros, sources of an append, and the append that makes a new array. -/
import Derived.Test.YtknegckgmklnhaaGreatDoorCp12
namespace Go.CP

/-- A block is replaced. -/
def putBlk (w : World) (b : Nat) (o : Obj) : World := { w with heap := w.heap.setIfInBounds b o }

section
variable {β : Lay} {P : Program} {w w0 : World} {st : LState}

theorem putBlk_same {b : Nat} {o x : Obj} (h : w.heap[b]? = some x) : (putBlk w b o).heap[b]? = some o := by
  have hlt : b < w.heap.size := (Array.getElem?_eq_some_iff.1 h).1
  simp [putBlk, hlt]

theorem putBlk_other {b k : Nat} {o : Obj} (h : k ≠ b) : (putBlk w b o).heap[k]? = w.heap[k]? := by
  simp [putBlk, Ne.symm h]

theorem putBlk_size {b : Nat} {o : Obj} : (putBlk w b o).heap.size = w.heap.size := by simp [putBlk]

theorem putBlk_put {b : Nat} {o o' : Obj} : putBlk (putBlk w b o) b o' = putBlk w b o' := by simp [putBlk]

theorem putBlk_id {b : Nat} {o : Obj} (h : w.heap[b]? = some o) : putBlk w b o = w := by
  obtain ⟨hlt, hx⟩ := Array.getElem?_eq_some_iff.1 h
  cases w
  simp only [putBlk, World.mk.injEq, and_true]
  apply Array.ext
  · simp
  · intro i h1 h2
    rw [Array.getElem_setIfInBounds]
    split
    · rename_i e; subst e; exact hx.symm
    · rfl

theorem setCell_putBlk {b k : Nat} {c : Array Value} {e : TypeId} {fz : Nat × Nat} {v : Value} (h : w.heap[b]? = some (.cells c e fz)) :
    w.setCell ⟨b, k, none⟩ v = putBlk w b (.cells (c.setIfInBounds k v) e fz) := by
  obtain ⟨hlt, hx⟩ := Array.getElem?_eq_some_iff.1 h
  simp only [World.setCell, putBlk]
  congr 1
  apply Array.ext
  · simp
  · intro i h1 h2
    rw [Array.getElem_modify, Array.getElem_setIfInBounds]
    by_cases e : b = i
    · subst e; rw [if_pos rfl, if_pos rfl]; rw [hx]; rfl
    · rw [if_neg e, if_neg e]

theorem LV.one_sound {v : LV} {u : Value} (h : Rp β v u) (ho : v.one = true) : u.oneCell' = true := by
  cases v <;> simp [LV.one] at ho
  all_goals
    first
      | (simp only [Rp] at h; subst h; rfl)
      | (obtain ⟨_, _, _, _, rfl, _⟩ := h; rfl)
      | (obtain ⟨_, _, _, _, rfl, _, _⟩ := h; rfl)
      | (obtain ⟨_, _, _, rfl, _, _, _⟩ := h; rfl)
      | (obtain ⟨_, _, rfl⟩ := h; rfl)
      | (obtain ⟨_, _, _, rfl⟩ := h; rfl)
      | (obtain ⟨_, _, rfl, _⟩ := h; rfl)
      | (obtain ⟨_, rfl, _⟩ := h; rfl)

theorem ones_sound : ∀ {vs : List LV} {us : List Value}, Rps β vs us → vs.all LV.one = true → ∀ u ∈ us, u.oneCell' = true
  | [], us, h, _, u, hu => by simp only [Rps] at h; subst h; simp at hu
  | v :: vs, us, h, ho, u, hu => by
    obtain ⟨u', us', rfl, r, s⟩ := h
    simp only [List.all_cons, Bool.and_eq_true] at ho
    rcases List.mem_cons.1 hu with e | e
    · subst e; exact LV.one_sound r ho.1
    · exact ones_sound s ho.2 u e

theorem vsplice_nil (l : List Value) (k : Nat) : vsplice l k [] = l := by simp [vsplice]

theorem vsplice_cons {l : List Value} {k : Nat} {v : Value} {vs : List Value} (h : k < l.length) : vsplice (l.set k v) (k + 1) vs = vsplice l k (v :: vs) := by
  unfold vsplice
  rw [take_set_succ _ _ _ h, List.drop_set_of_lt (by omega)]
  simp [Nat.add_comm, Nat.add_left_comm]

/-- Cells are stored one behind the other. -/
theorem run_storeCells' {b k : Nat} {e : TypeId} {fz : Nat × Nat} : ∀ (vs : List Value) (i : Nat) (c : Array Value) (w : World), w.heap[b]? = some (.cells c e fz) → k + i + vs.length ≤ c.size →
    (∀ j, j < c.size → ¬(fz.1 ≤ j ∧ j < fz.2)) → (∀ v ∈ vs, v.oneCell' = true) →
    (storeCells ⟨b, k, none⟩ vs i).run P w = .ok () (putBlk w b (.cells ⟨vsplice c.toList (k + i) vs⟩ e fz))
  | [], i, c, w, h, _, _, _ => by
    simp only [storeCells, Sem.run_pure, vsplice_nil]
    rw [putBlk_id h]
  | v :: vs, i, c, w, h, hn, hf, ho => by
    simp only [List.length_cons] at hn
    have hlt : k + i < c.size := by omega
    have hc : w.cell? ⟨b, k + i, none⟩ = some c[k + i] := by simp [World.cell?, h, hlt]
    have hz : w.frozen? ⟨b, k + i, none⟩ = false := by
      have := hf (k + i) hlt
      simp only [World.frozen?, h]
      simpa using this
    have hset := setCell_putBlk (k := k + i) (v := v) h
    simp only [storeCells, Sem.run_bind, addr_add]
    rw [run_store P w _ v .plain (ho v (by simp)), hc]
    simp only [hz, Bool.false_eq_true, if_false, Result.andThen_ok]
    rw [hset, run_storeCells' vs (i + 1) (c.setIfInBounds (k + i) v) (putBlk w b (.cells (c.setIfInBounds (k + i) v) e fz)) (putBlk_same h) (by simp; omega) (by simpa using hf) (fun u hu => ho u (by simp [hu]))]
    rw [putBlk_put, Array.toList_setIfInBounds, show k + (i + 1) = k + i + 1 from by omega, vsplice_cons (by simpa using hlt)]

/-- The block of an object that may be written. -/
theorem Rel.rwBlk {o : Nat} {m : Md} {l : List LV} {b : Bl} (h : Rel w0 β st w) (ho : st[o]? = some (.cells m l)) (hm : m.w = true) (hb : β o = some b) :
    ∃ c e fz, w.heap[b.blk]? = some (.cells c e fz) ∧ c.size = b.base + b.room ∧ l.length ≤ b.room ∧ Rps β l ((c.toList.drop b.base).take l.length) ∧ (∀ j, j < c.size → ¬(fz.1 ≤ j ∧ j < fz.2)) ∧ MdOk w0.heap.size m b c e fz := by
  obtain ⟨b', hb', c, e, fz, hh, h1, h2, h3, h4⟩ := h.obj o _ ho
  rw [hb] at hb'; cases hb'
  refine ⟨c, e, fz, hh, h1, h2, ?_, (h4.1 hm).2, h4⟩
  apply Rps.of_get
  · simp; omega
  · intro i x hx
    obtain ⟨u, hu, r⟩ := h3 i x hx
    have hi : i < l.length := by
      rcases Nat.lt_or_ge i l.length with k | k
      · exact k
      · simp [List.getElem?_eq_none k] at hx
    exact ⟨u, by rw [List.getElem?_take, if_pos hi, List.getElem?_drop]; simpa using hu, r⟩

/-- Cells are written into an object, or beyond what it holds: the world follows. -/
theorem Rel.splice {o k : Nat} {md : Md} {l l' : List LV} {b : Bl} {us : List Value} (h : Rel w0 β st w) (ho : st[o]? = some (.cells md l)) (hmd : md.w = true) (hb : β o = some b) (hk : k + us.length ≤ b.room)
    (ho1 : ∀ u ∈ us, u.oneCell' = true)
    (hl' : l'.length ≤ b.room) (hrel : ∀ m : List Value, m.length = b.room → Rps β l (m.take l.length) → Rps β l' ((vsplice m k us).take l'.length)) :
    ∃ w', (storeCells ⟨b.blk, b.base + k, none⟩ us 0).run P w = .ok () w' ∧ Rel w0 β (st.set o (.cells md l')) w' := by
  obtain ⟨c, e, fz, hh, h1, h2, h3, h4, h5⟩ := h.rwBlk ho hmd hb
  refine ⟨putBlk w b.blk (.cells ⟨vsplice c.toList (b.base + k) us⟩ e fz), ?_, ?_⟩
  · have := run_storeCells' (P := P) us 0 c w hh (by omega : b.base + k + 0 + us.length ≤ c.size) h4 ho1
    simpa using this
  · have hlen : (vsplice c.toList (b.base + k) us).length = c.size := by
      unfold vsplice; simp; omega
    refine h.upd ho hmd hb rfl rfl rfl putBlk_size (fun j hj => putBlk_other hj) ?_
    refine ⟨b, hb, ⟨vsplice c.toList (b.base + k) us⟩, e, fz, putBlk_same hh, by simpa [hlen] using h1, hl', ?_, fun _ => ⟨(h.obj o _ ho).newBlk hmd hb, by simpa [hlen] using h4⟩, h5.2.1, h5.2.2⟩
    have hdrop : (vsplice c.toList (b.base + k) us).drop b.base = vsplice (c.toList.drop b.base) k us := by
      unfold vsplice
      rw [List.append_assoc, List.append_assoc, List.drop_append_of_le_length (by simp; omega), List.drop_take, List.drop_drop]
      rw [show b.base + k - b.base = k from by omega, show b.base + (k + us.length) = b.base + k + us.length from by omega]
    have hr := hrel (c.toList.drop b.base) (by simp; omega) h3
    intro i x hx
    obtain ⟨u, hu, r⟩ := hr.get hx
    refine ⟨u, ?_, r⟩
    rw [← hdrop, List.getElem?_take] at hu
    split at hu
    · rw [List.getElem?_drop] at hu
      simpa using hu
    · simp at hu

end
end Go.CP

namespace Go.CP

theorem flat_rep_length {α : Type} (zs : List α) : ∀ n, (List.replicate n zs).flatten.length = n * zs.length
  | 0 => by simp
  | n + 1 => by simp [List.replicate_succ, flat_rep_length zs n, Nat.succ_mul, Nat.add_comm]

theorem flat_rep_get {α : Type} (zs : List α) : ∀ (n i : Nat), i < n * zs.length → (List.replicate n zs).flatten[i]? = zs[i % zs.length]?
  | 0, i, h => by simp at h
  | n + 1, i, h => by
    rw [List.replicate_succ, List.flatten_cons]
    rcases Nat.lt_or_ge i zs.length with k | k
    · rw [List.getElem?_append_left k, Nat.mod_eq_of_lt k]
    · rw [List.getElem?_append_right k, flat_rep_get zs n _ (by rw [Nat.succ_mul] at h; omega), Nat.mod_eq_sub_mod k]

theorem range_rep (zs : Array Value) (n : Nat) : ((Array.range (n * zs.size)).map (fun i => zs[i % zs.size]!)).toList = (List.replicate n zs.toList).flatten := by
  apply List.ext_getElem?
  intro i
  rcases Nat.lt_or_ge i (n * zs.size) with h | h
  · have hz : 0 < zs.size := by
      rcases Nat.eq_zero_or_pos zs.size with e | e
      · rw [e] at h; simp at h
      · exact e
    have hm : i % zs.size < zs.size := Nat.mod_lt _ hz
    rw [flat_rep_get _ _ _ (by simpa using h)]
    simp [h, hm]
  · rw [List.getElem?_eq_none (by simpa using h), List.getElem?_eq_none (by rw [flat_rep_length]; simpa using h)]

theorem zeroCells_rep (zs : Array Value) (n : Nat) : (Builtin.zeroCells zs n).toList = (List.replicate n zs.toList).flatten := range_rep zs n

theorem zeroCells_size (zs : Array Value) (n : Nat) : (Builtin.zeroCells zs n).size = n * zs.size := by
  unfold Builtin.zeroCells; simp

section
variable {β : Lay} {P : Program} {w w0 : World} {st : LState}

theorem Rps.flat_rep {l : List LV} {vs : List Value} (h : Rps β l vs) : ∀ n, Rps β (List.replicate n l).flatten (List.replicate n vs).flatten
  | 0 => by simp [Rps]
  | n + 1 => by simp only [List.replicate_succ, List.flatten_cons]; exact h.append (Rps.flat_rep h n)

theorem elemOk_spec {e : TypeId} (h : elemOk P e = true) : ∃ z u, known P e = true ∧ zeroT P e = some z ∧ (∀ w, (zeroValue e).run P w = .ok u w) ∧ (∀ β, Rps β z.cells u.cells.toList) ∧ u.cells.size = szT P e ∧ z.cells.length = szT P e ∧ z.cells.all LV.one = true := by
  unfold elemOk at h
  simp only [Bool.and_eq_true] at h
  obtain ⟨h1, h2⟩ := h
  split at h2
  · rename_i z hz
    simp only [Bool.and_eq_true, beq_iff_eq] at h2
    obtain ⟨u, _, h4, i, hi, hu⟩ := run_zero (P := P) (w := default) hz
    refine ⟨z, u, h1, hz, fun w => by simp [zeroValue, typeInfo, hi, hu], fun β => (ofV_sound h4).cells (ofV_ok h4), ?_, h2.1, h2.2⟩
    have := ((ofV_sound (β := Lay.nil 0) h4).cells (ofV_ok h4)).length
    rw [← h2.1, ← this]; simp
  · simp at h2

theorem elemT_spec {t e : TypeId} (h : elemT P t = some e) : P.underlying t = some (.slice e) ∧ elemOk P e = true := by
  unfold elemT at h
  split at h
  · rename_i e' ht
    split at h
    · rename_i ho; simp at h; subst h; exact ⟨ht, ho⟩
    · simp at h
  · simp at h

/-- What is appended, or copied: how many, and the cells of the first m of them. -/
theorem src_sound {sz n : Nat} {x : LV} {u : Value} {cs : List LV} (h : Rel w0 β st w) (hx : Rp β x u) (hs : lsrc st sz x = some (n, cs)) :
    (Builtin.lenOf u).run P w = .ok n w ∧ cs.length = n * sz ∧ ∀ m, m ≤ n → ∃ us : List Value, us.length = m * sz ∧ Rps β (cs.take (m * sz)) us ∧ ∀ k, (Builtin.firstCells sz m u).run P { w with drawn := k } = .ok ⟨us⟩ { w with drawn := k } := by
  unfold lsrc at hs
  split at hs
  · simp only [Rp] at hx; subst hx; simp at hs; obtain ⟨rfl, rfl⟩ := hs
    refine ⟨rfl, by simp, fun m hm => ⟨[], by simp at hm; simp [hm], by simp [Rps], fun k => rfl⟩⟩
  · obtain ⟨a, c, rfl⟩ := hx; simp at hs; obtain ⟨rfl, rfl⟩ := hs
    refine ⟨rfl, by simp, fun m hm => ⟨[], by simp at hm; simp [hm], by simp [Rps], fun k => ?_⟩⟩
    simp at hm; subst hm
    simp [Builtin.firstCells, loadCells, loadCellsFrom]
  · rename_i s
    simp only [Rp] at hx; subst hx
    split at hs
    · rename_i h1
      subst h1
      simp only [Option.some.injEq, Prod.mk.injEq] at hs; obtain ⟨rfl, rfl⟩ := hs
      refine ⟨rfl, by simp, fun m hm => ⟨(s.take m).map fun b => Value.int .u8 b.toNat, by simp; omega, ?_, fun k => ?_⟩⟩
      · rw [Nat.mul_one, ← List.map_take]
        generalize s.take m = q
        induction q with
        | nil => simp [Rps]
        | cons b q ih => exact ⟨_, _, rfl, rfl, ih⟩
      · simp only [Builtin.firstCells, Sem.run_pure, str_extract]
        congr 1
        apply Array.ext'
        simp
    · simp at hs
  · rename_i o k len ci
    split at hs
    · rename_i md l ho
      split at hs
      · rename_i hn
        simp at hs; obtain ⟨rfl, rfl⟩ := hs
        obtain ⟨b, hb, hlen, rfl⟩ := hx
        refine ⟨rfl, by simp; omega, fun m hm => ?_⟩
        have hmn : m * sz ≤ len * sz := Nat.mul_le_mul_right _ hm
        obtain ⟨us, h1, h2, h3⟩ := run_loadN (P := P) (n := m * sz) (k := k) h ho hb (by omega)
        refine ⟨us, h1, ?_, fun j => ?_⟩
        · rw [List.take_take, Nat.min_eq_left hmn]; exact h3
        · simp only [Builtin.firstCells]
          obtain ⟨vs, e1, e2, e3⟩ := h.cells ho hb (n := m * sz) (k := k) (by omega)
          have a1 := run_loadCells_list (P := P) w ⟨b.blk, b.base + k, none⟩ vs (fun j v hv => by rw [addr_add]; exact e3 j v hv)
          have a2 := run_loadCells_list (P := P) { w with drawn := j } ⟨b.blk, b.base + k, none⟩ vs (fun j v hv => by rw [addr_add]; exact e3 j v hv)
          rw [e1] at a1 a2
          rw [a1] at h2
          simp only [Result.ok.injEq, Array.mk.injEq] at h2
          rw [a2, h2.1]
      · simp at hs
    · simp at hs
  · rename_i cs0 len cap
    split at hs
    · rename_i hn
      simp only [Option.some.injEq, Prod.mk.injEq] at hs; obtain ⟨rfl, rfl⟩ := hs
      obtain ⟨us, hus, a, c, rfl, hlc, hcap, hF⟩ := hx
      refine ⟨rfl, hn, fun m hm => ?_⟩
      have hmn : m * sz ≤ len * sz := Nat.mul_le_mul_right _ hm
      rcases hF with ⟨hF, _⟩ | ⟨b, base, rfl, hF⟩
      · subst hF
        have : m = 0 := by omega
        subst this
        exact ⟨[], by simp, by simp [Rps], fun k => by cases a <;> simp [Builtin.firstCells, loadCells, loadCellsFrom]⟩
      · obtain ⟨vs, e1, e2, e3⟩ := h.fzCells hus hF (n := m * sz) (k := 0) (by omega)
        have e3' : ∀ (i : Nat) v, vs[i]? = some v → w.cell? ⟨b, base + i, none⟩ = some v := fun i v hv => by simpa using e3 i v hv
        refine ⟨vs, e1, by simpa using e2, fun j => ?_⟩
        simp only [Builtin.firstCells]
        have a2 := run_loadCells_list (P := P) { w with drawn := j } ⟨b, base, none⟩ vs (fun i v hv => by rw [addr_add]; exact e3' i v hv)
        rw [e1] at a2
        exact a2
    · simp at hs
  · simp at hs

theorem growBy_le (n : Nat) : ∀ (r c : Nat), 256 ≤ n → c ≤ 2 * n → Builtin.growBy n r c ≤ 2 * n
  | 0, c, _, h => h
  | r + 1, c, h0, h => by
    unfold Builtin.growBy
    split
    · exact h
    · exact growBy_le n r _ h0 (by omega)

theorem nextcap_le {n c : Nat} (h : c < n) : Builtin.nextslicecap n c ≤ 2 * n := by
  unfold Builtin.nextslicecap
  split
  · omega
  · split
    · omega
    · exact growBy_le n 4 c (by omega) (by omega)

theorem room_spec {n bytes : Nat} (h : room47 n bytes = true) : n * bytes ≤ 2 ^ 47 ∧ n ≤ 2 ^ 47 := by
  unfold room47 at h
  simp only [Bool.and_eq_true, decide_eq_true_eq] at h
  exact h

theorem bytesT_spec {e : TypeId} (h : known P e = true) : ∀ w, ((do pure (← typeInfo e).bytes) : Sem Nat).run P w = .ok (bytesT P e) w := by
  intro w
  obtain ⟨i, hi⟩ := known_info h
  simp [typeInfo, hi, bytesT]

/-- The arguments of an append. -/
structure AppArgs (P : Program) (ats : Array TypeId) (e : TypeId) (i : TypeInfo) (z : Value) : Prop where
  a0 : ∃ t, ats[0]? = some t ∧ P.underlying t = some (.slice e)
  a1 : ∃ t d, ats[1]? = some t ∧ P.underlying t = some d ∧ ∀ k, d ≠ .int k
  info : P.info? e = some i
  size : i.size = szT P e
  bytes : i.bytes = bytesT P e
  bpos : 0 < bytesT P e
  zero : i.zero = some z

/-- An append for which there is room. -/
theorem run_append_in {ats : Array TypeId} {rt e : TypeId} {i : TypeInfo} {z : Value} (A : AppArgs P ats e i z) {base : Option Addr} {sLen sCap n : Nat} {x : Value} {us : List Value} (hn : sLen + n ≤ sCap)
    (hl : (Builtin.lenOf x).run P w = .ok n w) (hf : (Builtin.firstCells (szT P e) n x).run P w = .ok ⟨us⟩ w) :
    (Builtin.append_ ats rt #[.slice base sLen sCap, x]).run P w =
      ((match base with
        | some a => storeCells (a.add (sLen * szT P e)) us
        | none => pure ()).run P w).andThen fun _ w' => .ok (.slice base (sLen + n) sCap) w' := by
  obtain ⟨t0, ht0, hu0⟩ := A.a0
  obtain ⟨t1, d1, ht1, hu1, hd1⟩ := A.a1
  unfold Builtin.append_
  simp only [ht0, List.getElem?_toArray, List.getElem?_cons_zero, List.getElem?_cons_succ, Sem.run_bind, run_und hu0, Result.andThen_ok, ht1, run_und hu1, Sem.run_pure, sizeOf, typeInfo, run_program, A.info, A.size]
  cases d1 with
  | int k => exact absurd rfl (hd1 k)
  | _ =>
    simp only [Bool.false_eq_true, if_false, Sem.run_bind, hl, Result.andThen_ok, if_pos hn, Bool.not_false, if_true, hf]
    cases base with
    | none => rfl
    | some q => simp only [Sem.run_bind, Sem.run_pure]

theorem bytes_room {n b c : Nat} (hr : n * b ≤ 2 ^ 47) (hc : c < n) : ¬ Builtin.nextslicecap n c * b > 2 ^ 48 := by
  have h1 := Nat.mul_le_mul_right b (nextcap_le hc)
  have h2 : 2 * n * b = 2 * (n * b) := Nat.mul_assoc _ _ _
  omega

/-- An append that makes a new array. -/
theorem run_append_new {ats : Array TypeId} {rt e : TypeId} {i : TypeInfo} {z : Value} (A : AppArgs P ats e i z) {base : Option Addr} {sLen sCap n : Nat} {x : Value} {os us : List Value} (hn : sCap < sLen + n)
    (hr : room47 (sLen + n) (bytesT P e) = true) (hzs : z.cells.size = szT P e)
    (hl : (Builtin.lenOf x).run P w = .ok n w) (ho : (Builtin.firstCells (szT P e) sLen (.slice base sLen sCap)).run P w.drew = .ok ⟨os⟩ w.drew)
    (hf : (Builtin.firstCells (szT P e) n x).run P w.drew = .ok ⟨us⟩ w.drew) (hos : os.length = sLen * szT P e) (hus : us.length = n * szT P e) :
    ∃ (newCap : Nat) (r : List Value), sLen + n ≤ newCap ∧ (os ++ us ++ r).length = newCap * szT P e ∧
      (Builtin.append_ ats rt #[.slice base sLen sCap, x]).run P w = .ok (.slice (some ⟨w.heap.size, 0, none⟩) (sLen + n) newCap) (w.drew.alloc (.cells ⟨os ++ us ++ r⟩ e)) := by
  obtain ⟨t0, ht0, hu0⟩ := A.a0
  obtain ⟨t1, d1, ht1, hu1, hd1⟩ := A.a1
  obtain ⟨hr1, hr2⟩ := room_spec hr
  refine ⟨(Question.appendCap (sLen + n) sCap e).cut (w.tape w.drawn (Question.appendCap (sLen + n) sCap e)), (Builtin.zeroCells z.cells ((Question.appendCap (sLen + n) sCap e).cut (w.tape w.drawn (Question.appendCap (sLen + n) sCap e)) - (sLen + n))).toList, ?_, ?_, ?_⟩
  · simp only [Question.cut]; omega
  · have hge : sLen + n ≤ (Question.appendCap (sLen + n) sCap e).cut (w.tape w.drawn (Question.appendCap (sLen + n) sCap e)) := by simp only [Question.cut]; omega
    generalize (Question.appendCap (sLen + n) sCap e).cut (w.tape w.drawn (Question.appendCap (sLen + n) sCap e)) = c at hge
    have := zeroCells_size z.cells (c - (sLen + n))
    simp only [List.length_append, Array.length_toList, this, hos, hus, hzs]
    rw [← Nat.add_mul, ← Nat.add_mul]
    congr 1; omega
  · unfold Builtin.append_
    simp only [ht0, List.getElem?_toArray, List.getElem?_cons_zero, List.getElem?_cons_succ, Sem.run_bind, run_und hu0, Result.andThen_ok, ht1, run_und hu1, Sem.run_pure, sizeOf, typeInfo, run_program, A.info, A.size]
    have hmax : ¬ (((sLen + n : Nat) : Int) > IntKind.i64.max) := by
      have : IntKind.i64.max = 9223372036854775807 := by decide
      rw [this]; omega
    have hbig : ¬ Builtin.nextslicecap (sLen + n) sCap * i.bytes > 2 ^ 48 := by
      rw [A.bytes]; exact bytes_room hr1 hn
    have hforced : (Question.appendCap (sLen + n) sCap e).forced = false := rfl
    cases d1 with
    | int k => exact absurd rfl (hd1 k)
    | _ =>
      simp only [Bool.false_eq_true, if_false, Sem.run_bind, hl, Result.andThen_ok]
      rw [if_neg (by omega)]
      simp only [Sem.run_bind, run_program, Result.andThen_ok, A.info, Sem.run_pure]
      rw [if_neg (fun e => hmax e.1)]
      simp only [Sem.run_bind, run_program, Result.andThen_ok, A.info, Sem.run_pure]
      rw [if_neg hbig]
      simp only [Sem.run_bind, run_choose, hforced, Bool.false_eq_true, if_false, Result.andThen_ok, run_program, A.info, Sem.run_pure, run_askRoom, World.drew_eq, ho, hf, Bool.not_false, if_true, zeroValue, typeInfo, A.zero, newRow, run_newObj]
      congr 2
      · apply Array.ext'; simp

end
end Go.CP

