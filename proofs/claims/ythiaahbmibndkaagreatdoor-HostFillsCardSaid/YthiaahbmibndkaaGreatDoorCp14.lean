/- The clean machine, part 14: new blocks of zeros, sources of an append, and the append that makes a new array. -/
import Derived.Test.YthiaahbmibndkaaGreatDoorCp13
namespace Go.CP

theorem flat_rep_length {α : Type} (zs : List α) : ∀ n, (List.replicate n zs).flatten.length = n * zs.length
  | 0 => by simp
  | n + 1 => by simp [List.replicate_succ, flat_rep_length zs n, Nat.succ_mul, Nat.add_comm]

theorem flat_rep_get {α : Type} (zs : List α) : ∀ (n i : Nat), i < n * zs.length → (List.replicate n zs).flatten[i]? = zs[i % zs.length]?
  | 0, i, h => by simp at h
  | n + 1, i, h => by
    rw [List.replicate_succ, List.flatten_cons]
    rcases Nat.lt_or_ge i zs.length with k | k
    · rw [List.getElem?_append_left k, Nat.mod_eq_of_lt k]
    · rw [List.getElem?_append_right k, flat_rep_get zs n _ (by rw [Nat.succ_mul] at h; omega), Nat.mod_eq_sub_mod k]

theorem range_rep (zs : Array Value) (n : Nat) : ((Array.range (n * zs.size)).map (fun i => zs[i % zs.size]!)).toList = (List.replicate n zs.toList).flatten := by
  apply List.ext_getElem?
  intro i
  rcases Nat.lt_or_ge i (n * zs.size) with h | h
  · have hz : 0 < zs.size := by
      rcases Nat.eq_zero_or_pos zs.size with e | e
      · rw [e] at h; simp at h
      · exact e
    have hm : i % zs.size < zs.size := Nat.mod_lt _ hz
    rw [flat_rep_get _ _ _ (by simpa using h)]
    simp [h, hm]
  · rw [List.getElem?_eq_none (by simpa using h), List.getElem?_eq_none (by rw [flat_rep_length]; simpa using h)]

theorem zeroCells_rep (zs : Array Value) (n : Nat) : (Builtin.zeroCells zs n).toList = (List.replicate n zs.toList).flatten := range_rep zs n

theorem zeroCells_size (zs : Array Value) (n : Nat) : (Builtin.zeroCells zs n).size = n * zs.size := by
  unfold Builtin.zeroCells; simp

section
variable {β : Lay} {P : Program} {w w0 : World} {st : LState}

theorem Rps.flat_rep {l : List LV} {vs : List Value} (h : Rps β l vs) : ∀ n, Rps β (List.replicate n l).flatten (List.replicate n vs).flatten
  | 0 => by simp [Rps]
  | n + 1 => by simp only [List.replicate_succ, List.flatten_cons]; exact h.append (Rps.flat_rep h n)

theorem elemOk_spec {e : TypeId} (h : elemOk P e = true) : ∃ z u, known P e = true ∧ zeroT P e = some z ∧ (∀ w, (zeroValue e).run P w = .ok u w) ∧ (∀ β, Rps β z.cells u.cells.toList) ∧ u.cells.size = szT P e ∧ z.cells.length = szT P e ∧ z.cells.all LV.one = true := by
  unfold elemOk at h
  simp only [Bool.and_eq_true] at h
  obtain ⟨h1, h2⟩ := h
  split at h2
  · rename_i z hz
    simp only [Bool.and_eq_true, beq_iff_eq] at h2
    obtain ⟨u, _, h4, i, hi, hu⟩ := run_zero (P := P) (w := default) hz
    refine ⟨z, u, h1, hz, fun w => by simp [zeroValue, typeInfo, hi, hu], fun β => (ofV_sound h4).cells (ofV_ok h4), ?_, h2.1, h2.2⟩
    have := ((ofV_sound (β := fun _ => none) h4).cells (ofV_ok h4)).length
    rw [← h2.1, ← this]; simp
  · simp at h2

theorem elemT_spec {t e : TypeId} (h : elemT P t = some e) : P.underlying t = some (.slice e) ∧ elemOk P e = true := by
  unfold elemT at h
  split at h
  · rename_i e' ht
    split at h
    · rename_i ho; simp at h; subst h; exact ⟨ht, ho⟩
    · simp at h
  · simp at h

/-- What is appended, or copied: how many, and the cells of the first m of them. -/
theorem src_sound {sz n : Nat} {x : LV} {u : Value} {cs : List LV} (h : Rel w0 β st w) (hx : Rp β x u) (hs : lsrc st sz x = some (n, cs)) :
    (Builtin.lenOf u).run P w = .ok n w ∧ cs.length = n * sz ∧ ∀ m, m ≤ n → ∃ us : List Value, us.length = m * sz ∧ Rps β (cs.take (m * sz)) us ∧ ∀ k, (Builtin.firstCells sz m u).run P { w with drawn := k } = .ok ⟨us⟩ { w with drawn := k } := by
  unfold lsrc at hs
  split at hs
  · simp only [Rp] at hx; subst hx; simp at hs; obtain ⟨rfl, rfl⟩ := hs
    refine ⟨rfl, by simp, fun m hm => ⟨[], by simp at hm; simp [hm], by simp [Rps], fun k => rfl⟩⟩
  · obtain ⟨a, c, rfl⟩ := hx; simp at hs; obtain ⟨rfl, rfl⟩ := hs
    refine ⟨rfl, by simp, fun m hm => ⟨[], by simp at hm; simp [hm], by simp [Rps], fun k => ?_⟩⟩
    simp at hm; subst hm
    simp [Builtin.firstCells, loadCells, loadCellsFrom]
  · rename_i s
    simp only [Rp] at hx; subst hx
    split at hs
    · rename_i h1
      subst h1
      simp only [Option.some.injEq, Prod.mk.injEq] at hs; obtain ⟨rfl, rfl⟩ := hs
      refine ⟨rfl, by simp, fun m hm => ⟨(s.take m).map fun b => Value.int .u8 b.toNat, by simp; omega, ?_, fun k => ?_⟩⟩
      · rw [Nat.mul_one, ← List.map_take]
        generalize s.take m = q
        induction q with
        | nil => simp [Rps]
        | cons b q ih => exact ⟨_, _, rfl, rfl, ih⟩
      · simp only [Builtin.firstCells, Sem.run_pure, str_extract]
        congr 1
        apply Array.ext'
        simp
    · simp at hs
  · rename_i o k len ci
    split at hs
    · rename_i md l ho
      split at hs
      · rename_i hn
        simp at hs; obtain ⟨rfl, rfl⟩ := hs
        obtain ⟨b, hb, hlen, rfl⟩ := hx
        refine ⟨rfl, by simp; omega, fun m hm => ?_⟩
        have hmn : m * sz ≤ len * sz := Nat.mul_le_mul_right _ hm
        obtain ⟨us, h1, h2, h3⟩ := run_loadN (P := P) (n := m * sz) (k := k) h ho hb (by omega)
        refine ⟨us, h1, ?_, fun j => ?_⟩
        · rw [List.take_take, Nat.min_eq_left hmn]; exact h3
        · simp only [Builtin.firstCells]
          obtain ⟨vs, e1, e2, e3⟩ := h.cells ho hb (n := m * sz) (k := k) (by omega)
          have a1 := run_loadCells_list (P := P) w ⟨b.blk, b.base + k, none⟩ vs (fun j v hv => by rw [addr_add]; exact e3 j v hv)
          have a2 := run_loadCells_list (P := P) { w with drawn := j } ⟨b.blk, b.base + k, none⟩ vs (fun j v hv => by rw [addr_add]; exact e3 j v hv)
          rw [e1] at a1 a2
          rw [a1] at h2
          simp only [Result.ok.injEq, Array.mk.injEq] at h2
          rw [a2, h2.1]
      · simp at hs
    · simp at hs
  · simp at hs

theorem growBy_le (n : Nat) : ∀ (r c : Nat), 256 ≤ n → c ≤ 2 * n → Builtin.growBy n r c ≤ 2 * n
  | 0, c, _, h => h
  | r + 1, c, h0, h => by
    unfold Builtin.growBy
    split
    · exact h
    · exact growBy_le n r _ h0 (by omega)

theorem nextcap_le {n c : Nat} (h : c < n) : Builtin.nextslicecap n c ≤ 2 * n := by
  unfold Builtin.nextslicecap
  split
  · omega
  · split
    · omega
    · exact growBy_le n 4 c (by omega) (by omega)

theorem room_spec {n bytes : Nat} (h : room47 n bytes = true) : n * bytes ≤ 2 ^ 47 ∧ n ≤ 2 ^ 47 := by
  unfold room47 at h
  simp only [Bool.and_eq_true, decide_eq_true_eq] at h
  exact h

theorem bytesT_spec {e : TypeId} (h : known P e = true) : ∀ w, ((do pure (← typeInfo e).bytes) : Sem Nat).run P w = .ok (bytesT P e) w := by
  intro w
  obtain ⟨i, hi⟩ := known_info h
  simp [typeInfo, hi, bytesT]

/-- The arguments of an append. -/
structure AppArgs (P : Program) (ats : Array TypeId) (e : TypeId) (i : TypeInfo) (z : Value) : Prop where
  a0 : ∃ t, ats[0]? = some t ∧ P.underlying t = some (.slice e)
  a1 : ∃ t d, ats[1]? = some t ∧ P.underlying t = some d ∧ ∀ k, d ≠ .int k
  info : P.info? e = some i
  size : i.size = szT P e
  bytes : i.bytes = bytesT P e
  bpos : 0 < bytesT P e
  zero : i.zero = some z

/-- An append for which there is room. -/
theorem run_append_in {ats : Array TypeId} {rt e : TypeId} {i : TypeInfo} {z : Value} (A : AppArgs P ats e i z) {base : Option Addr} {sLen sCap n : Nat} {x : Value} {us : List Value} (hn : sLen + n ≤ sCap)
    (hl : (Builtin.lenOf x).run P w = .ok n w) (hf : (Builtin.firstCells (szT P e) n x).run P w = .ok ⟨us⟩ w) :
    (Builtin.append_ ats rt #[.slice base sLen sCap, x]).run P w =
      ((match base with
        | some a => storeCells (a.add (sLen * szT P e)) us
        | none => pure ()).run P w).andThen fun _ w' => .ok (.slice base (sLen + n) sCap) w' := by
  obtain ⟨t0, ht0, hu0⟩ := A.a0
  obtain ⟨t1, d1, ht1, hu1, hd1⟩ := A.a1
  unfold Builtin.append_
  simp only [ht0, List.getElem?_toArray, List.getElem?_cons_zero, List.getElem?_cons_succ, Sem.run_bind, run_und hu0, Result.andThen_ok, ht1, run_und hu1, Sem.run_pure, sizeOf, typeInfo, run_program, A.info, A.size]
  cases d1 with
  | int k => exact absurd rfl (hd1 k)
  | _ =>
    simp only [Bool.false_eq_true, if_false, Sem.run_bind, hl, Result.andThen_ok, if_pos hn, Bool.not_false, if_true, hf]
    cases base with
    | none => rfl
    | some q => simp only [Sem.run_bind, Sem.run_pure]

theorem bytes_room {n b c : Nat} (hr : n * b ≤ 2 ^ 47) (hc : c < n) : ¬ Builtin.nextslicecap n c * b > 2 ^ 48 := by
  have h1 := Nat.mul_le_mul_right b (nextcap_le hc)
  have h2 : 2 * n * b = 2 * (n * b) := Nat.mul_assoc _ _ _
  omega

/-- An append that makes a new array. -/
theorem run_append_new {ats : Array TypeId} {rt e : TypeId} {i : TypeInfo} {z : Value} (A : AppArgs P ats e i z) {base : Option Addr} {sLen sCap n : Nat} {x : Value} {os us : List Value} (hn : sCap < sLen + n)
    (hr : room47 (sLen + n) (bytesT P e) = true) (hzs : z.cells.size = szT P e)
    (hl : (Builtin.lenOf x).run P w = .ok n w) (ho : (Builtin.firstCells (szT P e) sLen (.slice base sLen sCap)).run P w.drew = .ok ⟨os⟩ w.drew)
    (hf : (Builtin.firstCells (szT P e) n x).run P w.drew = .ok ⟨us⟩ w.drew) (hos : os.length = sLen * szT P e) (hus : us.length = n * szT P e) :
    ∃ (newCap : Nat) (r : List Value), sLen + n ≤ newCap ∧ (os ++ us ++ r).length = newCap * szT P e ∧
      (Builtin.append_ ats rt #[.slice base sLen sCap, x]).run P w = .ok (.slice (some ⟨w.heap.size, 0, none⟩) (sLen + n) newCap) (w.drew.alloc (.cells ⟨os ++ us ++ r⟩ e)) := by
  obtain ⟨t0, ht0, hu0⟩ := A.a0
  obtain ⟨t1, d1, ht1, hu1, hd1⟩ := A.a1
  obtain ⟨hr1, hr2⟩ := room_spec hr
  refine ⟨(Question.appendCap (sLen + n) sCap e).cut (w.tape w.drawn (Question.appendCap (sLen + n) sCap e)), (Builtin.zeroCells z.cells ((Question.appendCap (sLen + n) sCap e).cut (w.tape w.drawn (Question.appendCap (sLen + n) sCap e)) - (sLen + n))).toList, ?_, ?_, ?_⟩
  · simp only [Question.cut]; omega
  · have hge : sLen + n ≤ (Question.appendCap (sLen + n) sCap e).cut (w.tape w.drawn (Question.appendCap (sLen + n) sCap e)) := by simp only [Question.cut]; omega
    generalize (Question.appendCap (sLen + n) sCap e).cut (w.tape w.drawn (Question.appendCap (sLen + n) sCap e)) = c at hge
    have := zeroCells_size z.cells (c - (sLen + n))
    simp only [List.length_append, Array.length_toList, this, hos, hus, hzs]
    rw [← Nat.add_mul, ← Nat.add_mul]
    congr 1; omega
  · unfold Builtin.append_
    simp only [ht0, List.getElem?_toArray, List.getElem?_cons_zero, List.getElem?_cons_succ, Sem.run_bind, run_und hu0, Result.andThen_ok, ht1, run_und hu1, Sem.run_pure, sizeOf, typeInfo, run_program, A.info, A.size]
    have hmax : ¬ (((sLen + n : Nat) : Int) > IntKind.i64.max) := by
      have : IntKind.i64.max = 9223372036854775807 := by decide
      rw [this]; omega
    have hbig : ¬ Builtin.nextslicecap (sLen + n) sCap * i.bytes > 2 ^ 48 := by
      rw [A.bytes]; exact bytes_room hr1 hn
    have hforced : (Question.appendCap (sLen + n) sCap e).forced = false := rfl
    cases d1 with
    | int k => exact absurd rfl (hd1 k)
    | _ =>
      simp only [Bool.false_eq_true, if_false, Sem.run_bind, hl, Result.andThen_ok]
      rw [if_neg (by omega)]
      simp only [Sem.run_bind, run_program, Result.andThen_ok, A.info, Sem.run_pure]
      rw [if_neg (fun e => hmax e.1)]
      simp only [Sem.run_bind, run_program, Result.andThen_ok, A.info, Sem.run_pure]
      rw [if_neg hbig]
      simp only [Sem.run_bind, run_choose, hforced, Bool.false_eq_true, if_false, Result.andThen_ok, run_program, A.info, Sem.run_pure, run_askRoom, World.drew_eq, ho, hf, Bool.not_false, if_true, zeroValue, typeInfo, A.zero, newRow, run_newObj]
      congr 2
      · apply Array.ext'; simp

end
end Go.CP
