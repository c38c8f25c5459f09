/- The clean machine, part 33: slices that are handed over, as rows; more lemmas of primitives. -/
import Derived.Test.YthiaahbmibndkaaGreatDoorCp32
namespace Go.CP

@[simp] theorem tsel_true {p q s : Prop} : tsel (.bool true) p q s = p := rfl
@[simp] theorem tsel_false {p q s : Prop} : tsel (.bool false) p q s = q := rfl
@[simp] theorem tsel_tup {p q s : Prop} : tsel (.tup []) p q s = s := rfl
theorem tsel_dec {c p q s : Prop} [Decidable c] : tsel (.bool (decide c)) p q s ↔ (c → p) ∧ (¬ c → q) := by
  by_cases h : c <;> simp [h]
theorem tsel_bool {b : Bool} {p q s : Prop} : tsel (.bool b) p q s ↔ (b = true → p) ∧ (b = false → q) := by cases b <;> simp

/-- A slice that is only read: its rows, of c cells each. -/
def SlA (st : LState) (c : Nat) (x : LV) (rows : List (List LV)) : Prop :=
  (rows = [] ∧ (x = .nils ∨ x = .emp)) ∨ ∃ o cap m, x = .sl o 0 rows.length (.ex cap) ∧ st[o]? = some (.cells m rows.flatten) ∧ ∀ r ∈ rows, r.length = c

theorem SlA.fr {st st' : LState} {c : Nat} {x : LV} {rows : List (List LV)} {S : Nat → Prop} (h : SlA st c x rows) (hf : Fr st st' S) (hs : ∀ j, j < st.length → ¬ S j) : SlA st' c x rows := by
  rcases h with h | ⟨o, cap, m, h1, h2, h3⟩
  · exact .inl h
  · exact .inr ⟨o, cap, m, h1, hf.get h2 (hs o (get_lt h2)), h3⟩

theorem SlA.lenSl {st : LState} {c : Nat} {x : LV} {rows : List (List LV)} (h : SlA st c x rows) : lenSl x = some (.int .i64 rows.length) := by
  rcases h with ⟨rfl, rfl | rfl⟩ | ⟨o, cap, m, rfl, _⟩ <;> rfl

theorem flatten_row {α : Type} {c : Nat} : ∀ {rows : List (List α)}, (∀ r ∈ rows, r.length = c) → ∀ {i : Nat} {r : List α}, rows[i]? = some r → (rows.flatten.drop (i * c)).take c = r ∧ (i + 1) * c ≤ rows.flatten.length
  | [], _, i, r, h => by simp at h
  | a :: rows, hl, 0, r, h => by
    simp at h; subst h
    have := hl a (by simp)
    simp [List.take_left' this]; omega
  | a :: rows, hl, i + 1, r, h => by
    have ha := hl a (by simp)
    obtain ⟨h1, h2⟩ := flatten_row (rows := rows) (fun r hr => hl r (by simp [hr])) (i := i) (by simpa using h)
    rw [List.flatten_cons]
    have e : (i + 1) * c = c + i * c := by rw [Nat.add_mul, Nat.one_mul, Nat.add_comm]
    refine ⟨by rw [e, ← List.drop_drop, List.drop_left' ha]; exact h1, ?_⟩
    rw [List.length_append, Nat.add_mul, Nat.one_mul]; omega

theorem SlA.at {st : LState} {c : Nat} {x : LV} {rows : List (List LV)} (h : SlA st c x rows) {i : Nat} {r : List LV} (hr : rows[i]? = some r) {kk : IntKind} :
    ∃ o, ixSl c x (.int kk i) = some (.ptr o (i * c)) ∧ ldA st (.ptr o (i * c)) c = some (.agg r) ∧ ∀ j v, r[j]? = some v → ld1 st (.ptr o (i * c + j)) = some v := by
  rcases h with ⟨rfl, _⟩ | ⟨o, cap, m, rfl, h2, h3⟩
  · simp at hr
  · have hlt := (List.getElem?_eq_some_iff.1 hr).1
    obtain ⟨e1, e2⟩ := flatten_row h3 hr
    have hc := h3 r (List.mem_of_getElem? hr)
    refine ⟨o, ?_, ?_, fun j v hv => ?_⟩
    · simp only [ixSl]
      rw [if_pos ⟨by omega, by omega⟩]; simp
    · simp only [ldA, h2]
      rw [if_pos (by rw [Nat.add_mul, Nat.one_mul] at e2; exact e2), e1]
    · simp only [ld1, h2]
      have hj := (List.getElem?_eq_some_iff.1 hv).1
      have : ((rows.flatten.drop (i * c)).take c)[j]? = some v := by rw [e1]; exact hv
      rw [List.getElem?_take, if_pos (by omega), List.getElem?_drop] at this
      exact this

theorem Typed.str {P : Program} {st : LState} {n : Nat} {t : TypeId} {xs : List LV} (h : Typed P st n t xs) (ht : P.underlying t = some .string) : ∃ s, xs = [.str s] ∧ s.length ≤ maxLen := by
  cases n with
  | zero => exact h.elim
  | succ n => unfold Typed at h; rw [ht] at h; exact h

theorem Typed.int {P : Program} {st : LState} {n : Nat} {t : TypeId} {xs : List LV} {k : IntKind} (h : Typed P st n t xs) (ht : P.underlying t = some (.int k)) : ∃ m, xs = [.int k m] ∧ (Lit.int k m).wf = true := by
  cases n with
  | zero => exact h.elim
  | succ n => unfold Typed at h; rw [ht] at h; exact h

theorem Typed.bool {P : Program} {st : LState} {n : Nat} {t : TypeId} {xs : List LV} (h : Typed P st n t xs) (ht : P.underlying t = some .bool) : ∃ b, xs = [.bool b] := by
  cases n with
  | zero => exact h.elim
  | succ n => unfold Typed at h; rw [ht] at h; exact h

theorem Typed.struct {P : Program} {st : LState} {n : Nat} {t : TypeId} {xs : List LV} {fs : Array Field} (h : Typed P st n t xs) (ht : P.underlying t = some (.struct fs)) :
    ∃ m, xs.length = P.cellsOf t ∧ ∀ f ∈ fs.toList, Typed P st m f.type ((xs.drop f.offset).take (P.cellsOf f.type)) := by
  cases n with
  | zero => exact h.elim
  | succ n => unfold Typed at h; rw [ht] at h; exact ⟨n, h⟩

/-- A struct among arguments. -/
theorem TypedA.struct {P : Program} {st : LState} {t : TypeId} {x : LV} {fs : Array Field} (h : TypedA P st t x) (ht : P.underlying t = some (.struct fs)) :
    ∃ m cs, x = .agg cs ∧ cs.length = P.cellsOf t ∧ ∀ f ∈ fs.toList, Typed P st m f.type ((cs.drop f.offset).take (P.cellsOf f.type)) := by
  obtain ⟨n, cs, h1, _, h3⟩ := h
  rw [if_pos (by simp [isStructT, ht])] at h1
  obtain ⟨m, h4, h5⟩ := h3.struct ht
  exact ⟨m, cs, h1, h4, h5⟩

/-- A slice among arguments. -/
theorem TypedA.slice {P : Program} {st : LState} {t e : TypeId} {x : LV} (h : TypedA P st t x) (ht : P.underlying t = some (.slice e)) :
    ∃ rows n, SlA st (P.cellsOf e) x rows ∧ rows.length ≤ maxLen ∧ ∀ r ∈ rows, Typed P st n e r := by
  obtain ⟨n, cs, _, h2, h3⟩ := h
  have hs : isStructT P t = false := by simp [isStructT, ht]
  rw [h2 hs] at h3
  cases n with
  | zero => exact h3.elim
  | succ n =>
    unfold Typed at h3
    rw [ht] at h3
    rcases h3 with h | h | ⟨o, cap, rows, h4, h5, h6, h7, h8, h9⟩
    · simp at h; exact ⟨[], n, .inl ⟨rfl, .inl h⟩, by simp, by simp⟩
    · simp at h; exact ⟨[], n, .inl ⟨rfl, .inr h⟩, by simp, by simp⟩
    · simp at h4
      exact ⟨rows, n, .inr ⟨o, cap, .ro, h4, h8, fun r hr => (h9 r hr).1⟩, by omega, fun r hr => (h9 r hr).2⟩

theorem TypedA.int {P : Program} {st : LState} {t : TypeId} {k : IntKind} {x : LV} (h : TypedA P st t x) (ht : P.underlying t = some (.int k)) : ∃ m, x = .int k m ∧ (Lit.int k m).wf = true := by
  obtain ⟨n, cs, _, h2, h3⟩ := h
  rw [h2 (by simp [isStructT, ht])] at h3
  cases n with
  | zero => exact h3.elim
  | succ n => unfold Typed at h3; rw [ht] at h3; simpa using h3

theorem TypedA.bool {P : Program} {st : LState} {t : TypeId} {x : LV} (h : TypedA P st t x) (ht : P.underlying t = some .bool) : ∃ b, x = .bool b := by
  obtain ⟨n, cs, _, h2, h3⟩ := h
  rw [h2 (by simp [isStructT, ht])] at h3
  cases n with
  | zero => exact h3.elim
  | succ n => unfold Typed at h3; rw [ht] at h3; simpa using h3

theorem TypedA.str {P : Program} {st : LState} {t : TypeId} {x : LV} (h : TypedA P st t x) (ht : P.underlying t = some .string) : ∃ s, x = .str s ∧ s.length ≤ maxLen := by
  obtain ⟨n, cs, _, h2, h3⟩ := h
  rw [h2 (by simp [isStructT, ht])] at h3
  cases n with
  | zero => exact h3.elim
  | succ n => unfold Typed at h3; rw [ht] at h3; simpa using h3

end Go.CP
