/- Texts without secrets: plain laws. -/
import Derived.Lib.IndexMore
namespace Go.Proofs.Ytkjmpjaahgficaa
open Go

/-- How long the longest secret is that a text begins with; m: so long is one that came before. -/
def mostB : List (List UInt8) → List UInt8 → Nat → Nat
  | [], _, m => m
  | s :: l, t, m => mostB l t (if 4 ≤ s.length ∧ s.isPrefixOf t = true then max m s.length else m)

/-- A text without its secrets. -/
def cleanB (l : List (List UInt8)) : Nat → List UInt8 → List UInt8
  | 0, _ => []
  | _ + 1, [] => []
  | n + 1, c :: t => if 0 < mostB l (c :: t) 0 then [42, 42, 42] ++ cleanB l n ((c :: t).drop (mostB l (c :: t) 0)) else c :: cleanB l n t

/-- Does a secret stand in a text? -/
def leaksB (l : List (List UInt8)) (t : List UInt8) : Bool := l.any fun s => decide (4 ≤ s.length) && Lib.contains t s

theorem most_ge {t : List UInt8} : ∀ {l : List (List UInt8)} {m : Nat}, m ≤ mostB l t m
  | [], m => Nat.le_refl _
  | s :: l, m => by
    unfold mostB
    split
    · exact Nat.le_trans (Nat.le_max_left _ _) most_ge
    · exact most_ge

theorem most_of {t s : List UInt8} : ∀ {l : List (List UInt8)} {m : Nat}, s ∈ l → 4 ≤ s.length → s.isPrefixOf t = true → s.length ≤ mostB l t m
  | [], m, h, _, _ => by simp at h
  | a :: l, m, h, h4, hp => by
    unfold mostB
    rcases List.mem_cons.1 h with rfl | h
    · rw [if_pos ⟨h4, hp⟩]
      exact Nat.le_trans (Nat.le_max_right _ _) most_ge
    · exact most_of h h4 hp

/-- it is some secret's, or none is -/
theorem most_some {t : List UInt8} : ∀ {l : List (List UInt8)} {m : Nat}, mostB l t m = m ∨ ∃ s, s ∈ l ∧ 4 ≤ s.length ∧ s.isPrefixOf t = true ∧ mostB l t m = s.length
  | [], m => .inl rfl
  | a :: l, m => by
    unfold mostB
    split
    · rename_i h
      rcases @most_some t l (max m a.length) with e | ⟨s, h1, h2, h3, h4⟩
      · rw [e]
        rcases Nat.le_total m a.length with k | k
        · right; exact ⟨a, by simp, h.1, h.2, by omega⟩
        · left; omega
      · right; exact ⟨s, by simp [h1], h2, h3, h4⟩
    · rcases @most_some t l m with e | ⟨s, h1, h2, h3, h4⟩
      · exact .inl e
      · right; exact ⟨s, by simp [h1], h2, h3, h4⟩

theorem prefix_len {s t : List UInt8} (h : s.isPrefixOf t = true) : s.length ≤ t.length := (List.isPrefixOf_iff_prefix.1 h).length_le

theorem most_le {l : List (List UInt8)} {t : List UInt8} : mostB l t 0 ≤ t.length := by
  rcases @most_some t l 0 with e | ⟨s, _, _, h3, h4⟩
  · omega
  · rw [h4]; exact prefix_len h3

theorem clean_more {l : List (List UInt8)} : ∀ {n k : Nat} {t : List UInt8}, t.length ≤ n → t.length ≤ k → cleanB l n t = cleanB l k t
  | 0, k, t, h, _ => by
    have : t = [] := List.eq_nil_of_length_eq_zero (by omega)
    subst this
    cases k <;> rfl
  | n + 1, 0, t, _, h => by
    have : t = [] := List.eq_nil_of_length_eq_zero (by omega)
    subst this; rfl
  | n + 1, k + 1, [], _, _ => rfl
  | n + 1, k + 1, c :: t, h, h' => by
    simp only [List.length_cons] at h h'
    unfold cleanB
    split
    · rw [clean_more (n := n) (k := k)] <;> simp only [List.length_drop, List.length_cons] <;> omega
    · rw [clean_more (n := n) (k := k) (by omega) (by omega)]

theorem contains_iff {s t : List UInt8} : Lib.contains t s = true ↔ ∃ i, i ≤ t.length ∧ s.isPrefixOf (t.drop i) = true := by
  unfold Lib.contains
  rw [decide_eq_true_eq]
  rcases Lib.index_spec t s with ⟨h1, h2⟩ | ⟨i, h1, h2, h3, _⟩
  · constructor
    · intro h; omega
    · rintro ⟨i, hi, h⟩
      have := h2 i hi
      unfold Lib.occAt at this
      rw [this] at h; cases h
  · exact ⟨fun _ => ⟨i, h2, h3⟩, fun _ => by omega⟩

/-- it leaks just if some place begins with a secret -/
theorem leaks_iff {l : List (List UInt8)} {t : List UInt8} : leaksB l t = true ↔ ∃ i, i < t.length ∧ 0 < mostB l (t.drop i) 0 := by
  unfold leaksB
  rw [List.any_eq_true]
  constructor
  · rintro ⟨s, hs, h⟩
    simp only [Bool.and_eq_true, decide_eq_true_eq] at h
    obtain ⟨i, hi, hp⟩ := contains_iff.1 h.2
    have := prefix_len hp
    simp only [List.length_drop] at this
    exact ⟨i, by omega, by have := most_of (m := 0) hs h.1 hp; omega⟩
  · rintro ⟨i, hi, h⟩
    rcases @most_some (t.drop i) l 0 with e | ⟨s, h1, h2, h3, _⟩
    · omega
    · exact ⟨s, h1, by simp only [Bool.and_eq_true, decide_eq_true_eq]; exact ⟨h2, contains_iff.2 ⟨i, by omega, h3⟩⟩⟩

/-- behind the stars' own: a text without stars that a cleaned text begins with, stood there before -/
theorem clean_prefix {l : List (List UInt8)} : ∀ {n : Nat} {t u : List UInt8}, (∀ c, c ∈ u → c ≠ 42) → u.isPrefixOf (cleanB l n t) = true → u.isPrefixOf t = true
  | n, t, [], _, _ => by simp
  | 0, t, a :: u, _, h => by simp [cleanB] at h
  | n + 1, [], a :: u, _, h => by simp [cleanB] at h
  | n + 1, c :: t, a :: u, hu, h => by
    unfold cleanB at h
    split at h
    · have h1 : a = 42 := by
        simp only [List.cons_append, List.isPrefixOf, Bool.and_eq_true, beq_iff_eq] at h
        exact h.1
      exact absurd h1 (hu a (by simp))
    · simp only [List.isPrefixOf, Bool.and_eq_true, beq_iff_eq] at h ⊢
      exact ⟨h.1, clean_prefix (n := n) (fun c hc => hu c (by simp [hc])) h.2⟩

/-- no secret without stars begins anywhere in a cleaned text -/
theorem clean_no {l : List (List UInt8)} {s : List UInt8} (hs : s ∈ l) (h4 : 4 ≤ s.length) (hst : ∀ c, c ∈ s → c ≠ 42) : ∀ {n : Nat} {t : List UInt8} {i : Nat}, s.isPrefixOf ((cleanB l n t).drop i) = false
  | 0, t, i => by
    rw [Bool.eq_false_iff]
    intro h
    have := prefix_len h
    simp only [cleanB, List.drop_nil, List.length_nil] at this; omega
  | n + 1, [], i => by
    rw [Bool.eq_false_iff]
    intro h
    have := prefix_len h
    simp only [cleanB, List.drop_nil, List.length_nil] at this; omega
  | n + 1, c :: t, i => by
    have ne : s ≠ [] := by rintro rfl; simp at h4
    unfold cleanB
    split
    · -- three stars, then the rest
      match i with
      | 0 | 1 | 2 =>
        rw [Bool.eq_false_iff]
        intro h
        obtain ⟨a, u, rfl⟩ := List.exists_cons_of_ne_nil ne
        have : a = 42 := by
          simp only [List.drop, List.cons_append, List.isPrefixOf, Bool.and_eq_true, beq_iff_eq] at h
          exact h.1
        exact hst a (by simp) this
      | i + 3 => exact clean_no hs h4 hst
    · rename_i hm
      match i with
      | 0 =>
        rw [Bool.eq_false_iff]
        intro h
        have h2 : s.isPrefixOf (cleanB l (n + 1) (c :: t)) = true := by
          unfold cleanB
          rw [if_neg hm]; exact h
        have := most_of (m := 0) hs h4 (clean_prefix hst h2)
        omega
      | i + 1 => exact clean_no hs h4 hst

/-- a cleaned text leaks nothing, if no secret has a star -/
theorem clean_leaks {l : List (List UInt8)} {n : Nat} {t : List UInt8} (h : ∀ s, s ∈ l → ∀ c, c ∈ s → c ≠ 42) : leaksB l (cleanB l n t) = false := by
  rw [Bool.eq_false_iff]
  intro hl
  unfold leaksB at hl
  rw [List.any_eq_true] at hl
  obtain ⟨s, hs, hh⟩ := hl
  simp only [Bool.and_eq_true, decide_eq_true_eq] at hh
  obtain ⟨i, _, hp⟩ := contains_iff.1 hh.2
  rw [clean_no hs hh.1 (h s hs)] at hp
  cases hp

end Go.Proofs.Ytkjmpjaahgficaa
