/- The order of addresses; sorted lists without twins: plain laws. -/
import Derived.Test.YtkjmpjaahgficaaDoorBoS
namespace Go.Proofs.YtkjmpjaahgficaaDoor
open Go Go.CO

theorem bl_irrefl : ∀ x : List UInt8, Op.bytesLess x x = false
  | [] => rfl
  | a :: x => by simp [Op.bytesLess, bl_irrefl x]

theorem bl_trans : ∀ {x y z : List UInt8}, Op.bytesLess x y = true → Op.bytesLess y z = true → Op.bytesLess x z = true
  | _, _, [], _, h => by simp [Op.bytesLess] at h
  | _, [], _ :: _, h, _ => by simp [Op.bytesLess] at h
  | [], _ :: _, _ :: _, _, _ => rfl
  | a :: x, b :: y, c :: z, h, k => by
    simp only [Op.bytesLess, Bool.or_eq_true, decide_eq_true_eq, Bool.and_eq_true, beq_iff_eq, UInt8.lt_iff_toNat_lt] at h k ⊢
    rcases h with h | ⟨rfl, h⟩
    · rcases k with k | ⟨rfl, k⟩
      · left; omega
      · left; exact h
    · rcases k with k | ⟨rfl, k⟩
      · left; exact k
      · right; exact ⟨rfl, bl_trans h k⟩

theorem bl_tri : ∀ {x y : List UInt8}, Op.bytesLess x y = false → Op.bytesLess y x = false → x = y
  | [], [], _, _ => rfl
  | [], _ :: _, h, _ => by simp [Op.bytesLess] at h
  | _ :: _, [], _, h => by simp [Op.bytesLess] at h
  | a :: x, b :: y, h, k => by
    simp only [Op.bytesLess, Bool.or_eq_false_iff, decide_eq_false_iff_not, Bool.and_eq_false_iff, UInt8.lt_iff_toNat_lt] at h k
    have e : a = b := UInt8.toNat_inj.1 (by omega)
    subst e
    simp only [beq_self_eq_true, Bool.true_eq_false, false_or] at h k
    rw [bl_tri h.2 k.2]

theorem bl_asymm {x y : List UInt8} (h : Op.bytesLess x y = true) : Op.bytesLess y x = false := by
  rw [Bool.eq_false_iff]
  intro k
  have := bl_trans h k
  rw [bl_irrefl] at this; cases this

/-- cmp.Compare of texts -/
def cmpS (x y : List UInt8) : Int := if Op.bytesLess x y then -1 else if (!(Op.bytesLess x y || x == y)) then 1 else 0

theorem cmpS_eq {x : List UInt8} : cmpS x x = 0 := by simp [cmpS, bl_irrefl]
theorem cmpS_ne {x y : List UInt8} (h : x ≠ y) : cmpS x y = if Op.bytesLess x y then -1 else 1 := by
  unfold cmpS
  split
  · rfl
  · rename_i e
    rw [if_pos (by simp [e, h])]

def cmpI (x y : Int) : Int := if x < y then -1 else if x > y then 1 else 0

/-- Is one ahead of another one? -/
def lessAd (a b : Ad) : Bool := if a.p ≠ b.p then Op.bytesLess a.p b.p else if a.k ≠ b.k then Op.bytesLess a.k b.k else if a.n ≠ b.n then Op.bytesLess a.n b.n else decide (a.ix < b.ix)

/-- slices.Compare of the names -/
def cmpW (a b : Ad) : Int := if a.p ≠ b.p then cmpS a.p b.p else if a.k ≠ b.k then cmpS a.k b.k else if a.n ≠ b.n then cmpS a.n b.n else 0

def cmpAd (a b : Ad) : Int := if cmpW a b ≠ 0 then cmpW a b else cmpI a.ix b.ix

theorem cmp_less (a b : Ad) : cmpAd a b = if lessAd b a then 1 else if lessAd a b then -1 else 0 := by
  have key : ∀ {x y : List UInt8}, x ≠ y → cmpS x y = (if Op.bytesLess y x then 1 else if Op.bytesLess x y then -1 else 0) ∧ cmpS x y ≠ 0 := by
    intro x y h
    rw [cmpS_ne h]
    by_cases e : Op.bytesLess x y = true
    · rw [bl_asymm e, e]; simp
    · have e : Op.bytesLess x y = false := by simpa using e
      have e2 : Op.bytesLess y x = true := by
        by_cases k : Op.bytesLess y x = true
        · exact k
        · exact absurd (bl_tri e (by simpa using k)) h
      rw [e, e2]; simp
  unfold cmpAd cmpW lessAd
  by_cases h1 : a.p = b.p
  · by_cases h2 : a.k = b.k
    · by_cases h3 : a.n = b.n
      · simp only [h1, h2, h3, ne_eq, not_true_eq_false, if_false, cmpI, decide_eq_true_eq]
        rcases Int.lt_trichotomy a.ix b.ix with h | h | h
        · rw [if_pos h, if_neg (by omega), if_pos h]
        · rw [if_neg (by omega), if_neg (by omega), if_neg (by omega), if_neg (by omega)]
        · rw [if_neg (by omega), if_pos h, if_pos h]
      · obtain ⟨k1, k2⟩ := key h3
        simp only [h1, h2, h3, Ne.symm h3, ne_eq, not_true_eq_false, not_false_eq_true, if_false, if_true]
        rw [if_pos k2, k1]
    · obtain ⟨k1, k2⟩ := key h2
      simp only [h1, h2, Ne.symm h2, ne_eq, not_true_eq_false, not_false_eq_true, if_false, if_true]
      rw [if_pos k2, k1]
  · obtain ⟨k1, k2⟩ := key h1
    simp only [h1, Ne.symm h1, ne_eq, not_false_eq_true, if_true]
    rw [if_pos k2, k1]

theorem less_irrefl (a : Ad) : lessAd a a = false := by simp [lessAd]

theorem less_tri {a b : Ad} (h : lessAd a b = false) (k : lessAd b a = false) : a = b := by
  obtain ⟨p, q, n, i⟩ := a
  obtain ⟨p', q', n', i'⟩ := b
  unfold lessAd at h k
  simp only at h k
  by_cases h1 : p = p'
  · by_cases h2 : q = q'
    · by_cases h3 : n = n'
      · subst h1; subst h2; subst h3
        simp at h k
        congr; omega
      · rw [if_neg (by simpa using h1), if_neg (by simpa using h2), if_pos h3] at h
        rw [if_neg (by simpa using h1.symm), if_neg (by simpa using h2.symm), if_pos (Ne.symm h3)] at k
        exact absurd (bl_tri h k) h3
    · rw [if_neg (by simpa using h1), if_pos h2] at h
      rw [if_neg (by simpa using h1.symm), if_pos (Ne.symm h2)] at k
      exact absurd (bl_tri h k) h2
  · rw [if_pos h1] at h
    rw [if_pos (Ne.symm h1)] at k
    exact absurd (bl_tri h k) h1

theorem less_trans {a b c : Ad} (h : lessAd a b = true) (k : lessAd b c = true) : lessAd a c = true := by
  unfold lessAd at h k ⊢
  by_cases h1 : a.p = b.p
  · by_cases g1 : b.p = c.p
    · rw [if_neg (by simp [h1])] at h
      rw [if_neg (by simp [g1])] at k
      rw [if_neg (by simp [h1, g1])]
      by_cases h2 : a.k = b.k
      · by_cases g2 : b.k = c.k
        · rw [if_neg (by simp [h2])] at h
          rw [if_neg (by simp [g2])] at k
          rw [if_neg (by simp [h2, g2])]
          by_cases h3 : a.n = b.n
          · by_cases g3 : b.n = c.n
            · rw [if_neg (by simp [h3])] at h
              rw [if_neg (by simp [g3])] at k
              rw [if_neg (by simp [h3, g3])]
              simp only [decide_eq_true_eq] at h k ⊢; omega
            · rw [if_pos g3] at k
              rw [if_pos (by rw [h3]; exact g3), h3]; exact k
          · rw [if_pos h3] at h
            by_cases g3 : b.n = c.n
            · rw [if_pos (by rw [← g3]; exact h3), ← g3]; exact h
            · rw [if_pos g3] at k
              have := bl_trans h k
              rw [if_pos (by intro e; rw [e, bl_irrefl] at this; cases this)]; exact this
        · rw [if_pos g2] at k
          rw [if_pos (by rw [h2]; exact g2), h2]; exact k
      · rw [if_pos h2] at h
        by_cases g2 : b.k = c.k
        · rw [if_pos (by rw [← g2]; exact h2), ← g2]; exact h
        · rw [if_pos g2] at k
          have := bl_trans h k
          rw [if_pos (by intro e; rw [e, bl_irrefl] at this; cases this)]; exact this
    · rw [if_pos g1] at k
      rw [if_pos (by rw [h1]; exact g1), h1]; exact k
  · rw [if_pos h1] at h
    by_cases g1 : b.p = c.p
    · rw [if_pos (by rw [← g1]; exact h1), ← g1]; exact h
    · rw [if_pos g1] at k
      have := bl_trans h k
      rw [if_pos (by intro e; rw [e, bl_irrefl] at this; cases this)]; exact this

theorem less_asymm {a b : Ad} (h : lessAd a b = true) : lessAd b a = false := by
  rw [Bool.eq_false_iff]
  intro k
  have := less_trans h k
  rw [less_irrefl] at this; cases this

/-! ### sorted; none twice -/

def leAd (a b : Ad) : Bool := !lessAd b a
def msort (l : List Ad) : List Ad := l.mergeSort leAd

theorem le_trans' (a b c : Ad) (h : leAd a b = true) (k : leAd b c = true) : leAd a c = true := by
  unfold leAd at *
  rw [Bool.not_eq_true'] at *
  rw [Bool.eq_false_iff]
  intro e
  -- c < a; a ≤ b; b ≤ c
  by_cases hab : lessAd a b = true
  · have := less_trans e hab
    rw [this] at k; cases k
  · have : a = b := less_tri (by simpa using hab) h
    subst this
    rw [e] at k; cases k

theorem le_total' (a b : Ad) : (leAd a b || leAd b a) = true := by
  unfold leAd
  cases h : lessAd b a with
  | false => rfl
  | true => rw [less_asymm h]; rfl

theorem msort_perm (l : List Ad) : (msort l).Perm l := List.mergeSort_perm l leAd
theorem msort_sorted (l : List Ad) : (msort l).Pairwise fun a b => leAd a b = true := List.pairwise_mergeSort le_trans' le_total' l

instance : DecidableEq Ad := fun a b => by
  obtain ⟨p, q, n, i⟩ := a
  obtain ⟨p', q', n', i'⟩ := b
  exact if h : p = p' ∧ q = q' ∧ n = n' ∧ i = i' then .isTrue (by obtain ⟨rfl, rfl, rfl, rfl⟩ := h; rfl) else .isFalse (by intro e; cases e; exact h ⟨rfl, rfl, rfl, rfl⟩)

/-- What is left behind one, without its twins. -/
def dd (a : Ad) : List Ad → List Ad
  | [] => []
  | x :: r => if x = a then dd x r else x :: dd x r
def compactB : List Ad → List Ad
  | [] => []
  | a :: r => a :: dd a r

theorem dd_mem {x : Ad} : ∀ {a : Ad} {l : List Ad}, x ∈ a :: dd a l ↔ x ∈ a :: l
  | a, [] => by simp [dd]
  | a, b :: r => by
    unfold dd
    have ih := @dd_mem x b r
    split
    · rename_i e
      subst e
      simp only [List.mem_cons] at ih ⊢
      constructor
      · intro h; rcases h with h | h
        · exact .inl h
        · exact .inr (ih.1 (.inr h))
      · rintro (h | h | h)
        · exact .inl h
        · exact .inl h
        · exact ih.2 (.inr h)
    · simp only [List.mem_cons] at ih ⊢
      constructor
      · rintro (h | h | h)
        · exact .inl h
        · exact .inr (.inl h)
        · exact .inr (ih.1 (.inr h))
      · rintro (h | h | h)
        · exact .inl h
        · exact .inr (.inl h)
        · exact .inr (ih.2 (.inr h))

theorem compact_mem {x : Ad} : ∀ {l : List Ad}, x ∈ compactB l ↔ x ∈ l
  | [] => by simp [compactB]
  | a :: r => dd_mem

theorem dd_rising : ∀ {a : Ad} {l : List Ad}, (a :: l).Pairwise (fun a b => leAd a b = true) → (a :: dd a l).Pairwise fun a b => lessAd a b = true
  | a, [], _ => by simp [dd]
  | a, b :: r, h => by
    have h1 := List.pairwise_cons.1 h
    have ih := dd_rising h1.2
    unfold dd
    split
    · rename_i e
      subst e; exact ih
    · rename_i e
      have hab : lessAd a b = true := by
        have := h1.1 b (by simp)
        unfold leAd at this
        by_cases k : lessAd a b = true
        · exact k
        · exact absurd (less_tri (by simpa using k) (by simpa using this)).symm e
      refine List.pairwise_cons.2 ⟨fun x hx => ?_, ih⟩
      rcases List.mem_cons.1 hx with rfl | hx
      · exact hab
      · exact less_trans hab ((List.pairwise_cons.1 ih).1 x hx)

theorem compact_rising : ∀ {l : List Ad}, l.Pairwise (fun a b => leAd a b = true) → (compactB l).Pairwise fun a b => lessAd a b = true
  | [], _ => by simp [compactB]
  | _ :: _, h => dd_rising h

/-- what rises stays -/
theorem rising_sorted {l : List Ad} (h : l.Pairwise fun a b => lessAd a b = true) : msort l = l :=
  List.mergeSort_of_pairwise (h.imp fun {a b} h => by unfold leAd; rw [less_asymm h]; rfl)

theorem dd_same : ∀ {a : Ad} {l : List Ad}, (a :: l).Pairwise (fun a b => lessAd a b = true) → dd a l = l
  | a, [], _ => rfl
  | a, b :: r, h => by
    have h1 := List.pairwise_cons.1 h
    unfold dd
    rw [if_neg, dd_same h1.2]
    intro e
    have := h1.1 b (by simp)
    rw [e, less_irrefl] at this; cases this

theorem rising_compact : ∀ {l : List Ad}, l.Pairwise (fun a b => lessAd a b = true) → compactB l = l
  | [], _ => rfl
  | a :: r, h => by rw [compactB, dd_same h]

end Go.Proofs.YtkjmpjaahgficaaDoor
