/- What a text's address is, and its text: plain laws. -/
import Derived.Test.YtkjmpjaahgficaaDoorAnR
import Derived.Lib.ItoaNum
import Derived.Lib.Atoi
import Derived.Lib.Join
namespace Go.Proofs.YtkjmpjaahgficaaDoor
open Go Go.CN

/-- What reading comes to: the place of the fault, or an address. -/
inductive PR where
  | bad (at_ : Nat)
  | ok (a : Ad)

def word (s : List UInt8) (a : Nat) : Nat × Bool := runN okAt 20 0 (s.drop a)
def digs (s : List UInt8) (a : Nat) : Nat × Bool := runN (fun _ => isDig) 3 0 (s.drop a)
def cut (s : List UInt8) (a n : Nat) : List UInt8 := (s.drop a).take n

/-- The number of some digits. -/
def numB : List UInt8 → Nat := List.foldl (fun n c => 10 * n + (c.toNat - 48)) 0

def parseEnd (s : List UInt8) (a : Nat) (x : Ad) : PR := if a < s.length then .bad a else .ok x

def parseIx (s : List UInt8) (p k n : List UInt8) (a : Nat) : PR :=
  if (digs s a).2 then .bad (a + (digs s a).1)
  else if s[a]? = some 48 ∧ 1 < (digs s a).1 then .bad a
  else if s[a + (digs s a).1]? = some 93 then parseEnd s (a + (digs s a).1 + 1) ⟨p, k, n, numB (cut s a (digs s a).1)⟩
  else .bad (a + (digs s a).1)

def parseTail (s : List UInt8) (p k n : List UInt8) (a : Nat) : PR :=
  if s[a]? = some 91 then parseIx s p k n (a + 1) else parseEnd s a ⟨p, k, n, -1⟩

def parse3 (s : List UInt8) (p k : List UInt8) (a : Nat) : PR :=
  if (word s a).2 then .bad (a + (word s a).1) else parseTail s p k (cut s a (word s a).1) (a + (word s a).1)

def parse2 (s : List UInt8) (p : List UInt8) (a : Nat) : PR :=
  if (word s a).2 then .bad (a + (word s a).1)
  else if s[a + (word s a).1]? = some 46 then parse3 s p (cut s a (word s a).1) (a + (word s a).1 + 1) else .bad (a + (word s a).1)

def parseB (s : List UInt8) : PR :=
  if (word s 0).2 then .bad (0 + (word s 0).1)
  else if s[0 + (word s 0).1]? = some 46 then parse2 s (cut s 0 (word s 0).1) (0 + (word s 0).1 + 1) else .bad (0 + (word s 0).1)

/-- An address's text. -/
def printB (a : Ad) : List UInt8 :=
  if a.right then a.p ++ [46] ++ a.k ++ [46] ++ a.n ++ (if a.ix = -1 then [] else [91] ++ Lib.itoa a.ix ++ [93]) else []

/-! ### how much is read -/

theorem runN_le {p : Nat → UInt8 → Bool} {m : Nat} : ∀ {l : List UInt8} {i : Nat}, i ≤ (runN p m i l).1 ∧ (runN p m i l).1 ≤ i + l.length
  | [], i => by simp [runN]
  | c :: l, i => by
    unfold runN
    split
    · split
      · simp
      · have := @runN_le p m l (i + 1)
        simp only [List.length_cons]
        omega
    · simp

theorem runN_most {p : Nat → UInt8 → Bool} {m : Nat} : ∀ {l : List UInt8} {i : Nat}, i ≤ m → (runN p m i l).1 ≤ m
  | [], i, h => by simpa [runN] using h
  | c :: l, i, h => by
    unfold runN
    split
    · split
      · exact h
      · exact runN_most (by omega)
    · exact h

theorem runN_pos {p : Nat → UInt8 → Bool} {m : Nat} : ∀ {l : List UInt8} {i : Nat}, (runN p m i l).2 = false → 0 < (runN p m i l).1
  | [], i, h => by simp [runN] at h ⊢; omega
  | c :: l, i, h => by
    unfold runN at h ⊢
    split
    · rename_i h1
      rw [if_pos h1] at h
      split
      · rename_i h2; rw [if_pos h2] at h; simp at h
      · rename_i h2; rw [if_neg h2] at h; exact runN_pos h
    · rename_i h1
      rw [if_neg h1] at h
      simp at h ⊢; omega

/-- each byte that was read may stand there -/
theorem runN_all {p : Nat → UInt8 → Bool} {m : Nat} : ∀ {l : List UInt8} {i j : Nat} {c : UInt8}, l[j]? = some c → i + j < (runN p m i l).1 → p (i + j) c = true
  | [], i, j, c, h, _ => by simp at h
  | d :: l, i, j, c, h, hj => by
    unfold runN at hj
    split at hj
    · rename_i h1
      cases j with
      | zero => simp at h; subst h; simpa using h1
      | succ j =>
        split at hj
        · omega
        · have := runN_all (p := p) (m := m) (l := l) (i := i + 1) (j := j) (c := c) (by simpa using h) (by omega)
          rwa [show i + 1 + j = i + (j + 1) by omega] at this
    · omega

/-- all of a stretch is read, if it may be, and what follows may not -/
theorem runN_app {p : Nat → UInt8 → Bool} {m : Nat} {r : List UInt8} : ∀ {l : List UInt8} {i : Nat}, (∀ j c, l[j]? = some c → p (i + j) c = true) → i + l.length ≤ m → (∀ c, r[0]? = some c → p (i + l.length) c = false) → 0 < i + l.length →
    runN p m i (l ++ r) = (i + l.length, false)
  | [], i, _, _, hr, h0 => by
    have h0 : i ≠ 0 := by simp at h0; omega
    cases r with
    | nil => simp [runN]; omega
    | cons c r =>
      have := hr c rfl
      simp only [List.length_nil, Nat.add_zero] at this
      simp [runN, this]; omega
  | c :: l, i, h, hm, hr, h0 => by
    have h1 : p i c = true := by simpa using h 0 c rfl
    simp only [List.cons_append, runN, h1, if_true]
    simp only [List.length_cons] at hm hr h0 ⊢
    rw [if_neg (by omega), runN_app (l := l) (i := i + 1) (fun j d hd => by
      have := h (j + 1) d (by simpa using hd)
      rwa [show i + (j + 1) = i + 1 + j by omega] at this) (by omega) (fun d hd => by
      have := hr d hd
      rwa [show i + (l.length + 1) = i + 1 + l.length by omega] at this) (by omega)]
    rw [show i + 1 + l.length = i + (l.length + 1) by omega]

theorem word_le {s : List UInt8} {a : Nat} (h : a ≤ s.length) : a + (word s a).1 ≤ s.length := by
  have := (@runN_le okAt 20 (s.drop a) 0).2
  simp only [List.length_drop] at this
  unfold word; omega

theorem digs_le {s : List UInt8} {a : Nat} (h : a ≤ s.length) : a + (digs s a).1 ≤ s.length := by
  have := (@runN_le (fun _ => isDig) 3 (s.drop a) 0).2
  simp only [List.length_drop] at this
  unfold digs; omega

/-! ### names -/

theorem named_iff {l : List UInt8} : namedB l = true ↔ (∀ j c, l[j]? = some c → okAt j c = true) ∧ 0 < l.length ∧ l.length ≤ 20 := by
  have h : ∀ (l : List UInt8) (i : Nat), namedFrom i l = true ↔ ∀ j c, l[j]? = some c → okAt (i + j) c = true := by
    intro l
    induction l with
    | nil => intro i; simp [namedFrom]
    | cons d l ih =>
      intro i
      simp only [namedFrom, Bool.and_eq_true, ih]
      refine ⟨fun ⟨h1, h2⟩ j c hc => ?_, fun h => ⟨h 0 d rfl, fun j c hc => ?_⟩⟩
      · cases j with
        | zero => simp at hc; subst hc; exact h1
        | succ j => have := h2 j c (by simpa using hc); rwa [show i + 1 + j = i + (j + 1) by omega] at this
      · have := h (j + 1) c (by simpa using hc)
        rwa [show i + (j + 1) = i + 1 + j by omega] at this
  simp only [namedB, Bool.and_eq_true, h, decide_eq_true_eq, Nat.zero_add]

theorem word_named {s : List UInt8} {a : Nat} (ha : a ≤ s.length) (h : (word s a).2 = false) : namedB (cut s a (word s a).1) = true ∧ (cut s a (word s a).1).length = (word s a).1 := by
  have hl : (cut s a (word s a).1).length = (word s a).1 := by
    have := word_le ha
    simp only [cut, List.length_take, List.length_drop]; omega
  refine ⟨named_iff.2 ⟨fun j c hc => ?_, ?_, ?_⟩, hl⟩
  · have hj : j < (word s a).1 := by
      have := (List.getElem?_eq_some_iff.1 hc).1
      omega
    have hc' : (s.drop a)[j]? = some c := by
      unfold cut at hc
      rwa [List.getElem?_take_of_lt hj] at hc
    have := runN_all (p := okAt) (m := 20) (i := 0) hc' (by simpa [word] using hj)
    simpa using this
  · rw [hl]; exact runN_pos h
  · rw [hl]; exact runN_most (by omega)

theorem word_app {l r : List UInt8} (h : namedB l = true) (hr : ∀ c, r[0]? = some c → c = 46 ∨ c = 91) : runN okAt 20 0 (l ++ r) = (l.length, false) := by
  obtain ⟨h1, h2, h3⟩ := named_iff.1 h
  have := runN_app (p := okAt) (m := 20) (r := r) (l := l) (i := 0) (by simpa using h1) (by omega) (fun c hc => by
    rcases hr c hc with rfl | rfl <;> simp [okAt]) (by omega)
  simpa using this

/-! ### numbers -/

theorem itoa_nat {n : Nat} : Lib.itoa (n : Nat) = Lib.decDigits n := by
  unfold Lib.itoa
  rw [if_neg (by omega), Int.toNat_natCast]

theorem dec_small {u : Nat} (h : u < 10) : Lib.decDigits u = [UInt8.ofNat (48 + u)] := by rw [Lib.decDigits, dif_pos h]
theorem dec_step {u : Nat} (h : ¬ u < 10) : Lib.decDigits u = Lib.decDigits (u / 10) ++ [UInt8.ofNat (48 + u % 10)] := by rw [Lib.decDigits, dif_neg h]

theorem dig_back {c : UInt8} (h : isDig c = true) : UInt8.ofNat (48 + (c.toNat - 48)) = c ∧ c.toNat - 48 < 10 ∧ (c = 48 ↔ c.toNat - 48 = 0) := by
  simp only [isDig, Bool.and_eq_true, decide_eq_true_eq] at h
  refine ⟨?_, by omega, ?_⟩
  · rw [show 48 + (c.toNat - 48) = c.toNat by omega]; simp
  · constructor
    · rintro rfl; rfl
    · intro e; exact UInt8.toNat_inj.1 (by simp; omega)

/-- digits and their number -/
theorem dec_num {l : List UInt8} (hd : ∀ c, c ∈ l → isDig c = true) (h0 : 0 < l.length) (h3 : l.length ≤ 3) : (Lib.decDigits (numB l) = l ↔ ¬ (l[0]? = some 48 ∧ 1 < l.length)) ∧ numB l ≤ 999 := by
  match l, h0, h3, hd with
  | [a], _, _, hd =>
    obtain ⟨a1, a2, a3⟩ := dig_back (hd a (by simp))
    have e : numB [a] = a.toNat - 48 := by simp [numB]
    rw [e]
    refine ⟨?_, by omega⟩
    rw [dec_small a2, a1]; simp
  | [a, b], _, _, hd =>
    obtain ⟨a1, a2, a3⟩ := dig_back (hd a (by simp))
    obtain ⟨b1, b2, b3⟩ := dig_back (hd b (by simp))
    have e : numB [a, b] = 10 * (a.toNat - 48) + (b.toNat - 48) := by simp [numB]
    rw [e]
    refine ⟨?_, by omega⟩
    by_cases ha : a.toNat - 48 = 0
    · rw [ha, Nat.mul_zero, Nat.zero_add, dec_small b2]
      simp [a3.2 ha]
    · rw [dec_step (by omega), show (10 * (a.toNat - 48) + (b.toNat - 48)) / 10 = a.toNat - 48 by omega, show (10 * (a.toNat - 48) + (b.toNat - 48)) % 10 = b.toNat - 48 by omega, dec_small a2, a1, b1]
      simp [mt a3.1 ha]
  | [a, b, c], _, _, hd =>
    obtain ⟨a1, a2, a3⟩ := dig_back (hd a (by simp))
    obtain ⟨b1, b2, b3⟩ := dig_back (hd b (by simp))
    obtain ⟨c1, c2, c3⟩ := dig_back (hd c (by simp))
    have e : numB [a, b, c] = 10 * (10 * (a.toNat - 48) + (b.toNat - 48)) + (c.toNat - 48) := by simp [numB]
    rw [e]
    refine ⟨?_, by omega⟩
    by_cases ha : a.toNat - 48 = 0
    · rw [ha, Nat.mul_zero, Nat.zero_add]
      by_cases hb : b.toNat - 48 = 0
      · rw [hb, Nat.mul_zero, Nat.zero_add, dec_small c2]
        simp [a3.2 ha]
      · rw [dec_step (by omega), show (10 * (b.toNat - 48) + (c.toNat - 48)) / 10 = b.toNat - 48 by omega, show (10 * (b.toNat - 48) + (c.toNat - 48)) % 10 = c.toNat - 48 by omega, dec_small b2]
        simp [a3.2 ha]
    · rw [dec_step (by omega), show (10 * (10 * (a.toNat - 48) + (b.toNat - 48)) + (c.toNat - 48)) / 10 = 10 * (a.toNat - 48) + (b.toNat - 48) by omega,
        show (10 * (10 * (a.toNat - 48) + (b.toNat - 48)) + (c.toNat - 48)) % 10 = c.toNat - 48 by omega, dec_step (by omega),
        show (10 * (a.toNat - 48) + (b.toNat - 48)) / 10 = a.toNat - 48 by omega, show (10 * (a.toNat - 48) + (b.toNat - 48)) % 10 = b.toNat - 48 by omega, dec_small a2, a1, b1, c1]
      simp [mt a3.1 ha]

/-- a number's digits -/
theorem num_dec {n : Nat} (h : n ≤ 999) : (∀ c, c ∈ Lib.decDigits n → isDig c = true) ∧ 0 < (Lib.decDigits n).length ∧ (Lib.decDigits n).length ≤ 3 ∧ numB (Lib.decDigits n) = n := by
  have dg : ∀ u, u < 10 → isDig (UInt8.ofNat (48 + u)) = true ∧ (UInt8.ofNat (48 + u)).toNat = 48 + u := by
    intro u hu
    have : (UInt8.ofNat (48 + u)).toNat = 48 + u := by simp; omega
    exact ⟨by simp only [isDig, this]; simp; omega, this⟩
  by_cases h1 : n < 10
  · rw [dec_small h1]
    obtain ⟨d1, d2⟩ := dg n h1
    refine ⟨fun c hc => by simp only [List.mem_singleton] at hc; subst hc; exact d1, by simp, by simp, by simp [numB]; omega⟩
  · obtain ⟨d1, d2⟩ := dg (n % 10) (by omega)
    by_cases h2 : n / 10 < 10
    · obtain ⟨e1, e2⟩ := dg (n / 10) h2
      rw [dec_step h1, dec_small h2]
      refine ⟨fun c hc => ?_, by simp, by simp, ?_⟩
      · simp only [List.cons_append, List.nil_append, List.mem_cons, List.not_mem_nil, or_false] at hc
        rcases hc with rfl | rfl
        · exact e1
        · exact d1
      · simp only [numB, List.cons_append, List.nil_append, List.foldl_cons, List.foldl_nil, d2, e2]; omega
    · obtain ⟨e1, e2⟩ := dg (n / 10 % 10) (by omega)
      obtain ⟨f1, f2⟩ := dg (n / 10 / 10) (by omega)
      rw [dec_step h1, dec_step h2, dec_small (show n / 10 / 10 < 10 by omega)]
      refine ⟨fun c hc => ?_, by simp, by simp, ?_⟩
      · simp only [List.cons_append, List.nil_append, List.mem_cons, List.not_mem_nil, or_false] at hc
        rcases hc with rfl | rfl | rfl
        · exact f1
        · exact e1
        · exact d1
      · simp only [numB, List.cons_append, List.nil_append, List.foldl_cons, List.foldl_nil, d2, e2, f2]; omega

/-- strconv.Atoi's number -/
theorem decFrom_num {l : List UInt8} : ∀ {acc : Nat}, (∀ c, c ∈ l → isDig c = true) → Lib.decFrom acc l = some (l.foldl (fun n c => 10 * n + (c.toNat - 48)) acc) := by
  induction l with
  | nil => intro acc _; rfl
  | cons c l ih =>
    intro acc h
    have hc := h c (by simp)
    simp only [isDig, Bool.and_eq_true, decide_eq_true_eq] at hc
    simp only [Lib.decFrom, Lib.digitVal, if_pos hc, List.foldl_cons]
    rw [ih fun d hd => h d (by simp [hd]), Nat.mul_comm]

theorem atoi_num {l : List UInt8} (h : ∀ c, c ∈ l → isDig c = true) (h0 : l ≠ []) : Lib.atoi l = some (numB l : Nat) := by
  cases l with
  | nil => exact absurd rfl h0
  | cons c l =>
    have hc := h c (by simp)
    simp only [isDig, Bool.and_eq_true, decide_eq_true_eq] at hc
    have e1 : (c == 45) = false := by rw [beq_eq_false_iff_ne]; rintro rfl; simp at hc
    have e2 : (c == 43) = false := by rw [beq_eq_false_iff_ne]; rintro rfl; simp at hc
    simp only [Lib.atoi, e1, e2, Bool.false_eq_true, if_false, Lib.decNat, List.isEmpty_cons, decFrom_num h, Option.map_some]
    rfl

theorem digs_all {s : List UInt8} {a : Nat} : (∀ c, c ∈ cut s a (digs s a).1 → isDig c = true) ∧ (digs s a).1 ≤ 3 := by
  refine ⟨fun c hc => ?_, runN_most (by omega)⟩
  obtain ⟨j, hj⟩ := List.mem_iff_getElem?.1 hc
  unfold cut at hj
  have hlt : j < (digs s a).1 := by
    have := (List.getElem?_eq_some_iff.1 hj).1
    simp only [List.length_take] at this; omega
  rw [List.getElem?_take_of_lt hlt] at hj
  exact runN_all (p := fun _ => isDig) (m := 3) (i := 0) hj (by simpa [digs] using hlt)

end Go.Proofs.YtkjmpjaahgficaaDoor
