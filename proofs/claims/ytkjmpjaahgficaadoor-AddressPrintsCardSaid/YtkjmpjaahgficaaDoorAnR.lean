/- The reader of an address, over the clean machine. -/
import Derived.Test.YtkjmpjaahgficaaDoorAnS
namespace Go.Proofs.YtkjmpjaahgficaaDoor
open Go Go.CN
set_option maxRecDepth 100000

variable {R : LV → LState → Prop} {st : LState}

theorem slStr_part {s : List UInt8} {a b : Nat} (h : a ≤ b) (hb : b ≤ s.length) : (ob3 (some (i64 a)) (some (i64 b)) none fun l h m => slStr (.str s) l h m) = some (.str ((s.drop a).take (b - a))) := by
  simp only [ob3, optNat, Int.natCast_nonneg, if_true, Int.toNat_natCast, slStr, Option.getD_some]
  rw [if_pos ⟨h, hb⟩]

/-- The reader's object. -/
abbrev rd (s : List UInt8) (at_ : Nat) (bad : Bool) : LObj := .cells .rw [.str s, i64 at_, .bool bad]

theorem st_one {k : IntKind} {n : Int} : (LV.int k n).one = true := rfl
theorem rd_at {o : Nat} {s : List UInt8} {a b : Nat} {bad : Bool} (h : st[o]? = some (rd s a bad)) : stV st 1 (.ptr o 1) (i64 b) = some (st.set o (rd s b bad)) := by
  rw [stV_of h (by simp) rfl]; rfl
theorem rd_bad {o : Nat} {s : List UInt8} {a : Nat} {bad b : Bool} (h : st[o]? = some (rd s a bad)) : stV st 1 (.ptr o 2) (.bool b) = some (st.set o (rd s a b)) := by
  rw [stV_of h (by simp) rfl]; rfl
theorem set_self {o : Nat} {x : LObj} (h : st[o]? = some x) : st.set o x = st := by
  obtain ⟨h1, h2⟩ := List.getElem?_eq_some_iff.1 h
  rw [← h2]; exact List.set_getElem_self h1

/-- fail -/
theorem fail_spec {o : Nat} {s : List UInt8} {a b : Nat} {bad : Bool} (h : st[o]? = some (rd s a bad)) (hR : R (.tup []) (st.set o (rd s (if bad then a else b) true))) :
    LCalls Tryd.prog 31 [.ptr o 0, i64 b] st R := by
  apply c31
  simp only [w31, lnilCheck_ptr, bd_some, fAddr_ptr, Nat.zero_add, ld1_of h, List.getElem?_cons_zero, List.getElem?_cons_succ, lun_not, rd_at h, lmk_some, bd2_some, rd_bad (get_set h), List.set_set]
  cases bad with
  | false => simpa using hR
  | true =>
    simp only [Bool.not_true, bsel_false]
    simp only [if_true] at hR
    rwa [set_self h] at hR

/-- is -/
theorem is_spec {o : Nat} {s : List UInt8} {a : Nat} {c : UInt8} (ha : a ≤ s.length) (hs : s.length ≤ 1000) (h : st[o]? = some (rd s a false))
    (h1 : s[a]? = some c → R (.bool true) (st.set o (rd s (a + 1) false))) (h2 : s[a]? ≠ some c → R (.bool false) st) :
    LCalls Tryd.prog 29 [.ptr o 0, u8 c] st R := by
  apply c29
  simp only [w29, lnilCheck_ptr, bd_some, fAddr_ptr, Nat.zero_add, ld1_of h, List.getElem?_cons_zero, List.getElem?_cons_succ, bsel_false, lenStr_str, bInt_int, lint_geq, bsel_dec]
  refine ⟨fun e => h2 ?_, fun e => ?_⟩
  · rw [List.getElem?_eq_none (by omega)]; simp
  · have hlt : a < s.length := by omega
    rw [ixStr_at (List.getElem?_eq_getElem hlt), bd_some]
    simp only [bInt_int, lint_neq, bd_some, bsel_bool]
    refine ⟨fun e2 => h2 ?_, fun e2 => ?_⟩
    · rw [List.getElem?_eq_getElem hlt]
      intro e3
      injection e3 with e3
      rw [e3] at e2
      simp at e2
    · have e2 : s[a] = c := by
        have e2 : ((s[a].toNat : Nat) : Int) = (c.toNat : Nat) := by simpa using e2
        exact UInt8.toNat_inj.1 (by omega)
      simp only [lint_add, wrap1 (show a < 1000000 by omega), bd_some, rd_at h, lmk_some, bd2_some]
      exact h1 (by rw [List.getElem?_eq_getElem hlt, e2])

theorem is_bad {o : Nat} {s : List UInt8} {a : Nat} {c : LV} (h : st[o]? = some (rd s a true)) (h2 : R (.bool false) st) :
    LCalls Tryd.prog 29 [.ptr o 0, c] st R := by
  apply c29
  simp only [w29, lnilCheck_ptr, bd_some, fAddr_ptr, Nat.zero_add, ld1_of h, List.getElem?_cons_zero, List.getElem?_cons_succ, bsel_true]
  exact h2

/-- must -/
theorem must_spec {o : Nat} {s : List UInt8} {a : Nat} {c : UInt8} (ha : a ≤ s.length) (hs : s.length ≤ 1000) (h : st[o]? = some (rd s a false))
    (h1 : s[a]? = some c → R (.tup []) (st.set o (rd s (a + 1) false))) (h2 : s[a]? ≠ some c → R (.tup []) (st.set o (rd s a true))) :
    LCalls Tryd.prog 28 [.ptr o 0, u8 c] st R := by
  apply c28
  refine is_spec ha hs h (fun e => ?_) (fun e => ?_)
  · simpa only [lun_not, bd_some, Bool.not_true, bsel_false] using h1 e
  · simp only [lun_not, bd_some, Bool.not_false, bsel_true, lnilCheck_ptr, fAddr_ptr, Nat.zero_add, ld1_of h, List.getElem?_cons_zero, List.getElem?_cons_succ]
    exact fail_spec h (by simpa using h2 e)

theorem must_bad {o : Nat} {s : List UInt8} {a : Nat} {c : LV} (h : st[o]? = some (rd s a true)) (h2 : R (.tup []) st) :
    LCalls Tryd.prog 28 [.ptr o 0, c] st R := by
  apply c28
  refine is_bad h ?_
  simp only [lun_not, bd_some, Bool.not_false, bsel_true, lnilCheck_ptr, fAddr_ptr, Nat.zero_add, ld1_of h, List.getElem?_cons_zero, List.getElem?_cons_succ]
  exact fail_spec h (by rwa [if_pos rfl, set_self h])

/-- How many bytes are read: so many are; and whether it failed there. -/
def runN (p : Nat → UInt8 → Bool) (most : Nat) : Nat → List UInt8 → Nat × Bool
  | i, [] => (i, i == 0)
  | i, c :: l => if p i c then (if i = most then (i, true) else runN p most (i + 1) l) else (i, i == 0)

/-- The two kinds of byte, as functions. -/
structure Kinds (p : Nat → UInt8 → Bool) (F1 F2 : LV) : Prop where
  first : ∀ c : UInt8, ∃ f xs, lclo F1 [u8 c] = some (f, xs) ∧ ∀ {K : LV → LState → Prop} {st : LState}, K (.bool (p 0 c)) st → LCalls Tryd.prog f xs st K
  more : ∀ (c : UInt8) (i : Nat), 0 < i → ∃ f xs, lclo F2 [u8 c] = some (f, xs) ∧ ∀ {K : LV → LState → Prop} {st : LState}, K (.bool (p i c)) st → LCalls Tryd.prog f xs st K

/-- the loop behind its fault -/
theorem run_over {o fr a : Nat} {s : List UInt8} {F1 F2 m : LV} (h : st[o]? = some (rd s a true)) (hf : fr ≤ a) (ha : a ≤ s.length) (hR : R (.str ((s.drop fr).take (a - fr))) st) :
    P25_1 (.ptr o 0) F1 F2 m (i64 fr) R st := by
  apply p25_1
  simp only [w25_1, lnilCheck_ptr, bd_some, fAddr_ptr, Nat.zero_add, ld1_of h, List.getElem?_cons_zero, List.getElem?_cons_succ, lun_not, Bool.not_true, bsel_false, bInt_int, lint_eql, slStr_part hf ha]
  rw [bsel_bool]
  refine ⟨fun _ => fail_spec h ?_, fun _ => hR⟩
  simp only [if_true, set_self h, ld1_of h, List.getElem?_cons_zero, List.getElem?_cons_succ, bd_some, slStr_part hf ha]
  exact hR

theorem sub_i64 {a b : Nat} (h : a ≤ b) (hb : b ≤ 1000) : IntKind.i64.wrap ((b : Int) - (a : Int)) = ((b - a : Nat) : Int) := by
  rw [wrap_i64 (by omega) (by omega)]; omega

theorem run_loop {p : Nat → UInt8 → Bool} {F1 F2 : LV} (hk : Kinds p F1 F2) {o fr most : Nat} {s : List UInt8} (hs : s.length ≤ 1000) (hm : 0 < most) (hm2 : most < 1000) :
    ∀ (n i : Nat) {st : LState}, n = s.length - (fr + i) → fr + i ≤ s.length → st[o]? = some (rd s (fr + i) false) →
      R (.str ((s.drop fr).take (runN p most i (s.drop (fr + i))).1)) (st.set o (rd s (fr + (runN p most i (s.drop (fr + i))).1) (runN p most i (s.drop (fr + i))).2)) →
      P25_1 (.ptr o 0) F1 F2 (i64 most) (i64 fr) R st := by
  intro n
  induction n with
  | zero =>
    intro i st hn hi h hR
    have e : s.drop (fr + i) = [] := List.drop_eq_nil_of_le (by omega)
    rw [e] at hR
    simp only [runN] at hR
    apply p25_1
    simp only [w25_1, lnilCheck_ptr, bd_some, fAddr_ptr, Nat.zero_add, ld1_of h, List.getElem?_cons_zero, List.getElem?_cons_succ, lun_not, Bool.not_false, bsel_true, bInt_int, lint_eql, lenStr_str, lint_lss, bsel_dec, slStr_part (show fr ≤ fr + i by omega) hi]
    refine ⟨fun h => by omega, fun _ => ?_⟩
    rw [bsel_bool]
    refine ⟨fun e1 => ?_, fun e1 => ?_⟩
    · have e1 : i = 0 := by have := beq_iff_eq.1 e1; omega
      subst e1
      refine fail_spec h ?_
      simp only [ld1_of (get_set h), List.getElem?_cons_zero, List.getElem?_cons_succ, bd_some, Bool.false_eq_true, if_false, slStr_part (show fr ≤ fr + 0 by omega) hi]
      simpa using hR
    · have e1 : i ≠ 0 := by
        intro e
        subst e
        simp at e1
      rw [show (i == 0) = false by simpa using e1, set_self h] at hR
      simpa using hR
  | succ n ih =>
    intro i st hn hi h hR
    have hlt : fr + i < s.length := by omega
    rw [drop_cons hlt] at hR
    -- what follows, by whether the byte may stand there
    have good : ∀ {st : LState}, st[o]? = some (rd s (fr + i) false) → p i s[fr + i] = true → i ≠ most →
        R (.str ((s.drop fr).take (runN p most i (s[fr + i] :: s.drop (fr + i + 1))).1)) (st.set o (rd s (fr + (runN p most i (s[fr + i] :: s.drop (fr + i + 1))).1) (runN p most i (s[fr + i] :: s.drop (fr + i + 1))).2)) →
        P25_1 (.ptr o 0) F1 F2 (i64 most) (i64 fr) R (st.set o (rd s (fr + i + 1) false)) := by
      intro st h e1 e2 hR
      simp only [runN, e1, if_true, e2, if_false] at hR
      refine ih (i + 1) (by omega) (by omega) ?_ ?_
      · exact get_set h
      · rw [List.set_set]; exact hR
    have over : ∀ {st : LState}, st[o]? = some (rd s (fr + i) false) → p i s[fr + i] = true → i = most →
        R (.str ((s.drop fr).take (runN p most i (s[fr + i] :: s.drop (fr + i + 1))).1)) (st.set o (rd s (fr + (runN p most i (s[fr + i] :: s.drop (fr + i + 1))).1) (runN p most i (s[fr + i] :: s.drop (fr + i + 1))).2)) →
        LCalls Tryd.prog 31 [.ptr o 0, i64 (fr + i : Nat)] st fun _ st' => P25_1 (.ptr o 0) F1 F2 (i64 most) (i64 fr) R st' := by
      intro st h e1 e2 hR
      rw [show runN p most i (s[fr + i] :: s.drop (fr + i + 1)) = (i, true) by rw [runN, if_pos e1, if_pos e2]] at hR
      refine fail_spec h (run_over (a := fr + i) (get_set h) (by omega) (by omega) ?_)
      simp only [Bool.false_eq_true, if_false]
      rw [show fr + i - fr = i by omega]
      exact hR
    have none_ : p i s[fr + i] = false → i ≠ 0 →
        R (.str ((s.drop fr).take (runN p most i (s[fr + i] :: s.drop (fr + i + 1))).1)) (st.set o (rd s (fr + (runN p most i (s[fr + i] :: s.drop (fr + i + 1))).1) (runN p most i (s[fr + i] :: s.drop (fr + i + 1))).2)) →
        R (.str ((s.drop fr).take (fr + i - fr))) st := by
      intro e1 e2 hR
      simp only [runN, e1, Bool.false_eq_true, if_false] at hR
      rw [show (i == 0) = false by simpa using e2, set_self h] at hR
      rwa [show fr + i - fr = i by omega]
    apply p25_1
    simp only [w25_1, lnilCheck_ptr, bd_some, fAddr_ptr, Nat.zero_add, ld1_of h, List.getElem?_cons_zero, List.getElem?_cons_succ, lun_not, Bool.not_false, Bool.not_true, bsel_true, bsel_false, bInt_int, lint_eql, lenStr_str, lint_lss, lint_gtr, lint_sub, lint_add, ixStr_at (List.getElem?_eq_getElem hlt), slStr_part (show fr ≤ fr + i by omega) hi,
      sub_i64 (show fr ≤ fr + i by omega) (show fr + i ≤ 1000 by omega), wrap1 (show fr + i < 1000000 by omega), rd_at h, lmk_some, bd2_some]
    rw [show decide (((fr + i : Nat) : Int) < (s.length : Nat)) = true by simp; omega, bsel_true]
    rw [show fr + i - fr = i by omega] at *
    by_cases e0 : i = 0
    · subst e0
      rw [show (((fr + 0 : Nat) : Int) == (fr : Int)) = true by simp, bsel_true]
      obtain ⟨f, xs, hc, hf⟩ := hk.first s[fr + 0]
      rw [hc, bd2_some]
      refine hf ?_
      rw [bsel_bool]
      refine ⟨fun e1 => ?_, fun e1 => ?_⟩
      · simp only [bd_some, ld1_of h, List.getElem?_cons_zero, List.getElem?_cons_succ, bInt_int, lint_eql, lint_gtr, lint_sub, lint_add, lun_not, sub_i64 (show fr ≤ fr + 0 by omega) (show fr + 0 ≤ 1000 by omega), wrap1 (show fr + 0 < 1000000 by omega), rd_at h, lmk_some, bd2_some, bsel_true, bsel_false, Bool.not_true, Bool.not_false, show fr + 0 - fr = 0 by omega]
        rw [show (((0 : Nat) : Int) == (most : Int)) = false by simp; omega, bsel_false]
        exact good h e1 (by omega) hR
      · simp only [ld1_of h, List.getElem?_cons_zero, List.getElem?_cons_succ, bd_some, bInt_int, lint_gtr]
        rw [show decide (((fr + 0 : Nat) : Int) > (fr : Int)) = false by simp, bsel_false]
        simp only [bsel_true, lun_not, bd_some, Bool.not_false, lint_eql]
        rw [show (((fr + 0 : Nat) : Int) == (fr : Int)) = true by simp]
        simp only [bsel_true]
        refine fail_spec h ?_
        simp only [runN, e1, Bool.false_eq_true, if_false] at hR
        simp only [ld1_of (get_set h), List.getElem?_cons_zero, List.getElem?_cons_succ, bd_some, Bool.false_eq_true, if_false, slStr_part (show fr ≤ fr + 0 by omega) hi]
        simpa using hR
    · rw [show (((fr + i : Nat) : Int) == (fr : Int)) = false by simp; omega, bsel_false]
      rw [show decide (((fr + i : Nat) : Int) > (fr : Int)) = true by simp; omega, bsel_true]
      obtain ⟨f, xs, hc, hf⟩ := hk.more s[fr + i] i (by omega)
      rw [hc, bd2_some]
      refine hf ?_
      simp only [bd_some, ld1_of h, List.getElem?_cons_zero, List.getElem?_cons_succ, bInt_int, lint_eql, lint_gtr, lint_sub, lint_add, lun_not, sub_i64 (show fr ≤ fr + i by omega) (show fr + i ≤ 1000 by omega), wrap1 (show fr + i < 1000000 by omega), rd_at h, lmk_some, bd2_some, bsel_true, bsel_false, Bool.not_true, Bool.not_false, show fr + i - fr = i by omega]
      simp only [bsel_bool]
      refine ⟨fun e1 => ?_, fun e1 => ⟨fun e2 => ?_, fun e2 => ?_⟩⟩
      · have e1 : p i s[fr + i] = false := by simpa using e1
        rw [show (((fr + i : Nat) : Int) == (fr : Int)) = false by simp; omega]
        refine ⟨fun h => by simp at h, fun _ => ?_⟩
        rw [slStr_part (show fr ≤ fr + i by omega) hi, bd_some, show fr + i - fr = i by omega]
        exact none_ e1 e0 hR
      · have e1 : p i s[fr + i] = true := by simpa using e1
        exact over h e1 (by have := beq_iff_eq.1 e2; omega) hR
      · have e1 : p i s[fr + i] = true := by simpa using e1
        exact good h e1 (fun e => by subst e; simp at e2) hR

/-- run -/
theorem run_spec {p : Nat → UInt8 → Bool} {F1 F2 : LV} (hk : Kinds p F1 F2) {o a most : Nat} {s : List UInt8} (hs : s.length ≤ 1000) (hm : 0 < most) (hm2 : most < 1000)
    (ha : a ≤ s.length) (h : st[o]? = some (rd s a false))
    (hR : R (.str ((s.drop a).take (runN p most 0 (s.drop a)).1)) (st.set o (rd s (a + (runN p most 0 (s.drop a)).1) (runN p most 0 (s.drop a)).2))) :
    LCalls Tryd.prog 25 [.ptr o 0, F1, F2, i64 most] st R := by
  apply c25
  simp only [w25, lnilCheck_ptr, bd_some, fAddr_ptr, Nat.zero_add, ld1_of h, List.getElem?_cons_zero, List.getElem?_cons_succ]
  exact run_loop hk hs hm hm2 _ 0 rfl (by omega) h hR

theorem run_bad {F1 F2 m : LV} {o a : Nat} {s : List UInt8} (ha : a ≤ s.length) (h : st[o]? = some (rd s a true)) (hR : R (.str []) st) :
    LCalls Tryd.prog 25 [.ptr o 0, F1, F2, m] st R := by
  apply c25
  simp only [w25, lnilCheck_ptr, bd_some, fAddr_ptr, Nat.zero_add, ld1_of h, List.getElem?_cons_zero, List.getElem?_cons_succ]
  exact run_over h (Nat.le_refl _) ha (by simpa using hR)

/-- letter, digit, either -/
def isDig (c : UInt8) : Bool := decide (48 ≤ c.toNat) && decide (c.toNat ≤ 57)
def isLet (c : UInt8) : Bool := decide (97 ≤ c.toNat) && decide (c.toNat ≤ 122)

theorem letter_spec {c : UInt8} (h : R (.bool (isLet c)) st) : LCalls Tryd.prog 26 [u8 c] st R := by
  apply c26
  simp only [w26, bInt_int, lint_geq, lint_leq, bd_some, bsel_dec]
  refine ⟨fun h1 => ?_, fun h1 => ?_⟩
  · rwa [show isLet c = decide ((c.toNat : Int) ≤ 122) by rw [Bool.eq_iff_iff]; simp [isLet]; omega] at h
  · rwa [show isLet c = false by rw [Bool.eq_false_iff]; simp [isLet]; omega] at h

theorem digit_spec {c : UInt8} (h : R (.bool (isDig c)) st) : LCalls Tryd.prog 44 [u8 c] st R := by
  apply c44
  simp only [w44, bInt_int, lint_geq, lint_leq, bd_some, bsel_dec]
  refine ⟨fun h1 => ?_, fun h1 => ?_⟩
  · rwa [show isDig c = decide ((c.toNat : Int) ≤ 57) by rw [Bool.eq_iff_iff]; simp [isDig]; omega] at h
  · rwa [show isDig c = false by rw [Bool.eq_false_iff]; simp [isDig]; omega] at h

theorem either_spec {c : UInt8} (h : R (.bool (isLet c || isDig c)) st) : LCalls Tryd.prog 27 [u8 c] st R := by
  apply c27
  refine letter_spec ?_
  rw [bsel_bool]
  refine ⟨fun e => by simpa [e] using h, fun e => digit_spec (by simpa [e] using h)⟩

theorem kinds_word : Kinds okAt (.fn (.func 26) [] []) (.fn (.func 27) [] []) where
  first c := ⟨26, [u8 c], rfl, fun h => letter_spec (by simpa [okAt, isLet] using h)⟩
  more c i hi := ⟨27, [u8 c], rfl, fun h => either_spec (by simpa [okAt, isLet, isDig, hi] using h)⟩

theorem kinds_dig : Kinds (fun _ => isDig) (.fn (.func 44) [] []) (.fn (.func 44) [] []) where
  first c := ⟨44, [u8 c], rfl, fun h => digit_spec h⟩
  more c _ _ := ⟨44, [u8 c], rfl, fun h => digit_spec h⟩

end Go.Proofs.YtkjmpjaahgficaaDoor
