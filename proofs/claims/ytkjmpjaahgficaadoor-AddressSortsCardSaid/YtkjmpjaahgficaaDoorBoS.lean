/- Addresses: names, pieces of a text, over the clean machine. -/
import Derived.Test.YtkjmpjaahgficaaDoorBoW
import Derived.Test.YtkjmpjaahgficaaDoorCo36
namespace Go.Proofs.YtkjmpjaahgficaaDoor
open Go Go.CO
set_option maxRecDepth 100000

abbrev i64 (n : Int) : LV := .int .i64 n
abbrev u8 (c : UInt8) : LV := .int .u8 (c.toNat : Nat)

variable {R : LV → LState → Prop} {st : LState}

/-- May a byte stand in a name, at a place? -/
def okAt (i : Nat) (c : UInt8) : Bool := (decide (97 ≤ c.toNat) && decide (c.toNat ≤ 122)) || (decide (0 < i) && (decide (48 ≤ c.toNat) && decide (c.toNat ≤ 57)))
def namedFrom : Nat → List UInt8 → Bool
  | _, [] => true
  | i, c :: l => okAt i c && namedFrom (i + 1) l
def namedB (s : List UInt8) : Bool := namedFrom 0 s && (decide (0 < s.length) && decide (s.length ≤ 20))

theorem ixStr_at {s : List UInt8} {i : Nat} {c : UInt8} {k : IntKind} (h : s[i]? = some c) : ixStr (.str s) (.int k (i : Nat)) = some (u8 c) := by
  simp only [ixStr]
  rw [if_pos (by omega), Int.toNat_natCast, h]

theorem drop_cons {s : List UInt8} {i : Nat} (h : i < s.length) : s.drop i = s[i] :: s.drop (i + 1) := List.drop_eq_getElem_cons h

/-- lettered -/
theorem lettered_spec {c : UInt8} {i : Nat} (h : R (.bool (okAt i c)) st) : LCalls Tryd.prog 32 [u8 c, i64 i] st R := by
  apply c32
  simp only [w32, bInt_int, lint_geq, lint_leq, lint_gtr, bd_some, bsel_dec]
  refine ⟨fun h1 => ⟨fun h2 => ?_, fun h2 => ⟨fun h3 => ⟨fun h4 => ?_, fun h4 => ?_⟩, fun h3 => ?_⟩⟩, fun h1 => ⟨fun h3 => ⟨fun h4 => ?_, fun h4 => ?_⟩, fun h3 => ?_⟩⟩
  · rwa [show okAt i c = true by simp [okAt]; omega] at h
  · rwa [show okAt i c = decide ((c.toNat : Int) ≤ 57) by rw [Bool.eq_iff_iff]; simp [okAt]; omega] at h
  · rwa [show okAt i c = false by rw [Bool.eq_false_iff]; simp [okAt]; omega] at h
  · rwa [show okAt i c = false by rw [Bool.eq_false_iff]; simp [okAt]; omega] at h
  · rwa [show okAt i c = decide ((c.toNat : Int) ≤ 57) by rw [Bool.eq_iff_iff]; simp [okAt]; omega] at h
  · rwa [show okAt i c = false by rw [Bool.eq_false_iff]; simp [okAt]; omega] at h
  · rwa [show okAt i c = false by rw [Bool.eq_false_iff]; simp [okAt]; omega] at h

theorem wrap1 {i : Nat} (h : i < 1000000) : IntKind.i64.wrap ((i : Int) + 1) = ((i + 1 : Nat) : Int) := by rw [wrap_i64 (by omega) (by omega)]; simp

/-- the document's Named -/
theorem refNamed_loop {s : List UInt8} (hs : s.length ≤ 1000) : ∀ (n i : Nat), n = s.length - i → i ≤ s.length → R (.bool (namedFrom i (s.drop i) && (decide (0 < s.length) && decide (s.length ≤ 20)))) st → P22_1 (.str s) (i64 (i : Nat)) R st := by
  intro n
  induction n with
  | zero =>
    intro i hn hi h
    apply p22_1
    have e : s.drop i = [] := List.drop_eq_nil_of_le (by omega)
    rw [e] at h
    simp only [w22_1, lenStr_str, bd_some, bInt_int, lint_lss, lint_gtr, lint_leq, bsel_dec]
    refine ⟨fun h => by omega, fun _ => ⟨fun h1 => ?_, fun h1 => ?_⟩⟩
    · rwa [show (namedFrom i [] && (decide (0 < s.length) && decide (s.length ≤ 20))) = decide ((s.length : Int) ≤ 20) by rw [Bool.eq_iff_iff]; simp [namedFrom]; omega] at h
    · rwa [show (namedFrom i [] && (decide (0 < s.length) && decide (s.length ≤ 20))) = false by rw [Bool.eq_false_iff]; simp [namedFrom]; omega] at h
  | succ n ih =>
    intro i hn hi h
    apply p22_1
    have hlt : i < s.length := by omega
    rw [drop_cons hlt] at h
    simp only [w22_1, lenStr_str, bd_some, bInt_int, lint_lss, bsel_dec, ixStr_at (List.getElem?_eq_getElem hlt)]
    refine ⟨fun _ => ?_, fun h => by omega⟩
    refine lettered_spec ?_
    simp only [lun_not, bd_some, bsel_bool, lint_add, wrap1 (show i < 1000000 by omega)]
    refine ⟨fun h1 => ?_, fun h1 => ?_⟩
    · have h1 : okAt i s[i] = false := by simpa using h1
      simpa [namedFrom, h1] using h
    · have h1 : okAt i s[i] = true := by simpa using h1
      refine ih (i + 1) (by omega) (by omega) ?_
      simpa [namedFrom, h1] using h

theorem refNamed_spec {s : List UInt8} (hs : s.length ≤ 1000) (h : R (.bool (namedB s)) st) : LCalls Tryd.prog 22 [.str s] st R := by
  apply c22
  exact refNamed_loop hs _ 0 rfl (by omega) (by simpa [namedB] using h)

/-- kind.Named -/
theorem named_loop {s : List UInt8} (hs : s.length ≤ 1000) : ∀ (n i : Nat), n = s.length - i → i ≤ s.length → R (.bool (namedFrom i (s.drop i) && (decide (0 < s.length) && decide (s.length ≤ 20)))) st → P33_1 (.str s) (i64 s.length) (i64 (i : Nat)) R st := by
  intro n
  induction n with
  | zero =>
    intro i hn hi h
    apply p33_1
    have e : s.drop i = [] := List.drop_eq_nil_of_le (by omega)
    rw [e] at h
    simp only [w33_1, lenStr_str, bd_some, bInt_int, lint_lss, lint_leq, bsel_dec]
    refine ⟨fun h => by omega, fun _ => ?_⟩
    simp only [bStr_str, lstr_neq, bd_some, bsel_bool]
    refine ⟨fun h1 => ?_, fun h1 => ?_⟩
    · have : s ≠ [] := by simpa using h1
      have : 0 < s.length := List.length_pos_iff.2 this
      rwa [show (namedFrom i [] && (decide (0 < s.length) && decide (s.length ≤ 20))) = decide ((s.length : Int) ≤ 20) by rw [Bool.eq_iff_iff]; simp [namedFrom]; omega] at h
    · have : s = [] := by simpa using h1
      subst this
      simpa [namedFrom] using h
  | succ n ih =>
    intro i hn hi h
    apply p33_1
    have hlt : i < s.length := by omega
    rw [drop_cons hlt] at h
    have bad : okAt i s[i] = false → R (.bool false) st := fun h1 => by simpa [namedFrom, h1] using h
    have good : okAt i s[i] = true → P33_1 (.str s) (i64 s.length) (i64 (i + 1 : Nat)) R st := fun h1 => ih (i + 1) (by omega) (by omega) (by simpa [namedFrom, h1] using h)
    simp only [w33_1, bd_some, bInt_int, lint_lss, lint_geq, lint_leq, lint_gtr, bsel_dec, ixStr_at (List.getElem?_eq_getElem hlt), lun_not, Bool.not_true, Bool.not_false, bsel_true, bsel_false, lint_add, wrap1 (show i < 1000000 by omega)]
    refine ⟨fun _ => ⟨fun h1 => ⟨fun h2 => ?_, fun h2 => ⟨fun h3 => ⟨fun h4 => ?_, fun h4 => ?_⟩, fun h3 => ?_⟩⟩, fun h1 => ⟨fun h3 => ⟨fun h4 => ?_, fun h4 => ?_⟩, fun h3 => ?_⟩⟩, fun h => by omega⟩
    · exact good (by simp [okAt]; omega)
    · rw [bsel_bool]
      refine ⟨fun h5 => bad ?_, fun h5 => good ?_⟩
      · simp at h5; rw [Bool.eq_false_iff]; simp [okAt]; omega
      · simp at h5; simp [okAt]; omega
    · exact bad (by rw [Bool.eq_false_iff]; simp [okAt]; omega)
    · exact bad (by rw [Bool.eq_false_iff]; simp [okAt]; omega)
    · rw [bsel_bool]
      refine ⟨fun h5 => bad ?_, fun h5 => good ?_⟩
      · simp at h5; rw [Bool.eq_false_iff]; simp [okAt]; omega
      · simp at h5; simp [okAt]; omega
    · exact bad (by rw [Bool.eq_false_iff]; simp [okAt]; omega)
    · exact bad (by rw [Bool.eq_false_iff]; simp [okAt]; omega)

theorem named_spec {s : List UInt8} (hs : s.length ≤ 1000) (h : R (.bool (namedB s)) st) : LCalls Tryd.prog 33 [.str s] st R := by
  apply c33
  simp only [w33, lenStr_str, bd_some]
  exact named_loop hs _ 0 rfl (by omega) (by simpa [namedB] using h)

/-! ### addresses -/

/-- An address: three texts, and an index. -/
structure Ad where
  p : List UInt8
  k : List UInt8
  n : List UInt8
  ix : Int

def Ad.lv (a : Ad) : LV := .agg [.str a.p, .str a.k, .str a.n, i64 a.ix]
def Ad.right (a : Ad) : Bool := namedB a.p && (namedB a.k && (namedB a.n && (decide (-1 ≤ a.ix) && decide (a.ix ≤ 999))))
def Ad.small (a : Ad) : Prop := a.p.length ≤ 60 ∧ a.k.length ≤ 60 ∧ a.n.length ≤ 60

theorem box_ad {a : Ad} : lbox st a.lv = some (.ptr st.length 0, st ++ [.cells .rw [.str a.p, .str a.k, .str a.n, i64 a.ix]]) := rfl
theorem box_get {a : Ad} : (st ++ [LObj.cells .rw [LV.str a.p, .str a.k, .str a.n, i64 a.ix]])[st.length]? = some (.cells .rw [LV.str a.p, .str a.k, .str a.n, i64 a.ix]) := get_app_new

theorem bsel_and {b c : Bool} {p q : Prop} : bsel (.bool (b && c)) p q = bsel (.bool b) (bsel (.bool c) p q) q := by cases b <;> cases c <;> rfl

/-- Right -/
theorem right_spec {a : Ad} (hs : a.small) (h : ∀ st', Fr st st' (fun _ => False) → R (.bool a.right) st') : LCalls Tryd.prog 15 [a.lv] st R := by
  apply c15
  obtain ⟨s1, s2, s3⟩ := hs
  have h := h _ (Fr.app (y := .cells .rw [LV.str a.p, .str a.k, .str a.n, i64 a.ix]))
  simp only [w15, box_ad, bd2_some, fAddr_ptr, bd_some, Nat.zero_add, ld1_of box_get, List.getElem?_cons_zero, List.getElem?_cons_succ]
  refine named_spec (s := a.p) (by omega) ?_
  rw [bsel_bool]
  refine ⟨fun e1 => ?_, fun e1 => by simpa [Ad.right, e1] using h⟩
  simp only [ld1_of box_get, List.getElem?_cons_zero, List.getElem?_cons_succ, bd_some]
  refine named_spec (s := a.k) (by omega) ?_
  rw [bsel_bool]
  refine ⟨fun e2 => ?_, fun e2 => by simpa [Ad.right, e1, e2] using h⟩
  simp only [ld1_of box_get, List.getElem?_cons_zero, List.getElem?_cons_succ, bd_some]
  refine named_spec (s := a.n) (by omega) ?_
  rw [bsel_bool]
  refine ⟨fun e3 => ?_, fun e3 => by simpa [Ad.right, e1, e2, e3] using h⟩
  simp only [ld1_of box_get, List.getElem?_cons_zero, List.getElem?_cons_succ, bInt_int, lint_geq, lint_leq, bd_some, bsel_dec]
  refine ⟨fun e4 => ?_, fun e4 => ?_⟩
  · rwa [show a.right = decide (a.ix ≤ 999) by simp [Ad.right, e1, e2, e3]; omega] at h
  · rwa [show a.right = false by rw [Bool.eq_false_iff]; simp [Ad.right]; omega] at h

/-- the document's Right -/
theorem refRight_spec {a : Ad} (hs : a.small) (h : ∀ st', Fr st st' (fun _ => False) → R (.bool a.right) st') : LCalls Tryd.prog 11 [a.lv] st R := by
  apply c11
  obtain ⟨s1, s2, s3⟩ := hs
  have h := h _ (Fr.app (y := .cells .rw [LV.str a.p, .str a.k, .str a.n, i64 a.ix]))
  have ia : ∀ {o k : Nat} {i : Int}, 0 ≤ i → i < 3 → ixArr 3 1 (.ptr o k) (i64 i) = some (.ptr o (k + i.toNat * 1)) := fun h0 h1 => by simp [ixArr, h0]; omega
  simp only [w11, box_ad, bd2_some, fAddr_ptr, bd_some, Nat.zero_add]
  rw [ia (by omega) (by omega), bd_some, ld1_of box_get]
  refine refNamed_spec (s := a.p) (by omega) ?_
  rw [bsel_bool]
  refine ⟨fun e1 => ?_, fun e1 => by simpa [Ad.right, e1] using h⟩
  rw [ia (by omega) (by omega), bd_some, ld1_of box_get]
  refine refNamed_spec (s := a.k) (by omega) ?_
  rw [bsel_bool]
  refine ⟨fun e2 => ?_, fun e2 => by simpa [Ad.right, e1, e2] using h⟩
  rw [ia (by omega) (by omega), bd_some, ld1_of box_get]
  refine refNamed_spec (s := a.n) (by omega) ?_
  rw [bsel_bool]
  refine ⟨fun e3 => ?_, fun e3 => by simpa [Ad.right, e1, e2, e3] using h⟩
  simp only [ld1_of box_get, List.getElem?_cons_zero, List.getElem?_cons_succ, bd_some, bInt_int, lint_geq, lint_leq, bsel_dec]
  refine ⟨fun e4 => ?_, fun e4 => ?_⟩
  · rwa [show a.right = decide (a.ix ≤ 999) by simp [Ad.right, e1, e2, e3]; omega] at h
  · rwa [show a.right = false by rw [Bool.eq_false_iff]; simp [Ad.right]; omega] at h

/-- great -/
theorem great_spec {a : Ad} (h : ∀ b st', (b = false → a.small) → Fr st st' (fun _ => False) → R (.bool b) st') : LCalls Tryd.prog 8 [a.lv] st R := by
  apply c8
  have h := fun b e => h b _ e (Fr.app (y := .cells .rw [LV.str a.p, .str a.k, .str a.n, i64 a.ix]))
  simp only [w8, box_ad, bd2_some, fAddr_ptr, bd_some, Nat.zero_add, ld1_of box_get, List.getElem?_cons_zero, List.getElem?_cons_succ, lenStr_str, bInt_int, lint_gtr, bsel_dec]
  refine ⟨fun _ => h true (by simp), fun h1 => ⟨fun _ => h true (by simp), fun h2 => h _ fun e => ?_⟩⟩
  have e := of_decide_eq_false e
  exact ⟨by omega, by omega, by omega⟩

/-- of -/
theorem of_spec {a : Ad} (h : ∀ st', Fr st st' (fun _ => False) → R a.lv st') : LCalls Tryd.prog 10 [a.lv] st R := by
  apply c10
  have hb := get_app (y := .cells .rw [LV.str [], .str [], .str [], .int .i64 0]) (box_get (st := st) (a := a))
  simp only [w10, box_ad, bd2_some, nw_eq, fAddr_ptr, bd_some, Nat.zero_add, ld1_of hb, List.getElem?_cons_zero, List.getElem?_cons_succ]
  refine (show bd (some (LV.agg [.str a.p, .str a.k, .str a.n])) _ from ?_)
  rw [bd_some]
  refine (show bd (some (LV.agg [.str a.p, .str a.k, .str a.n, i64 a.ix])) _ from ?_)
  rw [bd_some, stV_agg (n := 4) get_app_new (by simp) rfl rfl]
  simp only [lmk_some, bd2_some]
  rw [ldA_of (get_set get_app_new) (by simp [splice])]
  refine (show R a.lv _ from h _ ?_)
  refine (Fr.app.trans Fr.app fun _ _ h => h).trans (Fr.set (S := fun j => j = (st ++ [LObj.cells .rw [LV.str a.p, .str a.k, .str a.n, i64 a.ix]]).length) rfl) fun j hj e => ?_
  simp at e; omega

/-- words -/
theorem words_spec {a : Ad} (h : ∀ st' o, st'[o]? = some (.cells .rw [.str a.p, .str a.k, .str a.n]) → Fr st st' (fun _ => False) → R (.sl o 0 3 (.ex 3)) st') : LCalls Tryd.prog 24 [a.lv] st R := by
  apply c24
  simp only [w24, box_ad, bd2_some, fAddr_ptr, bd_some, Nat.zero_add, ld1_of box_get, List.getElem?_cons_zero, List.getElem?_cons_succ]
  refine (show bd2 (slNew _ 3 (some [LV.str a.p, .str a.k, .str a.n])) _ from ?_)
  simp only [slNew_some, bd2_some]
  exact h _ _ get_app_new (Fr.app.trans Fr.app fun _ _ h => h)

/-! ### the pieces of a text -/

def splitB (c : UInt8) : List UInt8 → List (List UInt8)
  | [] => [[]]
  | b :: l => if b == c then [] :: splitB c l else match splitB c l with
    | p :: ps => (b :: p) :: ps
    | [] => [[b]]

theorem splitB_ne {c : UInt8} {s : List UInt8} : splitB c s ≠ [] := by
  cases s with
  | nil => simp [splitB]
  | cons b l =>
    unfold splitB
    split
    · simp
    · split <;> simp

theorem splitB_len {c : UInt8} : ∀ {s : List UInt8}, (splitB c s).length = Lib.countByte s c + 1
  | [] => by simp [splitB, Lib.countByte]
  | b :: l => by
    have ih := splitB_len (c := c) (s := l)
    unfold splitB
    unfold Lib.countByte at *
    by_cases e : (b == c) = true
    · simp only [e, if_true, List.length_cons, ih, List.count_cons]
    · have e' : (b == c) = false := by simpa using e
      simp only [e', Bool.false_eq_true, if_false, List.count_cons]
      split
      · rename_i p ps h; rw [h] at ih; simpa using ih
      · rename_i h; exact absurd h splitB_ne

theorem splitB_cons {c b : UInt8} {l : List UInt8} : splitB c (b :: l) = if b == c then [] :: splitB c l else match splitB c l with
    | p :: ps => (b :: p) :: ps
    | [] => [[b]] := rfl

theorem split_none {c : UInt8} : ∀ {s : List UInt8}, Lib.indexByte s c = -1 → splitB c s = [s]
  | [], _ => rfl
  | b :: l, h => by
    unfold Lib.indexByte at h
    rw [splitB_cons]
    split at h
    · omega
    · rename_i e
      rw [if_neg e]
      have hg := Lib.indexByte_ge l c
      split at h
      · rename_i e2
        rw [split_none (by simpa using e2)]
      · rename_i e2
        have : Lib.indexByte l c ≠ -1 := by simpa using e2
        omega

theorem split_some {c : UInt8} : ∀ {s : List UInt8} {m : Nat}, Lib.indexByte s c = m → splitB c s = s.take m :: splitB c (s.drop (m + 1)) ∧ m < s.length
  | [], m, h => by simp [Lib.indexByte] at h
  | b :: l, m, h => by
    unfold Lib.indexByte at h
    rw [splitB_cons]
    split at h
    · rename_i e
      have : m = 0 := by omega
      subst this
      rw [if_pos e]
      exact ⟨rfl, by simp⟩
    · rename_i e
      rw [if_neg e]
      split at h
      · omega
      · rename_i e2
        cases m with
        | zero =>
          have hg := Lib.indexByte_ge l c
          have : Lib.indexByte l c ≠ -1 := by simpa using e2
          omega
        | succ m =>
          obtain ⟨h1, h2⟩ := split_some (c := c) (s := l) (m := m) (by omega)
          rw [h1]
          exact ⟨rfl, by simpa using h2⟩

end Go.Proofs.YtkjmpjaahgficaaDoor
