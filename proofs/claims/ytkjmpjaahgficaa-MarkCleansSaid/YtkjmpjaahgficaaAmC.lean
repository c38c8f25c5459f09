/- MarkCleans, over the clean machine. -/
import Derived.Test.YtkjmpjaahgficaaAmS
import Derived.Test.YtkjmpjaahgficaaAmShelf
namespace Go.Proofs.Ytkjmpjaahgficaa
open Go Go.CN
set_option maxRecDepth 100000

variable {R : LV → LState → Prop} {st : LState}

/-- The greatest length of which the library asks: some number. -/
abbrev maxLenO (m : Int) : LObj := .cells (.gl 0 1) [i64 m]

/-- strings.Contains -/
theorem contains_spec {o0 : Nat} {m : Int} {t s : List UInt8} (h : st[o0]? = some (maxLenO m)) (ht : t.length ≤ 1000000) (hR : R (.bool (Lib.contains t s)) st) : LCalls Try.prog 40 [.str t, .str s] st R := by
  refine LCalls.of_kit ⟨Try.f40, bodyOf Try.f40, Try.func40, by kernel_rfl, by kernel_rfl⟩ ?_ hR
  intro w0 β w vs hr hp
  obtain ⟨v1, us, rfl, rfl, v2, us2, rfl, rfl, rfl⟩ := hp
  obtain ⟨u, hu, r⟩ := hr.gl_cell (i := 0) (l := [i64 m]) (x := i64 m) h rfl
  rw [show u = .int .i64 m from r] at hu
  refine (Try.strings_Contains ⟨⟨t⟩⟩ ⟨⟨s⟩⟩ m w (show t.length < 4294967281 by omega) hu).mono ?_
  rintro e w' ⟨rfl, rfl⟩
  exact ⟨_, rfl, rfl, Go.RowKit.Below.refl _ _⟩

/-- Leaks' own question -/
theorem leak_one {o0 ot : Nat} {m : Int} {t s : List UInt8} (h : st[o0]? = some (maxLenO m)) (ht : t.length ≤ 1000000) (ho : st[ot]? = some (.cells .rw [.str t]))
    (hR : R (.bool (decide (4 ≤ s.length) && Lib.contains t s)) st) : LCalls Try.prog 39 [.str s, .ptr ot 0] st R := by
  apply c39
  simp only [w39, lenStr_str, bd_some, bInt_int, lint_geq, ld1_of ho, List.getElem?_cons_zero]
  rw [bsel_dec]
  refine ⟨fun e => contains_spec h ht ?_, fun e => ?_⟩
  · rwa [decide_eq_true (show 4 ≤ s.length by omega), Bool.true_and] at hR
  · rwa [decide_eq_false (show ¬ 4 ≤ s.length by omega), Bool.false_and] at hR

theorem leaks_step {l : List (List UInt8)} {t : List UInt8} {i : Nat} (h : i < l.length) : leaksB (l.drop i) t = ((decide (4 ≤ l[i].length) && Lib.contains t l[i]) || leaksB (l.drop (i + 1)) t) := by
  rw [List.drop_eq_getElem_cons h]; rfl

theorem leaks_loop {x : LV} {l : List (List UInt8)} {t : List UInt8} {o0 ot : Nat} {m : Int} (hx : SlA st 1 x (rowsOf l)) (hl : l.length ≤ 1000) (h : st[o0]? = some (maxLenO m)) (ht : t.length ≤ 1000000) (ho : st[ot]? = some (.cells .rw [.str t])) :
    ∀ (n i : Nat), n = l.length - i → i ≤ l.length → (leaksB (l.drop i) t = true → ∀ k : Nat, R (i64 k) st) → (leaksB (l.drop i) t = false → R (i64 (-1)) st) →
      P46_1 x (.fn (.func 39) [] [.ptr ot 0]) (i64 l.length) (i64 i) R st := by
  intro n
  induction n with
  | zero =>
    intro i hn hi h1 h2
    apply p46_1
    simp only [w46_1, bInt_int, lint_lss, bd_some]
    rw [show decide ((i : Int) < (l.length : Nat)) = false by simp; omega, bsel_false]
    exact h2 (by rw [List.drop_eq_nil_of_le (by omega)]; rfl)
  | succ n ih =>
    intro i hn hi h1 h2
    have hlt : i < l.length := by omega
    obtain ⟨o, e1, e2⟩ := row_at hx hlt
    rw [leaks_step hlt] at h1 h2
    apply p46_1
    simp only [w46_1, bInt_int, lint_lss, bd_some, e1, e2]
    rw [show decide ((i : Int) < (l.length : Nat)) = true by simp; omega, bsel_true]
    refine (show LCalls Try.prog 39 [.str l[i], .ptr ot 0] st _ from ?_)
    refine leak_one h ht ho ?_
    rw [bsel_bool]
    refine ⟨fun e => h1 (by rw [e]; rfl) i, fun e => ?_⟩
    rw [e] at h1 h2
    simp only [lint_add, bInt_int, bd_some, wrap1 (show i < 1000000 by omega)]
    exact ih (i + 1) (by omega) (by omega) h1 h2

/-- Leaks -/
theorem leaks_spec {x : LV} {l : List (List UInt8)} {t : List UInt8} {o0 : Nat} {m : Int} (hx : SlA st 1 x (rowsOf l)) (hl : l.length ≤ 1000) (h : st[o0]? = some (maxLenO m)) (ht : t.length ≤ 1000000)
    (hR : ∀ st', Fr st st' (fun _ => False) → R (.bool (leaksB l t)) st') : LCalls Try.prog 25 [.str t, x] st R := by
  apply c25
  have hb : lbox st (.str t) = some (.ptr st.length 0, st ++ [.cells .rw [.str t]]) := rfl
  simp only [w25, hb, bd2_some]
  apply c38
  simp only [w38]
  apply c46
  have hx' : SlA (st ++ [LObj.cells .rw [.str t]]) 1 x (rowsOf l) := hx.fr (S := fun _ => False) Fr.app (by simp)
  simp only [w46, rows_len hx', bd_some]
  have hR := hR _ (Fr.app (y := .cells .rw [.str t]))
  refine leaks_loop hx' hl (get_app h) ht get_app_new _ 0 rfl (Nat.zero_le _) (fun e k => ?_) (fun e => ?_)
  · simp only [bInt_int, lint_geq, bd_some]
    rw [List.drop_zero] at e
    rw [e] at hR
    rwa [show decide ((k : Int) ≥ 0) = true by simp]
  · simp only [bInt_int, lint_geq, bd_some]
    rw [List.drop_zero] at e
    rw [e] at hR
    exact hR

/-- a secret begins at some place from i on -/
def AnyFrom (l : List (List UInt8)) (t : List UInt8) (i : Nat) : Prop := ∃ j, i ≤ j ∧ j < t.length ∧ 0 < mostB l (t.drop j) 0

theorem AnyFrom.here {l : List (List UInt8)} {t : List UInt8} {i : Nat} (h : i < t.length) (hm : 0 < mostB l (t.drop i) 0) : AnyFrom l t i := ⟨i, Nat.le_refl _, h, hm⟩
theorem AnyFrom.more {l : List (List UInt8)} {t : List UInt8} {i : Nat} (h : AnyFrom l t (i + 1)) : AnyFrom l t i := by
  obtain ⟨j, h1, h2, h3⟩ := h
  exact ⟨j, by omega, h2, h3⟩
theorem AnyFrom.next {l : List (List UInt8)} {t : List UInt8} {i : Nat} (h : AnyFrom l t i) (hm : ¬ 0 < mostB l (t.drop i) 0) : AnyFrom l t (i + 1) := by
  obtain ⟨j, h1, h2, h3⟩ := h
  refine ⟨j, ?_, h2, h3⟩
  rcases Nat.eq_or_lt_of_le h1 with e | e
  · subst e; exact absurd h3 hm
  · omega
theorem AnyFrom.none {l : List (List UInt8)} {t : List UInt8} {i : Nat} (h : t.length ≤ i) : ¬ AnyFrom l t i := by
  rintro ⟨j, h1, h2, _⟩; omega

/-- the document's Leaks -/
theorem refLeaks_loop {x : LV} {l : List (List UInt8)} {t : List UInt8} (hx : SlA st 1 x (rowsOf l)) (hl : l.length ≤ 1000) (hs : ∀ s, s ∈ l → s.length ≤ 1000) (ht : t.length ≤ 1000) :
    ∀ (n i : Nat), n = t.length - i → i ≤ t.length → (AnyFrom l t i → R (.bool true) st) → (¬ AnyFrom l t i → R (.bool false) st) →
      P26_1 (.str t) x (i64 i) R st := by
  intro n
  induction n with
  | zero =>
    intro i hn hi h1 h2
    have a1 : t.length ≤ i := by omega
    apply p26_1
    simp only [w26_1, lenStr_str, bInt_int, lint_lss, bd_some]
    rw [show decide ((i : Int) < (t.length : Nat)) = false by simp; omega, bsel_false]
    exact h2 (AnyFrom.none a1)
  | succ n ih =>
    intro i hn hi h1 h2
    have a1 : n = t.length - (i + 1) := by omega
    have a2 : i + 1 ≤ t.length := by omega
    have a3 : decide ((i : Int) < (t.length : Nat)) = true := by simp; omega
    have a4 : i < 1000000 := by omega
    apply p26_1
    simp only [w26_1, lenStr_str, bInt_int, lint_lss, bd_some]
    rw [a3, bsel_true]
    refine longest_spec hx hl hs hi ht ?_
    simp only [bInt_int, lint_gtr, lint_add, bd_some, wrap1 a4]
    rw [bsel_dec]
    refine ⟨fun e => h1 (AnyFrom.here a2 (by omega)), fun e => ?_⟩
    have e' : ¬ 0 < mostB l (t.drop i) 0 := by omega
    exact ih (i + 1) a1 a2 (fun h => h1 h.more) fun h => h2 fun h' => h (h'.next e')

theorem refLeaks_spec {x : LV} {l : List (List UInt8)} {t : List UInt8} (hx : SlA st 1 x (rowsOf l)) (hl : l.length ≤ 1000) (hs : ∀ s, s ∈ l → s.length ≤ 1000) (ht : t.length ≤ 1000)
    (hR : R (.bool (leaksB l t)) st) : LCalls Try.prog 26 [.str t, x] st R := by
  apply c26
  refine refLeaks_loop hx hl hs ht _ 0 rfl (Nat.zero_le _) (fun ⟨j, _, h4, h5⟩ => ?_) (fun h => ?_)
  · rwa [leaks_iff.2 ⟨j, h4, h5⟩] at hR
  · rwa [show leaksB l t = false by
      rw [Bool.eq_false_iff]
      intro e
      obtain ⟨j, h4, h5⟩ := leaks_iff.1 e
      exact h ⟨j, Nat.zero_le _, h4, h5⟩] at hR

/-! ### Clean -/

theorem clean_nil {l : List (List UInt8)} {n : Nat} : cleanB l n [] = [] := by cases n <;> rfl

/-- one step -/
theorem clean_step {l : List (List UInt8)} {n : Nat} {c : UInt8} {t : List UInt8} (h : t.length < n) : cleanB l n (c :: t) =
    if 0 < mostB l (c :: t) 0 then [42, 42, 42] ++ cleanB l n ((c :: t).drop (mostB l (c :: t) 0)) else c :: cleanB l n t := by
  obtain ⟨k, rfl⟩ : ∃ k, n = k + 1 := ⟨n - 1, by omega⟩
  rw [show cleanB l (k + 1) (c :: t) = if 0 < mostB l (c :: t) 0 then [42, 42, 42] ++ cleanB l k ((c :: t).drop (mostB l (c :: t) 0)) else c :: cleanB l k t from rfl]
  split
  · rw [clean_more (n := k) (k := k + 1)] <;> simp only [List.length_drop, List.length_cons] <;> omega
  · rw [clean_more (n := k) (k := k + 1) (by omega) (by omega)]

/-- the document's Clean -/
theorem refClean_loop {x : LV} {l : List (List UInt8)} {t : List UInt8} (hx : SlA st 1 x (rowsOf l)) (hl : l.length ≤ 1000) (hs : ∀ s, s ∈ l → s.length ≤ 1000) (ht : t.length ≤ 1000) :
    ∀ (n i : Nat) (out : List UInt8), t.length - i < n → i ≤ t.length → out.length ≤ 3 * i → R (.str (out ++ cleanB l 1000 (t.drop i))) st →
      P24_1 (.str t) x (.str out) (i64 i) R st := by
  intro n
  induction n with
  | zero => intro i out hn; omega
  | succ n ih =>
    intro i out hn hi ho h
    apply p24_1
    simp only [w24_1, lenStr_str, bInt_int, lint_lss, bd_some]
    rw [bsel_dec]
    refine ⟨fun e => ?_, fun e => ?_⟩
    · have hlt : i < t.length := by omega
      refine longest_spec hx hl hs hi ht ?_
      have hm := @most_le l (t.drop i)
      simp only [List.length_drop] at hm
      have hd : t.drop i = t[i] :: t.drop (i + 1) := List.drop_eq_getElem_cons hlt
      rw [hd, clean_step (by simp only [List.length_drop]; omega), ← hd] at h
      simp only [bInt_int, lint_gtr, bd_some]
      rw [bsel_dec]
      refine ⟨fun e1 => ?_, fun e1 => ?_⟩
      · rw [if_pos (by omega)] at h
        rw [bStr_add (by simp; omega)]
        simp only [bd_some, bInt_int, lint_add, wrap2 (show i < 1000000 by omega) (show mostB l (t.drop i) 0 < 1000000 by omega)]
        refine ih (i + mostB l (t.drop i) 0) _ (by omega) (by omega) (by simp; omega) ?_
        rw [List.drop_drop] at h
        simpa only [List.append_assoc] using h
      · rw [if_neg (by omega)] at h
        simp only [bInt_int, lint_add, bd_some, wrap1 (show i < 1000000 by omega)]
        rw [slStr_part (show i ≤ i + 1 by omega) (by omega), bd_some, bStr_add (by simp; omega), bd_some]
        refine ih (i + 1) _ (by omega) (by omega) (by simp; omega) ?_
        rw [hd, show i + 1 - i = 1 by omega, List.take_succ_cons, List.take_zero, List.append_assoc]
        exact h
    · rw [List.drop_eq_nil_of_le (by omega), clean_nil, List.append_nil] at h
      exact h

theorem refClean_spec {x : LV} {l : List (List UInt8)} {t : List UInt8} (hx : SlA st 1 x (rowsOf l)) (hl : l.length ≤ 1000) (hs : ∀ s, s ∈ l → s.length ≤ 1000) (ht : t.length ≤ 1000)
    (h : R (.str (cleanB l 1000 t)) st) : LCalls Try.prog 24 [.str t, x] st R := by
  apply c24
  exact refClean_loop hx hl hs ht _ 0 [] (Nat.lt_succ_self _) (Nat.zero_le _) (by simp) h

/-- Clean -/
theorem clean_loop {x : LV} {l : List (List UInt8)} {s0 : LState} {ob : Nat} (hx : SlA s0 1 x (rowsOf l)) (hl : l.length ≤ 1000) :
    ∀ (n : Nat) (t out : List UInt8) {st : LState}, t.length < n → t.length ≤ 900 → out.length + 3 * t.length ≤ 10000 → Fr s0 st (fun j => s0.length ≤ j) → Bld s0.length st ob out →
      (∀ st', Fr s0 st' (fun j => s0.length ≤ j) → R (.str (out ++ cleanB l 1000 t)) st') → P23_1 (.str t) x (.ptr ob 0) R st := by
  intro n
  induction n with
  | zero => intro t out st hn; omega
  | succ n ih =>
    intro t out st hn ht ho fr hb h
    have hx' : SlA st 1 x (rowsOf l) := hx.fr fr fun j hj => by omega
    apply p23_1
    simp only [w23_1, bStr_str, lstr_neq, bd_some]
    rw [bsel_bool]
    refine ⟨fun e => ?_, fun e => ?_⟩
    · have e : t ≠ [] := by simpa using e
      obtain ⟨c, r, rfl⟩ := List.exists_cons_of_ne_nil e
      simp only [List.length_cons] at hn ht ho
      refine begins_spec hx' hl ?_
      have hm := @most_le l (c :: r)
      rw [clean_step (by omega)] at h
      simp only [bInt_int, lint_gtr, bd_some]
      rw [bsel_dec]
      refine ⟨fun e1 => ?_, fun e1 => ?_⟩
      · rw [if_pos (by omega)] at h
        refine write_spec hb fr.len (by simp) (by simp; omega) fun _ s2 hb2 f2 => ?_
        rw [slStr_rest hm, bd_some]
        have hdl : ((c :: r).drop (mostB l (c :: r) 0)).length ≤ r.length := by
          simp only [List.length_drop, List.length_cons]; omega
        refine ih _ _ (by omega) (by omega) ?_ (fr.trans f2 fun _ _ h => h) hb2 fun st' f => ?_
        · simp only [List.length_append, List.length_cons, List.length_nil]; omega
        · rw [List.append_assoc]; exact h st' f
      · rw [if_neg (by omega)] at h
        rw [show LV.int IntKind.i64 1 = i64 (1 : Nat) from rfl, slStr_head (show 1 ≤ (c :: r).length by simp), bd_some]
        refine write_spec hb fr.len (by simp) (by simp; omega) fun _ s2 hb2 f2 => ?_
        rw [slStr_rest (show 1 ≤ (c :: r).length by simp), bd_some]
        refine ih _ _ (by simp; omega) (by simp; omega) ?_ (fr.trans f2 fun _ _ h => h) hb2 fun st' f => ?_
        · simp; omega
        · have := h st' f
          simpa using this
    · have e : t = [] := by simpa using e
      subst e
      refine string_spec hb (by omega) fun st' f => ?_
      have := h st' (fr.trans f fun _ _ h => h)
      rwa [clean_nil, List.append_nil] at this

theorem clean_spec {x : LV} {l : List (List UInt8)} {t : List UInt8} (hx : SlA st 1 x (rowsOf l)) (hl : l.length ≤ 1000) (ht : t.length ≤ 900)
    (h : ∀ st', Fr st st' (fun j => st.length ≤ j) → R (.str (cleanB l 1000 t)) st') : LCalls Try.prog 23 [.str t, x] st R := by
  apply c23
  simp only [w23, nwM_eq]
  refine clean_loop hx hl _ t [] (Nat.lt_succ_self _) ht (by simp; omega) Fr.app ?_ h
  refine ⟨none, .nilp, Nat.le_refl _, ?_, .inl rfl, OwnM.nil, by simp, by simp⟩
  exact get_app_new

/-- how long a cleaned text is -/
theorem clean_len {l : List (List UInt8)} : ∀ {n : Nat} {t : List UInt8}, (cleanB l n t).length ≤ 3 * t.length
  | 0, t => by simp [cleanB]
  | n + 1, [] => by simp [cleanB]
  | n + 1, c :: t => by
    unfold cleanB
    split
    · have := @clean_len l n ((c :: t).drop (mostB l (c :: t) 0))
      simp only [List.length_append, List.length_drop, List.length_cons, List.length_nil] at this ⊢
      omega
    · have := @clean_len l n t
      simp only [List.length_cons]; omega

/-! ### the law -/

abbrev later : LV := .agg [.iface 95 (.agg [])]
theorem later_run : (lrun Try.prog 10000 40 33 [] []).map (·.1) = some later := by kernel_rfl
theorem kind_run : (lrun Try.prog 10000 40 41 [later] []).map (·.1) = some (i64 1) := by kernel_rfl

theorem unknown_spec (h : ∀ st' o c, Fr st st' (fun _ => False) → R (.sl o 0 1 c) st') : LCalls Try.prog 32 [later] st R := by
  apply c32
  have hb : lbox st later = some (.ptr st.length 0, st ++ [.cells .rw [.iface 95 (.agg [])]]) := rfl
  have hl : ldA (st ++ [LObj.cells .rw [.iface 95 (.agg [])]]) (.ptr st.length 0) 1 = some later := by rw [ldA_of get_app_new (by simp)]; rfl
  simp only [w32, hb, bd2_some, hl, bd_some]
  refine lrun_forget cm_mixed kind_run rfl rfl ?_
  simp only [bInt_int, lint_eql, bd_some, beq_self_eq_true, bsel_true]
  exact h _ _ _ (Fr.app.trans Fr.app fun _ _ h => h)

/-- the texts of the document's example -/
abbrev exT : List UInt8 := [107, 101, 121, 32, 112, 97, 115, 115, 49, 50, 51, 52, 33]
abbrev exS : List UInt8 := [112, 97, 115, 115, 49, 50, 51, 52]

theorem awake_spec {o0 : Nat} {m : Int} (h0 : st[o0]? = some (maxLenO m)) (h : ∀ st', Fr st st' (fun j => st.length ≤ j) → R (.bool true) st') : LCalls Try.prog 22 [] st R := by
  apply c22
  have mk : ∀ {s : LState}, slNew s 1 (lfill (fun i => some (i * 1, 1)) (List.replicate 1 [LV.str []]).flatten [(0, LV.str exS)]) = some (.sl s.length 0 1 (.ex 1), s ++ [.cells .rw [.str exS]]) := rfl
  have sla : ∀ {s : LState}, SlA (s ++ [.cells .rw [.str exS]]) 1 (.sl s.length 0 1 (.ex 1)) (rowsOf [exS]) := fun {s} => .inr ⟨s.length, 1, .rw, rfl, get_app_new, by simp⟩
  simp only [w22, mk, bd2_some]
  refine clean_spec (l := [exS]) (t := exT) sla (by simp) (by simp) fun s1 f1 => ?_
  have F1 : Fr st s1 (fun j => st.length ≤ j) := Fr.app.trans f1 fun j hj hn => by simp at hn; omega
  rw [show cleanB [exS] 1000 exT = [107, 101, 121, 32, 42, 42, 42, 33] by decide +kernel]
  simp only [bStr_str, lstr_eql, bd_some, beq_self_eq_true, bsel_true]
  refine leaks_spec (l := [exS]) (t := exT) sla (by simp) (get_app (F1.get h0 (by have := get_lt h0; omega))) (by simp) fun s2 f2 => ?_
  rw [show leaksB [exS] exT = true by decide +kernel, bsel_true]
  have F2 : Fr st s2 (fun j => st.length ≤ j) := (F1.trans Fr.app fun _ _ h => h).trans (f2.mono fun _ _ h => h.elim) fun _ _ h => h
  refine lrun_forget cm_mixed later_run rfl rfl (unknown_spec fun s3 o c f3 => ?_)
  simp only [lenSl_sl, bd_some, bInt_int, lint_eql]
  exact h _ (F2.trans (f3.mono fun _ _ h => h.elim) fun _ _ h => h)

/-! ### MarkCleans -/

/-- is there a star among these bytes? -/
theorem star_loop {x : LV} {l : List (List UInt8)} {t : List UInt8} {i : Nat} (hx : SlA st 1 x (rowsOf l)) (hi : i < l.length) (hl : l.length ≤ 1000) (hs : l[i].length ≤ 1000) :
    ∀ (n k : Nat) (b : Bool), n = l[i].length - k → k ≤ l[i].length → (∀ v, P7_1 (.str t) x (.bool (b || (l[i].drop k).any (· == 42))) (i64 (i + 1 : Nat)) v R st) → P7_4 (.str t) x (.bool b) (i64 i) (i64 k) R st := by
  obtain ⟨o, e1, e2⟩ := row_at hx hi
  intro n
  induction n with
  | zero =>
    intro k b hn hk h
    apply p7_4
    simp only [w7_4, e1, e2, lenStr_str, bd_some, bInt_int, lint_lss, lint_add, wrap1 (show i < 1000000 by omega)]
    rw [show decide ((k : Int) < (l[i].length : Nat)) = false by simp; omega, bsel_false]
    have := h (i64 k)
    rwa [List.drop_eq_nil_of_le (by omega), List.any_nil, Bool.or_false] at this
  | succ n ih =>
    intro k b hn hk h
    have hlt : k < l[i].length := by omega
    have ix : ixStr (.str l[i]) (i64 k) = some (u8 l[i][k]) := by
      simp only [ixStr]
      rw [if_pos (by omega), Int.toNat_natCast, List.getElem?_eq_getElem hlt]
    apply p7_4
    simp only [w7_4, e1, e2, lenStr_str, bd_some, bInt_int, lint_lss, lint_add, lint_eql, ix, wrap1 (show k < 1000000 by omega)]
    rw [show decide ((k : Int) < (l[i].length : Nat)) = true by simp; omega, bsel_true]
    have e3 : (l[i].drop k).any (· == 42) = ((((l[i][k].toNat : Nat) : Int) == 42) || (l[i].drop (k + 1)).any (· == 42)) := by
      rw [List.drop_eq_getElem_cons hlt, List.any_cons]
      congr 1
      rw [Bool.eq_iff_iff, beq_iff_eq, beq_iff_eq]
      constructor
      · intro h; rw [h]; rfl
      · intro h; exact UInt8.toNat_inj.1 (by simp; omega)
    rw [e3] at h
    cases b with
    | true =>
      rw [bsel_true]
      exact ih (k + 1) true (by omega) (by omega) (by simpa using h)
    | false =>
      rw [bsel_false]
      exact ih (k + 1) _ (by omega) (by omega) (by simpa using h)

theorem marks_loop {x : LV} {l : List (List UInt8)} {t : List UInt8} {o0 : Nat} {m : Int} (hx : SlA st 1 x (rowsOf l)) (h0 : st[o0]? = some (maxLenO m)) (hl : l.length ≤ 20) (ht : t.length ≤ 300) (hR : ∀ st', R (.bool true) st') :
    ∀ (n i : Nat) (b : Bool) (v : LV), n = l.length - i → i ≤ l.length → (∀ s, s ∈ l.take i → s.length ≤ 100) → (b = false → ∀ s, s ∈ l.take i → ∀ c, c ∈ s → c ≠ 42) →
      P7_1 (.str t) x (.bool b) (i64 i) v R st := by
  intro n
  induction n with
  | zero =>
    intro i b v hn hi hs hst
    have e : l.take i = l := List.take_of_length_le (by omega)
    rw [e] at hs hst
    apply p7_1
    simp only [w7_1, rows_len hx, bd_some, bInt_int, lint_lss]
    rw [show decide ((i : Int) < (l.length : Nat)) = false by simp; omega, bsel_false]
    refine clean_spec hx (by omega) (by omega) fun s1 f1 => ?_
    have hx1 : SlA s1 1 x (rowsOf l) := hx.fr f1 fun j hj => by omega
    have k1 := f1.get h0 (by have := get_lt h0; omega)
    refine refClean_spec hx1 (by omega) (fun s hs' => by have := hs s hs'; omega) (by omega) ?_
    simp only [bStr_str, lstr_eql, bd_some, beq_self_eq_true, bsel_true]
    refine leaks_spec hx1 (by omega) k1 (by omega) fun s2 f2 => ?_
    have hx2 : SlA s2 1 x (rowsOf l) := hx1.fr f2 (by simp)
    refine refLeaks_spec hx2 (by omega) (fun s hs' => by have := hs s hs'; omega) (by omega) ?_
    have bb : bBool .eql (.bool (leaksB l t)) (.bool (leaksB l t)) = some (.bool true) := by cases leaksB l t <;> rfl
    rw [bb, bd_some, bsel_true]
    cases b with
    | true => rw [bsel_true]; exact hR _
    | false =>
      rw [bsel_false]
      have := @clean_len l 1000 t
      refine leaks_spec hx2 (by omega) (f2.get k1 (by simp)) (by omega) fun s3 _ => ?_
      rw [clean_leaks (hst rfl)]
      exact hR _
  | succ n ih =>
    intro i b v hn hi hs hst
    have hlt : i < l.length := by omega
    obtain ⟨o, e1, e2⟩ := row_at hx hlt
    apply p7_1
    simp only [w7_1, rows_len hx, bd_some, bInt_int, lint_lss, e1, e2, lenStr_str, lint_gtr]
    rw [show decide ((i : Int) < (l.length : Nat)) = true by simp; omega, bsel_true, bsel_dec]
    refine ⟨fun _ => hR _, fun e => ?_⟩
    have tk : l.take (i + 1) = l.take i ++ [l[i]] := by rw [List.take_add_one, List.getElem?_eq_getElem hlt]; rfl
    refine star_loop hx hlt (by omega) (by omega) _ 0 b rfl (Nat.zero_le _) fun v => ih (i + 1) _ v (by omega) (by omega) ?_ ?_
    · intro s h
      rw [tk, List.mem_append, List.mem_singleton] at h
      rcases h with h | rfl
      · exact hs s h
      · omega
    · intro hb s h c hc
      rw [List.drop_zero, Bool.or_eq_false_iff] at hb
      rw [tk, List.mem_append, List.mem_singleton] at h
      rcases h with h | rfl
      · exact hst hb.1 s h c hc
      · rintro rfl
        have := List.any_eq_false.1 hb.2 42 hc
        simp at this

theorem marks_law {x : LV} {l : List (List UInt8)} {t : List UInt8} {o0 : Nat} {m : Int} (hx : SlA st 1 x (rowsOf l)) (h0 : st[o0]? = some (maxLenO m)) (hR : ∀ st', R (.bool true) st') : LCalls Try.prog 7 [.str t, x] st R := by
  apply c7
  simp only [w7, lenStr_str, rows_len hx, bd_some, bInt_int, lint_gtr, bsel_dec]
  refine ⟨fun _ => awake_spec h0 fun _ _ => hR _, fun e => ⟨fun _ => awake_spec h0 fun _ _ => hR _, fun e2 => awake_spec h0 fun s1 f1 => ?_⟩⟩
  simp only [lun_not, Bool.not_true, bd_some, bsel_false]
  exact marks_loop (hx.fr f1 fun j hj => by omega) (f1.get h0 (by have := get_lt h0; omega)) (by omega) (by omega) hR _ 0 false _ rfl (Nat.zero_le _) (by simp) (by simp)

end Go.Proofs.Ytkjmpjaahgficaa
