/- AddressOrders, AddressSorts: the two laws over the clean machine. -/
import Derived.Test.YtkjmpjaahgficaaDoorBoT
namespace Go.Proofs.YtkjmpjaahgficaaDoor
open Go Go.CO
set_option maxRecDepth 100000

variable {R : LV → LState → Prop} {st : LState}

theorem cmp_case {a b : Ad} : (lessAd a b = true → cmpAd a b = -1) ∧ (lessAd b a = true → cmpAd a b = 1) ∧ (lessAd a b = false → lessAd b a = false → cmpAd a b = 0) := by
  refine ⟨fun h => ?_, fun h => ?_, fun h k => ?_⟩
  · rw [cmp_less, less_asymm h, h]; rfl
  · rw [cmp_less, h]; rfl
  · rw [cmp_less, h, k]; rfl

/-- the inner loop: the order of any two -/
theorem pairs_loop {x : LV} {l : List Ad} {i : Nat} {v6 v7 v8 : LV} (hi : i < l.length) (hl : l.length ≤ 30) {s0 : LState} (hx : RowsA s0 x l)
    (hR : ∀ st' v, Fr s0 st' (fun _ => False) → P6_1 x (i64 (i + 1 : Nat)) v v6 v7 v8 R st') :
    ∀ (n k : Nat) (st : LState), n = l.length - k → k ≤ l.length → Fr s0 st (fun _ => False) → P6_4 x (i64 i) (i64 k) v6 v7 v8 R st := by
  intro n
  induction n with
  | zero =>
    intro k st hn hk fr
    apply p6_4
    simp only [w6_4, (hx.fr0 fr).len, bd_some, bInt_int, lint_lss, lint_add, wrap1 (show i < 1000000 by omega)]
    rw [show decide ((k : Int) < (l.length : Nat)) = false by simp; omega, bsel_false]
    exact hR st _ fr
  | succ n ih =>
    intro k st hn hk fr
    have hk' : k < l.length := by omega
    have at_i : ∀ {s : LState}, Fr s0 s (fun _ => False) → ∃ o, ixSl 4 x (i64 i) = some (.ptr o (i * 4)) ∧ ldA s (.ptr o (i * 4)) 4 = some l[i].lv := fun f => (hx.fr0 f).at hi
    have at_k : ∀ {s : LState}, Fr s0 s (fun _ => False) → ∃ o, ixSl 4 x (i64 k) = some (.ptr o (k * 4)) ∧ ldA s (.ptr o (k * 4)) 4 = some l[k].lv := fun f => (hx.fr0 f).at hk'
    obtain ⟨oi, xi, _⟩ := at_i Fr.refl
    obtain ⟨ok, xk, _⟩ := at_k Fr.refl
    have li : ∀ {s : LState}, Fr s0 s (fun _ => False) → ldA s (.ptr oi (i * 4)) 4 = some l[i].lv := fun f => by
      obtain ⟨o, e1, e2⟩ := at_i f
      rw [xi] at e1; cases e1; exact e2
    have lk : ∀ {s : LState}, Fr s0 s (fun _ => False) → ldA s (.ptr ok (k * 4)) 4 = some l[k].lv := fun f => by
      obtain ⟨o, e1, e2⟩ := at_k f
      rw [xk] at e1; cases e1; exact e2
    -- the verdict
    have fin : ∀ {s : LState} {c : Int}, Fr s0 s (fun _ => False) → cmpAd l[i] l[k] = c → LCalls Tryd.prog 19 [l[i].lv, l[k].lv] s fun v26 st27 =>
        bd (bInt BinOp.neq v26 (i64 c)) fun v28 => bsel v28 (R (LV.bool false) st27) (bd (bInt BinOp.add (i64 k) (LV.int IntKind.i64 1)) fun v29 => P6_4 x (i64 i) v29 v6 v7 v8 R st27) := by
      intro s c f hc
      refine compare_spec fun s' f' => ?_
      simp only [bInt_int, lint_neq, bd_some, hc, bne_self_eq_false, bsel_false, lint_add, wrap1 (show k < 1000000 by omega)]
      exact ih (k + 1) s' (by omega) (by omega) (f.trans f' fun _ _ h => h)
    -- the second question
    have second : ∀ {s : LState} {K : LV → LState → Prop}, Fr s0 s (fun _ => False) → (∀ s', Fr s0 s' (fun _ => False) → K (.bool (lessAd l[k] l[i])) s') →
        LCalls Tryd.prog 10 [l[k].lv] s fun v16 st17 => ldA st17 (.ptr oi (i * 4)) 4 = some l[i].lv ∧ LCalls Tryd.prog 10 [l[i].lv] st17 fun v18 st19 => LCalls Tryd.prog 18 [v16, v18] st19 K := by
      intro s K f hK
      refine of_spec fun s1 f1 => ?_
      have g1 := f.trans f1 fun _ _ h => h
      refine ⟨li g1, of_spec fun s2 f2 => ?_⟩
      have g2 := g1.trans f2 fun _ _ h => h
      refine less_spec fun s3 f3 => hK s3 (g2.trans f3 fun _ _ h => h)
    apply p6_4
    simp only [w6_4, (hx.fr0 fr).len, bd_some, bInt_int, lint_lss, xi, xk, li fr, lk fr]
    rw [show decide ((k : Int) < (l.length : Nat)) = true by simp; omega, bsel_true]
    refine of_spec fun s1 f1 => ?_
    have g1 := fr.trans f1 fun _ _ h => h
    refine ⟨lk g1, of_spec fun s2 f2 => ?_⟩
    have g2 := g1.trans f2 fun _ _ h => h
    refine less_spec fun s3 f3 => ?_
    have g3 := g2.trans f3 fun _ _ h => h
    rw [bsel_bool]
    refine ⟨fun e1 => ?_, fun e1 => ?_⟩
    · rw [lk g3, bd_some, li g3, bd_some]
      refine second g3 fun s4 g4 => ?_
      rw [bsel_bool]
      refine ⟨fun e2 => ?_, fun e2 => ?_⟩
      · rw [less_asymm e1] at e2; cases e2
      · rw [li g4, bd_some, lk g4, bd_some]
        exact fin g4 (cmp_case.1 e1)
    · rw [lk g3, bd_some, li g3, bd_some]
      refine second g3 fun s4 g4 => ?_
      rw [bsel_bool]
      refine ⟨fun e2 => ?_, fun e2 => ?_⟩
      · rw [li g4, bd_some, lk g4, bd_some]
        exact fin g4 (cmp_case.2.1 e2)
      · rw [li g4, bd_some, lk g4, bd_some]
        exact fin g4 (cmp_case.2.2 e1 e2)

/-- each of the first ones is among the others -/
theorem among_loop {x y : LV} {l d : List Ad} {v3 v4 v7 : LV} (hl : l.length ≤ 30) (hd : d.length ≤ 30) {s0 : LState} (hx : RowsA s0 x l) (hy : RowsA s0 y d) (hm : ∀ a, a ∈ l → a ∈ d) (hR : ∀ st', R (.bool true) st') :
    ∀ (n i : Nat) (st : LState), n = l.length - i → i ≤ l.length → Fr s0 st (fun _ => False) → P6_10 x v3 v4 y v7 (i64 i) R st := by
  intro n
  induction n with
  | zero =>
    intro i st hn hi fr
    apply p6_10
    simp only [w6_10, (hx.fr0 fr).len, bd_some, bInt_int, lint_lss]
    rw [show decide ((i : Int) < (l.length : Nat)) = false by simp; omega, bsel_false]
    exact hR _
  | succ n ih =>
    intro i st hn hi fr
    have hlt : i < l.length := by omega
    obtain ⟨o, e1, e2⟩ := (hx.fr0 fr).at hlt
    apply p6_10
    simp only [w6_10, (hx.fr0 fr).len, bd_some, bInt_int, lint_lss, e1, e2]
    rw [show decide ((i : Int) < (l.length : Nat)) = true by simp; omega, bsel_true]
    refine in_spec (hy.fr0 fr) (by omega) fun s1 f1 => ?_
    rw [decide_eq_true (hm _ (List.getElem_mem hlt))]
    simp only [lun_not, Bool.not_true, bd_some, bsel_false, bInt_int, lint_add, wrap1 (show i < 1000000 by omega)]
    exact ih (i + 1) s1 (by omega) (by omega) (fr.trans f1 fun _ _ h => h)

/-- rising; each is among the given ones -/
theorem rising_loop {x y : LV} {l d : List Ad} {v3 v4 v8 : LV} (hl : l.length ≤ 30) (hd : d.length ≤ 30) {s0 : LState} (hx : RowsA s0 x l) (hy : RowsA s0 y d) (hm : ∀ a, a ∈ d ↔ a ∈ l)
    (hp : d.Pairwise fun a b => lessAd a b = true) (hR : ∀ st', R (.bool true) st') :
    ∀ (n i : Nat) (st : LState), n = d.length - i → i ≤ d.length → Fr s0 st (fun _ => False) → P6_7 x v3 v4 y (i64 i) v8 R st := by
  intro n
  induction n with
  | zero =>
    intro i st hn hi fr
    apply p6_7
    simp only [w6_7, (hy.fr0 fr).len, bd_some, bInt_int, lint_lss]
    rw [show decide ((i : Int) < (d.length : Nat)) = false by simp; omega, bsel_false]
    exact among_loop hl hd hx hy (fun a h => (hm a).2 h) hR _ 0 st rfl (Nat.zero_le _) fr
  | succ n ih =>
    intro i st hn hi fr
    have hlt : i < d.length := by omega
    obtain ⟨o, e1, e2⟩ := (hy.fr0 fr).at hlt
    have ld : ∀ {s : LState}, Fr s0 s (fun _ => False) → ldA s (.ptr o (i * 4)) 4 = some d[i].lv := fun f => by
      obtain ⟨o', a1, a2⟩ := (hy.fr0 f).at hlt
      rw [e1] at a1; cases a1; exact a2
    have fin : ∀ {s : LState}, Fr s0 s (fun _ => False) → LCalls Tryd.prog 21 [x, d[i].lv] s fun v17 st18 => bd (lun UnOp.not v17) fun v19 => bsel v19 (R (LV.bool false) st18)
        (bd (bInt BinOp.add (i64 i) (LV.int IntKind.i64 1)) fun v20 => P6_7 x v3 v4 y v20 v8 R st18) := by
      intro s f
      refine in_spec (hx.fr0 f) (by omega) fun s1 f1 => ?_
      rw [decide_eq_true ((hm _).1 (List.getElem_mem hlt))]
      simp only [lun_not, Bool.not_true, bd_some, bsel_false, bInt_int, lint_add, wrap1 (show i < 1000000 by omega)]
      exact ih (i + 1) s1 (by omega) (by omega) (f.trans f1 fun _ _ h => h)
    apply p6_7
    by_cases h0 : i = 0
    · subst h0
      simp only [w6_7, (hy.fr0 fr).len, bd_some, bInt_int, lint_lss, lint_gtr, e1, ld fr]
      rw [show decide (((0 : Nat) : Int) < (d.length : Nat)) = true by simp; omega, bsel_true, show decide (((0 : Nat) : Int) > 0) = false from rfl, bsel_false]
      exact fin fr
    · obtain ⟨p, rfl⟩ : ∃ p, i = p + 1 := ⟨i - 1, by omega⟩
      obtain ⟨o2, b1, b2⟩ := (hy.fr0 fr).at (show p < d.length by omega)
      have hjm : IntKind.i64.wrap (((p + 1 : Nat) : Int) - 1) = ((p : Nat) : Int) := by rw [wrap_i64 (by omega) (by omega)]; omega
      simp only [w6_7, (hy.fr0 fr).len, bd_some, bInt_int, lint_lss, lint_gtr, lint_sub, hjm, e1, ld fr, b1, b2]
      rw [show decide (((p + 1 : Nat) : Int) < (d.length : Nat)) = true by simp; omega, bsel_true, show decide (((p + 1 : Nat) : Int) > 0) = true by rw [decide_eq_true_eq]; omega, bsel_true]
      refine of_spec fun s1 f1 => ?_
      have g1 := fr.trans f1 fun _ _ h => h
      refine ⟨ld g1, of_spec fun s2 f2 => ?_⟩
      have g2 := g1.trans f2 fun _ _ h => h
      refine less_spec fun s3 f3 => ?_
      have g3 := g2.trans f3 fun _ _ h => h
      have hless : lessAd d[p] d[p + 1] = true := List.pairwise_iff_getElem.1 hp p (p + 1) (by omega) hlt (by omega)
      rw [hless]
      simp only [lun_not, Bool.not_true, bd_some, bsel_false, ld g3]
      exact fin g3

theorem sorted_len {l : List Ad} : (compactB (msort l)).length ≤ l.length := by
  have h : ∀ (l : List Ad) (a : Ad), (dd a l).length ≤ l.length := by
    intro l
    induction l with
    | nil => intro a; simp [dd]
    | cons b r ih =>
      intro a
      unfold dd
      split
      · have := ih b; simp only [List.length_cons]; omega
      · have := ih b; simp only [List.length_cons]; omega
  have h2 : (compactB (msort l)).length ≤ (msort l).length := by
    cases msort l with
    | nil => exact Nat.le_refl _
    | cons a r => simp only [compactB, List.length_cons]; have := h r a; omega
  rw [(msort_perm l).length_eq] at h2
  exact h2

/-- AddressOrders -/
theorem orders_loop {x : LV} {l : List Ad} (hl : l.length ≤ 30) {s0 : LState} (hx : RowsA s0 x l) (hR : ∀ st', R (.bool true) st') :
    ∀ (n i : Nat) (v4 v6 v7 v8 : LV) (st : LState), n = l.length - i → i ≤ l.length → Fr s0 st (fun _ => False) → P6_1 x (i64 i) v4 v6 v7 v8 R st := by
  intro n
  induction n with
  | zero =>
    intro i v4 v6 v7 v8 st hn hi fr
    apply p6_1
    simp only [w6_1, (hx.fr0 fr).len, bd_some, bInt_int, lint_lss]
    rw [show decide ((i : Int) < (l.length : Nat)) = false by simp; omega, bsel_false]
    refine sortAd_spec (hx.fr0 fr) (by omega) fun y s1 hy f1 => ?_
    have hlen := @sorted_len l
    refine rising_loop hl (by omega) ((hx.fr0 fr).fr0 f1) hy (fun a => ?_) (compact_rising (msort_sorted l)) hR _ 0 s1 rfl (Nat.zero_le _) Fr.refl
    rw [compact_mem]
    exact (msort_perm l).mem_iff
  | succ n ih =>
    intro i v4 v6 v7 v8 st hn hi fr
    have hlt : i < l.length := by omega
    obtain ⟨o, e1, e2⟩ := (hx.fr0 fr).at hlt
    apply p6_1
    simp only [w6_1, (hx.fr0 fr).len, bd_some, bInt_int, lint_lss, e1, e2]
    rw [show decide ((i : Int) < (l.length : Nat)) = true by simp; omega, bsel_true]
    refine great_spec fun g s1 _ f1 => ?_
    cases g with
    | true => rw [bsel_true]; exact hR _
    | false =>
      rw [bsel_false]
      have g1 := fr.trans f1 fun _ _ h => h
      refine pairs_loop hlt hl hx (fun st' v f => ih (i + 1) v v6 v7 v8 st' (by omega) (by omega) f) _ 0 s1 rfl (Nat.zero_le _) g1

theorem orders_law {x : LV} {l : List Ad} (hx : RowsA st x l) (hR : ∀ st', R (.bool true) st') : LCalls Tryd.prog 6 [x] st R := by
  apply c6
  simp only [w6, hx.len, bd_some, bInt_int, lint_gtr, bsel_dec]
  refine ⟨fun _ => awake_spec (hR _), fun e => awake_spec ?_⟩
  simp only [lun_not, Bool.not_true, bd_some, bsel_false]
  exact orders_loop (by omega) hx hR _ 0 _ _ _ _ st rfl (Nat.zero_le _) Fr.refl

/-! ### AddressSorts -/

theorem star1 {a : Ad} : matchW (splitB 46 [42]) a.words = true := rfl
theorem star3 {a : Ad} : matchW (splitB 46 [42, 46, 42, 46, 42]) a.words = true := rfl
theorem star4 {a : Ad} : matchW (splitB 46 [42, 46, 42, 46, 42, 46, 42]) a.words = false := rfl

theorem same_loop {x y : LV} {d : List Ad} {v0 v3 : LV} (hd : d.length ≤ 30) {s0 : LState} (hx : RowsA s0 x d) (hy : RowsA s0 y d) (hs : ∀ a, a ∈ d → a.small) (hR : ∀ st', R (.bool true) st') :
    ∀ (n i : Nat) (st : LState), n = d.length - i → i ≤ d.length → Fr s0 st (fun _ => False) → P7_4 v0 v3 x y (i64 i) R st := by
  intro n
  induction n with
  | zero =>
    intro i st hn hi fr
    apply p7_4
    simp only [w7_4, (hx.fr0 fr).len, bd_some, bInt_int, lint_lss]
    rw [show decide ((i : Int) < (d.length : Nat)) = false by simp; omega, bsel_false]
    exact hR _
  | succ n ih =>
    intro i st hn hi fr
    have hlt : i < d.length := by omega
    have hsm := hs _ (List.getElem_mem hlt)
    obtain ⟨o, e1, e2⟩ := (hx.fr0 fr).at hlt
    obtain ⟨o', b1, b2⟩ := (hy.fr0 fr).at hlt
    have ld : ∀ {s : LState}, Fr s0 s (fun _ => False) → ldA s (.ptr o (i * 4)) 4 = some d[i].lv := fun f => by
      obtain ⟨o', a1, a2⟩ := (hx.fr0 f).at hlt
      rw [e1] at a1; cases a1; exact a2
    have bb : ∀ {b : Bool}, bBool .neq (.bool b) (.bool b) = some (.bool false) := fun {b} => by cases b <;> rfl
    apply p7_4
    simp only [w7_4, (hx.fr0 fr).len, bd_some, bInt_int, lint_lss, e1, ld fr, b1, b2, leq23_iff, eqB_some, eqOut_neq]
    rw [show decide ((i : Int) < (d.length : Nat)) = true by simp; omega, bsel_true, show (!decide True) = false from rfl, bsel_false]
    refine match_spec hsm (by simp) fun s1 f1 => ?_
    have g1 := fr.trans f1 fun _ _ h => h
    refine ⟨ld g1, right_spec hsm fun s2 f2 => ?_⟩
    have g2 := g1.trans f2 fun _ _ h => h
    rw [star1, Bool.and_true, bb, bd_some, bsel_false, ld g2, bd_some, bd_some]
    refine match_spec hsm (by simp) fun s3 f3 => ?_
    have g3 := g2.trans f3 fun _ _ h => h
    refine ⟨ld g3, right_spec hsm fun s4 f4 => ?_⟩
    have g4 := g3.trans f4 fun _ _ h => h
    rw [star3, Bool.and_true, bb, bd_some, bsel_false, ld g4, bd_some]
    refine match_spec hsm (by simp) fun s5 f5 => ?_
    have g5 := g4.trans f5 fun _ _ h => h
    rw [star4, Bool.and_false, bsel_false, lint_add, bd_some, wrap1 (show i < 1000000 by omega)]
    exact ih (i + 1) s5 (by omega) (by omega) g5

theorem sorts_loop {x : LV} {l : List Ad} (hl : l.length ≤ 30) {s0 : LState} (hx : RowsA s0 x l) (hR : ∀ st', R (.bool true) st') :
    ∀ (n i : Nat) (v4 v5 v6 : LV) (st : LState), n = l.length - i → i ≤ l.length → (∀ a, a ∈ l.take i → a.small) → Fr s0 st (fun _ => False) → P7_1 x (i64 i) v4 v5 v6 R st := by
  intro n
  induction n with
  | zero =>
    intro i v4 v5 v6 st hn hi hs fr
    rw [List.take_of_length_le (by omega)] at hs
    apply p7_1
    simp only [w7_1, (hx.fr0 fr).len, bd_some, bInt_int, lint_lss]
    rw [show decide ((i : Int) < (l.length : Nat)) = false by simp; omega, bsel_false]
    have hlen := @sorted_len l
    have hr := compact_rising (msort_sorted l)
    refine sortAd_spec (hx.fr0 fr) (by omega) fun y s1 hy f1 => ?_
    refine sortAd_spec hy (by omega) fun z s2 hz f2 => ?_
    rw [rising_sorted hr, rising_compact hr] at hz
    have hy2 := hy.fr0 f2
    simp only [hy2.len, hz.len, bd_some, bInt_int, lint_neq, bne_self_eq_false, bsel_false]
    refine same_loop (by omega) hy2 hz (fun a ha => hs a ?_) hR _ 0 s2 rfl (Nat.zero_le _) Fr.refl
    exact (msort_perm l).mem_iff.1 (compact_mem.1 ha)
  | succ n ih =>
    intro i v4 v5 v6 st hn hi hs fr
    have hlt : i < l.length := by omega
    obtain ⟨o, e1, e2⟩ := (hx.fr0 fr).at hlt
    apply p7_1
    simp only [w7_1, (hx.fr0 fr).len, bd_some, bInt_int, lint_lss, e1, e2]
    rw [show decide ((i : Int) < (l.length : Nat)) = true by simp; omega, bsel_true]
    refine great_spec fun g s1 hg f1 => ?_
    cases g with
    | true => rw [bsel_true]; exact hR _
    | false =>
      rw [bsel_false]
      simp only [lint_add, bInt_int, bd_some, wrap1 (show i < 1000000 by omega)]
      refine ih (i + 1) _ _ _ s1 (by omega) (by omega) (fun a ha => ?_) (fr.trans f1 fun _ _ h => h)
      rw [take_one hlt, List.mem_append, List.mem_singleton] at ha
      rcases ha with ha | rfl
      · exact hs a ha
      · exact hg rfl

theorem sorts_law {x : LV} {l : List Ad} (hx : RowsA st x l) (hR : ∀ st', R (.bool true) st') : LCalls Tryd.prog 7 [x] st R := by
  apply c7
  simp only [w7, hx.len, bd_some, bInt_int, lint_gtr, bsel_dec]
  refine ⟨fun _ => awake_spec (hR _), fun e => awake_spec ?_⟩
  simp only [lun_not, Bool.not_true, bd_some, bsel_false]
  exact sorts_loop (by omega) hx hR _ 0 _ _ _ st rfl (Nat.zero_le _) (by simp) Fr.refl

end Go.Proofs.YtkjmpjaahgficaaDoor
