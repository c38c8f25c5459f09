/- The queue's functions: what each does, over the clean machine. -/
import Derived.Test.YtkjmpjaahgficaaCm27
import Derived.Test.YtkjmpjaahgficaaQuW
namespace Go.Proofs.Ytkjmpjaahgficaa
open Go Go.CM

abbrev i64 (n : Int) : LV := .int .i64 n

/-- The items' cells. -/
def flat (items : List (LV × Int)) : List LV := items.flatMap fun p => [p.1, i64 p.2]

theorem flat_len (items : List (LV × Int)) : (flat items).length = items.length * 2 := by
  induction items with
  | nil => rfl
  | cons p r ih => simp only [flat, List.flatMap_cons, List.length_append] at *; rw [ih]; simp; omega

theorem flat_app (a b : List (LV × Int)) : flat (a ++ b) = flat a ++ flat b := by simp [flat]

theorem flat_get {items : List (LV × Int)} {i : Nat} {x : LV} {n : Int} (h : items[i]? = some (x, n)) : (flat items)[i * 2]? = some x ∧ (flat items)[i * 2 + 1]? = some (i64 n) := by
  induction items generalizing i with
  | nil => simp at h
  | cons p r ih =>
    cases i with
    | zero => simp at h; subst h; simp [flat]
    | succ i =>
      obtain ⟨h1, h2⟩ := ih (i := i) (by simpa using h)
      have e : flat (p :: r) = [p.1, i64 p.2] ++ flat r := rfl
      rw [e, List.getElem?_append_right (by simp; omega), List.getElem?_append_right (by simp; omega)]
      exact ⟨by rw [← h1]; congr 1; simp; omega, by rw [← h2]; congr 1; simp; omega⟩

/-- A queue lies at q, its items at f. -/
structure QAt (st : LState) (q : Nat) (f : Option Nat) (items : List (LV × Int)) (limit last : Int) : Prop where
  hdr : st[q]? = some (.cells .rw [osl f 2 items.length, i64 limit, i64 last])
  own : Own st f 2 items.length (flat items)
  ne : f ≠ some q

/-- What the queue takes up. -/
def ownQ (q : Nat) (f : Option Nat) (j : Nat) : Prop := j = q ∨ f = some j

variable {R : LV → LState → Prop} {st : LState} {q : Nat} {f : Option Nat} {items : List (LV × Int)} {limit last : Int}

theorem QAt.fr {st' : LState} {S : Nat → Prop} (h : QAt st q f items limit last) (hf : Fr st st' S) (hs : ∀ j, ownQ q f j → ¬ S j) : QAt st' q f items limit last :=
  ⟨hf.get h.hdr (hs q (.inl rfl)), h.own.fr hf fun o e => hs o (.inr e), h.ne⟩

/-- (*Queue[int]).Len -/
theorem len_nil (h : R (i64 0) st) : LCalls Try.prog 20 [.nilp] st R := by
  apply c20; simp [w20]; exact h

theorem len_spec (hq : QAt st q f items limit last) (h : R (i64 items.length) st) : LCalls Try.prog 20 [.ptr q 0] st R := by
  apply c20; simp [w20, ld1_of hq.hdr, hq.own.lenSl]; exact h

/-- New[int] -/
theorem new_bad {n : Int} (hn : n < 0 ∨ 1000 < n) (h : R (.tup [.nilp, i64 1]) st) : LCalls Try.prog 13 [i64 n] st R := by
  apply c13; simp only [w13, bInt_int, lint_lss, lint_gtr, bd_some, bsel_dec]
  refine ⟨fun _ => h, fun _ => ⟨fun _ => h, fun _ => by omega⟩⟩

theorem new_spec {n : Int} (h0 : 0 ≤ n) (h1 : n ≤ 1000) (h : ∀ st' q, QAt st' q none [] n 0 → Fr st st' (fun _ => False) → st.length ≤ q → R (.tup [.ptr q 0, i64 0]) st') : LCalls Try.prog 13 [i64 n] st R := by
  apply c13; simp only [w13, bInt_int, lint_lss, lint_gtr, bd_some, bsel_dec]
  refine ⟨fun _ => by omega, fun _ => ⟨fun _ => by omega, fun _ => ?_⟩⟩
  exact h (st ++ [.cells .rw [.nils, i64 n, i64 0]]) st.length ⟨get_app_new, Own.nil, by simp⟩ Fr.app (Nat.le_refl _)

/-- (*Queue[int]).Put -/
theorem put_nil {x : Int} (h : R (.tup [i64 0, i64 11]) st) : LCalls Try.prog 14 [.nilp, i64 x] st R := by
  apply c14; simp [w14]; exact h

theorem put_full {x : Int} (hq : QAt st q f items limit last) (hl : limit ≤ items.length) (h : R (.tup [i64 0, i64 10]) st) : LCalls Try.prog 14 [.ptr q 0, i64 x] st R := by
  apply c14; simp [w14, ld1_of hq.hdr, hq.own.lenSl, bsel_dec]; exact ⟨fun _ => h, fun hn => by omega⟩

theorem put_spec {x : Int} (hq : QAt st q f items limit last) (hl : items.length < limit) (h1 : limit ≤ 1000) (h2 : 0 ≤ last) (h3 : last < 1000000)
    (h : ∀ st' f', QAt st' q f' (items ++ [(i64 x, last + 1)]) limit (last + 1) → Fr st st' (ownQ q f) → (∀ j, f' = some j → f = some j ∨ st.length ≤ j) → R (.tup [i64 (last + 1), i64 0]) st') :
    LCalls Try.prog 14 [.ptr q 0, i64 x] st R := by
  apply c14
  have hd := hq.hdr
  have hql := get_lt hd
  have hw : IntKind.i64.wrap (last + 1) = last + 1 := wrap_i64 (by omega) (by omega)
  simp only [w14, eqPtr_pn, eqB_some, eqOut_eql, bd_some, bsel_false, lnilCheck_ptr, fAddr_ptr, ld1_of hd, Nat.zero_add, List.getElem?_cons_zero, List.getElem?_cons_succ, hq.own.lenSl, bInt_int, lint_geq, lint_add, bsel_dec, hw]
  refine ⟨fun _ => by omega, fun _ => ?_⟩
  rw [stV_of hd (by simp) rfl]
  have hd1 : (st.set q (.cells .rw [osl f 2 items.length, i64 limit, i64 (last + 1)]))[q]? = some (.cells .rw [osl f 2 items.length, i64 limit, i64 (last + 1)]) := get_set hd
  simp only [lmk_some, bd2_some, List.set_cons_succ, List.set_cons_zero, ld1_of hd1, List.getElem?_cons_zero, List.getElem?_cons_succ, bd_some]
  rw [show mkAgg (lfill (placesL [(0, 1), (1, 1)]) [LV.int IntKind.i64 0, LV.int IntKind.i64 0] [(0, i64 x), (1, i64 (last + 1))]) = some (.agg [i64 x, i64 (last + 1)]) from rfl]
  rw [bd_some, show lfill (fun i => some (i * 2, 2)) (List.replicate 1 [LV.int IntKind.i64 0, LV.int IntKind.i64 0]).flatten [(0, .agg [i64 x, i64 (last + 1)])] = some [i64 x, i64 (last + 1)] from rfl]
  simp only [slNew_some, bd2_some]
  generalize hs1 : st.set q (.cells .rw [osl f 2 items.length, i64 limit, i64 (last + 1)]) = s1 at *
  have f1 : Fr st s1 (ownQ q f) := by subst hs1; exact Fr.set (.inl rfl)
  have hl1 : s1.length = st.length := by subst hs1; simp
  have o1 : Own s1 f 2 items.length (flat items) := by
    subst hs1; exact hq.own.fr (S := fun j => j = q) (Fr.set rfl) (fun o e e' => hq.ne (by rw [e, e']))
  have hd2 := get_app (y := .cells .rw [i64 x, i64 (last + 1)]) hd1
  rw [ld1_of hd2]
  refine ⟨rfl, ?_⟩
  have o2 := o1.fr (S := fun _ => False) (Fr.app (y := .cells .rw [i64 x, i64 (last + 1)])) (fun _ _ h => h)
  obtain ⟨s3, f3, ha, o3, fr3, hf3, _⟩ := o2.append (bytes := 16) (x := .sl s1.length 0 1 (.ex 1)) (k := 1) (new := [i64 x, i64 (last + 1)])
    (by simp [lsrc]) (by omega) rfl rfl (by simp [room47]; omega)
  rw [ha, bd2_some]
  have hd3 := fr3.get hd2 (fun e => hq.ne e)
  rw [stV_of hd3 (by simp) (by cases f3 <;> rfl)]
  have hd4 := get_set (y := .cells .rw [osl f3 2 (items.length + 1), i64 limit, i64 (last + 1)]) hd3
  simp only [lmk_some, bd2_some, List.set_cons_zero]
  rw [ld1_of hd4]
  have hne3 : f3 ≠ some q := fun e => by
    rcases hf3 q e with e' | e'
    · exact hq.ne e'
    · simp at e'; omega
  refine h _ f3 ⟨by rw [hd4]; simp, ?_, hne3⟩ ?_ ?_
  · rw [flat_app]; simp only [List.length_append, List.length_cons, List.length_nil, Nat.zero_add]
    exact o3.fr (S := fun j => j = q) (Fr.set rfl) (fun o e e' => hne3 (by rw [e, e']))
  · refine ((f1.trans Fr.app fun _ _ h => h).trans (fr3.mono fun _ _ h => .inr h) fun _ _ h => h).trans (Fr.set (.inl rfl)) fun _ _ h => h
  · intro j e
    rcases hf3 j e with e' | e'
    · exact .inl e'
    · right; simp at e'; omega

/-- (*Queue[int]).First -/
theorem first_nil (h : R (.tup [i64 0, i64 0, .bool false]) st) : LCalls Try.prog 19 [.nilp] st R := by
  apply c19; refine len_nil ?_; simp; exact h

theorem first_none (hq : QAt st q f [] limit last) (h : R (.tup [i64 0, i64 0, .bool false]) st) : LCalls Try.prog 19 [.ptr q 0] st R := by
  apply c19; refine len_spec hq ?_; simp; exact h

theorem first_spec {x : LV} {n : Int} {items : List (LV × Int)} (hq : QAt st q f ((x, n) :: items) limit last) (h : R (.tup [x, i64 n, .bool true]) st) : LCalls Try.prog 19 [.ptr q 0] st R := by
  apply c19
  refine len_spec hq ?_
  have hb : ((((x, n) :: items).length : Int) == 0) = false := by simp [beq_eq_false_iff_ne]; try omega
  obtain ⟨o, rfl, hix⟩ := hq.own.ix (i := 0) (kk := .i64) (by omega) (by simp)
  have g := flat_get (items := (x, n) :: items) (i := 0) rfl
  simp only [bInt_int, lint_eql, bd_some, hb, bsel_false, lnilCheck_ptr, fAddr_ptr, ld1_of hq.hdr, Nat.zero_add, List.getElem?_cons_zero, hix, Int.toNat_zero, Nat.zero_mul, Nat.add_zero, hq.own.ld g.1, hq.own.ld g.2]
  exact h

/-- Where a number is first. -/
def idxFrom (n : Int) : List (LV × Int) → Nat → Int
  | [], _ => -1
  | p :: r, i => if p.2 = n then i else idxFrom n r (i + 1)

theorem flat_at {pre : List (LV × Int)} {p : LV × Int} {suf : List (LV × Int)} : ((flat (pre ++ p :: suf)).drop (pre.length * 2)).take 2 = [p.1, i64 p.2] := by
  rw [flat_app, ← flat_len, List.drop_left]; rfl

theorem drop1_spec {x : LV} {m n : Int} {c : Nat} {md : Md} (hc : st[c]? = some (.cells md [i64 n])) (h : ∀ st', Fr st st' (fun _ => False) → R (.bool (decide (m = n))) st') :
    LCalls Try.prog 31 [.agg [x, i64 m], .ptr c 0] st R := by
  apply c31
  have hd := get_app (y := .cells .rw [x, i64 m]) hc
  simp only [w31, lbox, LV.ok, if_true, lnew, bd2_some, LV.cells, fAddr_ptr, bd_some, Nat.zero_add, ld1_of get_app_new, List.getElem?_cons_succ, List.getElem?_cons_zero, ld1_of hd, bInt_int, lint_eql]
  have := h _ (Fr.app (y := .cells .rw [x, i64 m]))
  exact this

theorem index_loop {n : Int} {c : Nat} {md : Md} {items : List (LV × Int)} (hl : items.length ≤ 1000) : ∀ (suf pre : List (LV × Int)) (st : LState), items = pre ++ suf → Own st f 2 items.length (flat items) →
    st[c]? = some (.cells md [i64 n]) → (∀ st', Fr st st' (fun _ => False) → R (i64 (idxFrom n suf pre.length)) st') →
    LT Try.prog [.tmp 4] (pointN Try.f30 1) R [osl f 2 items.length, .fn (.func 31) [] [.ptr c 0], .junk, .junk, .junk, .junk, .junk, i64 items.length, i64 pre.length, .junk, .junk, .junk, .junk, .junk, .junk, .junk, .junk, .junk, .junk] st := by
  intro suf
  induction suf with
  | nil =>
    intro pre st he ho hc h
    apply p30_1
    have : ¬ ((pre.length : Int) < items.length) := by subst he; simp
    simp only [w30_1, bInt_int, lint_lss, bd_some, bsel_dec]
    exact ⟨fun h' => absurd h' this, fun _ => h st Fr.refl⟩
  | cons p suf ih =>
    intro pre st he ho hc h
    apply p30_1
    have hlt : (pre.length : Int) < items.length := by subst he; simp; omega
    simp only [w30_1, bInt_int, lint_lss, bd_some, bsel_dec]
    refine ⟨fun _ => ?_, fun h' => absurd hlt h'⟩
    obtain ⟨o, rfl, hix⟩ := ho.ix (kk := .i64) (by omega) hlt
    simp only [hix, bd_some]
    rw [ho.ldA (by rw [flat_len]; simp; omega)]
    have hf : ((flat items).drop ((pre.length : Int).toNat * 2)).take 2 = [p.1, i64 p.2] := by subst he; simp only [Int.toNat_natCast]; exact flat_at
    simp only [bd_some, hf, lclo, List.nil_append, List.cons_append, bd2_some]
    refine drop1_spec hc fun st' hfr => ?_
    rw [bsel_dec]
    refine ⟨fun e => ?_, fun e => ?_⟩
    · have := h st' hfr
      simpa [idxFrom, e] using this
    · have hw : IntKind.i64.wrap ((pre.length : Int) + 1) = ((pre ++ [p]).length : Nat) := by
        rw [wrap_i64 (by omega) (by omega)]; simp
      simp only [lint_add, bd_some, hw]
      refine ih (pre ++ [p]) st' (by simp [he]) (ho.fr hfr fun _ _ h => h) (hfr.get hc fun h => h) fun st2 hfr2 => ?_
      have := h st2 (hfr.trans hfr2 fun _ _ h => h)
      simpa [idxFrom, e] using this

theorem index_spec {n : Int} {c : Nat} {md : Md} (hl : items.length ≤ 1000) (ho : Own st f 2 items.length (flat items)) (hc : st[c]? = some (.cells md [i64 n]))
    (h : ∀ st', Fr st st' (fun _ => False) → R (i64 (idxFrom n items 0)) st') : LCalls Try.prog 30 [osl f 2 items.length, .fn (.func 31) [] [.ptr c 0]] st R := by
  apply c30
  simp only [w30, ho.lenSl, bd_some]
  exact index_loop hl items [] st rfl ho hc h

theorem flat_one {items : List (LV × Int)} (h : ∀ p ∈ items, p.1.one = true) : (flat items).all LV.one = true := by
  induction items with
  | nil => rfl
  | cons p r ih =>
    have e : flat (p :: r) = [p.1, i64 p.2] ++ flat r := rfl
    have hp := h p (by simp)
    rw [e, List.all_append, ih fun p hp => h p (by simp [hp]), List.all_cons, hp]
    rfl

/-- slices.Delete of one item -/
theorem delete_spec {pre suf : List (LV × Int)} {p : LV × Int} (ho : Own st f 2 (pre ++ p :: suf).length (flat (pre ++ p :: suf))) (h1 : ∀ p ∈ suf, p.1.one = true)
    (h : ∀ st', Own st' f 2 (pre ++ suf).length (flat (pre ++ suf)) → Fr st st' (fun j => f = some j) → R (osl f 2 (pre ++ suf).length) st') :
    LCalls Try.prog 29 [osl f 2 (pre ++ p :: suf).length, i64 pre.length, i64 (pre.length + 1 : Nat)] st R := by
  apply c29
  have e1 : (pre ++ p :: suf).length = pre.length + 1 + suf.length := by simp; omega
  have e2 : (pre ++ suf).length = pre.length + suf.length := by simp
  have e3 : flat (pre ++ p :: suf) = flat pre ++ [p.1, i64 p.2] ++ flat suf := by
    rw [flat_app, show flat (p :: suf) = [p.1, i64 p.2] ++ flat suf from rfl, List.append_assoc]
  rw [e1, e3] at ho
  rw [e2, flat_app] at h
  rw [e1]
  exact wDelete_spec (sz := 2) (bytes := 16) (zero := [i64 0, i64 0]) rfl rfl (by omega) ho (flat_len _) rfl (flat_one h1) h

/-- (*Queue[int]).Take -/
theorem take_nil (h : R (.tup [i64 0, i64 0, .bool false]) st) : LCalls Try.prog 15 [.nilp] st R := by
  apply c15; refine first_nil ?_; simp; exact h

theorem take_none (hq : QAt st q f [] limit last) (h : R (.tup [i64 0, i64 0, .bool false]) st) : LCalls Try.prog 15 [.ptr q 0] st R := by
  apply c15; refine first_none hq ?_; simp; exact h

theorem take_spec {x : LV} {n : Int} {items : List (LV × Int)} (hq : QAt st q f ((x, n) :: items) limit last) (h1 : ∀ p ∈ items, p.1.one = true)
    (h : ∀ st', QAt st' q f items limit last → Fr st st' (ownQ q f) → R (.tup [x, i64 n, .bool true]) st') : LCalls Try.prog 15 [.ptr q 0] st R := by
  apply c15
  refine first_spec hq ?_
  simp only [lextract_tup, List.getElem?_cons_zero, List.getElem?_cons_succ, bd_some, bsel_true, lnilCheck_ptr, fAddr_ptr, Nat.zero_add, ld1_of hq.hdr]
  refine delete_spec (pre := []) (suf := items) (p := (x, n)) hq.own h1 fun st' ho fr => ?_
  have hd := fr.get hq.hdr hq.ne
  rw [stV_of hd (by simp) (by cases f <;> rfl)]
  simp only [lmk_some, bd2_some, List.set_cons_zero]
  refine h _ ⟨get_set hd, ho.fr (S := fun j => j = q) (Fr.set rfl) (fun o e e' => hq.ne (by rw [e, e'])), hq.ne⟩ ((fr.mono fun _ _ h => .inr h).trans (Fr.set (.inl rfl)) fun _ _ h => h)

/-- (*Queue[int]).Drop -/
theorem drop_nil {n : Int} (h : ∀ st', Fr st st' (fun _ => False) → R (.tup [i64 0, .bool false]) st') : LCalls Try.prog 16 [.nilp, i64 n] st R := by
  apply c16; simp [w16, lbox, LV.ok, lnew]; exact h _ Fr.app

theorem drop_no {n : Int} (hl : items.length ≤ 1000) (hq : QAt st q f items limit last) (hn : idxFrom n items 0 < 0) (h : ∀ st', Fr st st' (fun _ => False) → R (.tup [i64 0, .bool false]) st') :
    LCalls Try.prog 16 [.ptr q 0, i64 n] st R := by
  apply c16
  have hq1 := hq.fr (S := fun _ => False) (Fr.app (y := .cells .rw [i64 n])) (fun _ _ h => h)
  simp only [w16, lbox, LV.ok, lnew, if_true, bd2_some, LV.cells, eqPtr_pn, eqB_some, eqOut_eql, bd_some, bsel_false, lnilCheck_ptr, fAddr_ptr, Nat.zero_add, ld1_of hq1.hdr, List.getElem?_cons_zero]
  refine index_spec hl hq1.own get_app_new fun st' fr => ?_
  simp only [bInt_int, lint_lss, bd_some, bsel_dec]
  exact ⟨fun _ => h _ (Fr.app.trans fr fun _ _ h => h), fun h' => absurd hn h'⟩

theorem drop_spec {n : Int} {pre suf : List (LV × Int)} {x : LV} (hl : (pre ++ (x, n) :: suf).length ≤ 1000) (hq : QAt st q f (pre ++ (x, n) :: suf) limit last) (hn : ∀ p ∈ pre, p.2 ≠ n)
    (h1 : ∀ p ∈ suf, p.1.one = true) (h : ∀ st', QAt st' q f (pre ++ suf) limit last → Fr st st' (ownQ q f) → R (.tup [x, .bool true]) st') :
    LCalls Try.prog 16 [.ptr q 0, i64 n] st R := by
  apply c16
  have hq1 := hq.fr (S := fun _ => False) (Fr.app (y := .cells .rw [i64 n])) (fun _ _ h => h)
  simp only [w16, lbox, LV.ok, lnew, if_true, bd2_some, LV.cells, eqPtr_pn, eqB_some, eqOut_eql, bd_some, bsel_false, lnilCheck_ptr, fAddr_ptr, Nat.zero_add, ld1_of hq1.hdr, List.getElem?_cons_zero]
  refine index_spec hl hq1.own get_app_new fun st' fr => ?_
  have hi : ∀ (pre : List (LV × Int)) (k : Nat), (∀ p ∈ pre, p.2 ≠ n) → idxFrom n (pre ++ (x, n) :: suf) k = ((k + pre.length : Nat) : Int) := by
    intro pre
    induction pre with
    | nil => intro k _; simp [idxFrom]
    | cons p r ih =>
      intro k hp
      have := ih (k + 1) fun p' h' => hp p' (by simp [h'])
      simp only [List.cons_append, idxFrom, if_neg (hp p (by simp)), this, List.length_cons]
      congr 1; omega
  rw [hi pre 0 hn, Nat.zero_add]
  have hq2 := hq1.fr fr (fun _ _ h => h)
  obtain ⟨o, e, hix⟩ := hq2.own.ix (i := pre.length) (kk := .i64) (by omega) (by simp; omega)
  have g := flat_get (items := pre ++ (x, n) :: suf) (i := pre.length) (x := x) (n := n) (by simp)
  have hld : ld1 st' (.ptr o (pre.length * 2)) = some x := by subst e; exact hq2.own.ld g.1
  have hw : IntKind.i64.wrap ((pre.length : Int) + 1) = ((pre.length + 1 : Nat) : Int) := by
    simp at hl; rw [wrap_i64 (by omega) (by omega)]; simp
  simp only [bInt_int, lint_lss, bd_some, bsel_dec]
  refine ⟨fun h' => by omega, fun _ => ?_⟩
  simp only [lnilCheck_ptr, fAddr_ptr, Nat.zero_add, Nat.add_zero, bd_some, ld1_of hq2.hdr, List.getElem?_cons_zero, hix, Int.toNat_natCast, hld, lint_add, hw]
  refine delete_spec hq2.own h1 fun st2 ho fr2 => ?_
  have hd := fr2.get hq2.hdr hq.ne
  rw [stV_of hd (by simp) (by cases f <;> rfl)]
  simp only [lmk_some, bd2_some, List.set_cons_zero]
  have frA : Fr st st' (ownQ q f) := (Fr.app.trans fr fun _ _ h => h).mono fun _ _ h => h.elim
  refine h _ ⟨get_set hd, ho.fr (S := fun j => j = q) (Fr.set rfl) (fun o e e' => hq.ne (by rw [e, e'])), hq.ne⟩ ((frA.trans (fr2.mono fun _ _ h => .inr h) fun _ _ h => h).trans (Fr.set (.inl rfl)) fun _ _ h => h)

end Go.Proofs.Ytkjmpjaahgficaa
