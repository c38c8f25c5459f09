/- The queue of texts: what each of its functions does, over the clean machine. -/
import Derived.Test.YtkjmpjaahgficaaQuS
import Derived.Test.YtkjmpjaahgficaaQuW2
namespace Go.Proofs.Ytkjmpjaahgficaa
open Go Go.CM

variable {R : LV → LState → Prop} {st : LState} {q : Nat} {f : Option Nat} {items : List (LV × Int)} {limit last : Int}

/-- (*Queue[string]).Len -/
theorem slen_nil (h : R (i64 0) st) : LCalls Try.prog 12 [.nilp] st R := by
  apply c12; simp [w12]; exact h

theorem slen_spec (hq : QAt st q f items limit last) (h : R (i64 items.length) st) : LCalls Try.prog 12 [.ptr q 0] st R := by
  apply c12; simp [w12, ld1_of hq.hdr, hq.own.lenSl]; exact h

/-- New[string] -/
theorem snew_bad {n : Int} (hn : n < 0 ∨ 1000 < n) (h : R (.tup [.nilp, i64 1]) st) : LCalls Try.prog 9 [i64 n] st R := by
  apply c9; simp only [w9, bInt_int, lint_lss, lint_gtr, bd_some, bsel_dec]
  refine ⟨fun _ => h, fun _ => ⟨fun _ => h, fun _ => by omega⟩⟩

theorem snew_spec {n : Int} (h0 : 0 ≤ n) (h1 : n ≤ 1000) (h : ∀ st' q, QAt st' q none [] n 0 → Fr st st' (fun _ => False) → st.length ≤ q → R (.tup [.ptr q 0, i64 0]) st') : LCalls Try.prog 9 [i64 n] st R := by
  apply c9; simp only [w9, bInt_int, lint_lss, lint_gtr, bd_some, bsel_dec]
  refine ⟨fun _ => by omega, fun _ => ⟨fun _ => by omega, fun _ => ?_⟩⟩
  exact h (st ++ [.cells .rw [.nils, i64 n, i64 0]]) st.length ⟨get_app_new, Own.nil, by simp⟩ Fr.app (Nat.le_refl _)

/-- (*Queue[string]).Put -/
theorem sput_nil {x : List UInt8} (h : R (.tup [i64 0, i64 11]) st) : LCalls Try.prog 10 [.nilp, .str x] st R := by
  apply c10; simp [w10]; exact h

theorem sput_full {x : List UInt8} (hq : QAt st q f items limit last) (hl : limit ≤ items.length) (h : R (.tup [i64 0, i64 10]) st) : LCalls Try.prog 10 [.ptr q 0, .str x] st R := by
  apply c10; simp [w10, ld1_of hq.hdr, hq.own.lenSl, bsel_dec]; exact ⟨fun _ => h, fun hn => by omega⟩

theorem sput_spec {x : List UInt8} (hq : QAt st q f items limit last) (hl : items.length < limit) (h1 : limit ≤ 1000) (h2 : 0 ≤ last) (h3 : last < 1000000)
    (h : ∀ st' f', QAt st' q f' (items ++ [(LV.str x, last + 1)]) limit (last + 1) → Fr st st' (ownQ q f) → (∀ j, f' = some j → f = some j ∨ st.length ≤ j) → R (.tup [i64 (last + 1), i64 0]) st') :
    LCalls Try.prog 10 [.ptr q 0, .str x] st R := by
  apply c10
  have hd := hq.hdr
  have hql := get_lt hd
  have hw : IntKind.i64.wrap (last + 1) = last + 1 := wrap_i64 (by omega) (by omega)
  simp only [w10, eqPtr_pn, eqB_some, eqOut_eql, bd_some, bsel_false, lnilCheck_ptr, fAddr_ptr, ld1_of hd, Nat.zero_add, List.getElem?_cons_zero, List.getElem?_cons_succ, hq.own.lenSl, bInt_int, lint_geq, lint_add, bsel_dec, hw]
  refine ⟨fun _ => by omega, fun _ => ?_⟩
  rw [stV_of hd (by simp) rfl]
  have hd1 : (st.set q (.cells .rw [osl f 2 items.length, i64 limit, i64 (last + 1)]))[q]? = some (.cells .rw [osl f 2 items.length, i64 limit, i64 (last + 1)]) := get_set hd
  simp only [lmk_some, bd2_some, List.set_cons_succ, List.set_cons_zero, ld1_of hd1, List.getElem?_cons_zero, List.getElem?_cons_succ, bd_some]
  rw [show mkAgg (lfill (placesL [(0, 1), (1, 1)]) [LV.str [], LV.int IntKind.i64 0] [(0, LV.str x), (1, i64 (last + 1))]) = some (.agg [LV.str x, i64 (last + 1)]) from rfl]
  rw [bd_some, show lfill (fun i => some (i * 2, 2)) (List.replicate 1 [LV.str [], LV.int IntKind.i64 0]).flatten [(0, .agg [.str x, i64 (last + 1)])] = some [LV.str x, i64 (last + 1)] from rfl]
  simp only [slNew_some, bd2_some]
  generalize hs1 : st.set q (.cells .rw [osl f 2 items.length, i64 limit, i64 (last + 1)]) = s1 at *
  have f1 : Fr st s1 (ownQ q f) := by subst hs1; exact Fr.set (.inl rfl)
  have hl1 : s1.length = st.length := by subst hs1; simp
  have o1 : Own s1 f 2 items.length (flat items) := by
    subst hs1; exact hq.own.fr (S := fun j => j = q) (Fr.set rfl) (fun o e e' => hq.ne (by rw [e, e']))
  have hd2 := get_app (y := .cells .rw [LV.str x, i64 (last + 1)]) hd1
  rw [ld1_of hd2]
  refine ⟨rfl, ?_⟩
  have o2 := o1.fr (S := fun _ => False) (Fr.app (y := .cells .rw [LV.str x, i64 (last + 1)])) (fun _ _ h => h)
  obtain ⟨s3, f3, ha, o3, fr3, hf3, _⟩ := o2.append (bytes := 24) (x := .sl s1.length 0 1 (.ex 1)) (k := 1) (new := [LV.str x, i64 (last + 1)])
    (by simp [lsrc]) (by omega) rfl rfl (by simp [room47]; omega)
  rw [ha, bd2_some]
  have hd3 := fr3.get hd2 (fun e => hq.ne e)
  rw [stV_of hd3 (by simp) (by cases f3 <;> rfl)]
  have hd4 := get_set (y := .cells .rw [osl f3 2 (items.length + 1), i64 limit, i64 (last + 1)]) hd3
  simp only [lmk_some, bd2_some, List.set_cons_zero]
  rw [ld1_of hd4]
  have hne3 : f3 ≠ some q := fun e => by
    rcases hf3 q e with e' | e'
    · exact hq.ne e'
    · simp at e'; omega
  refine h _ f3 ⟨by rw [hd4]; simp, ?_, hne3⟩ ?_ ?_
  · rw [flat_app]; simp only [List.length_append, List.length_cons, List.length_nil, Nat.zero_add]
    exact o3.fr (S := fun j => j = q) (Fr.set rfl) (fun o e e' => hne3 (by rw [e, e']))
  · refine ((f1.trans Fr.app fun _ _ h => h).trans (fr3.mono fun _ _ h => .inr h) fun _ _ h => h).trans (Fr.set (.inl rfl)) fun _ _ h => h
  · intro j e
    rcases hf3 j e with e' | e'
    · exact .inl e'
    · right; simp at e'; omega

/-- (*Queue[string]).First -/
theorem sfirst_nil (h : R (.tup [.str [], i64 0, .bool false]) st) : LCalls Try.prog 27 [.nilp] st R := by
  apply c27; refine slen_nil ?_; simp; exact h

theorem sfirst_none (hq : QAt st q f [] limit last) (h : R (.tup [.str [], i64 0, .bool false]) st) : LCalls Try.prog 27 [.ptr q 0] st R := by
  apply c27; refine slen_spec hq ?_; simp; exact h

theorem sfirst_spec {x : LV} {n : Int} {items : List (LV × Int)} (hq : QAt st q f ((x, n) :: items) limit last) (h : R (.tup [x, i64 n, .bool true]) st) : LCalls Try.prog 27 [.ptr q 0] st R := by
  apply c27
  refine slen_spec hq ?_
  have hb : ((((x, n) :: items).length : Int) == 0) = false := by simp [beq_eq_false_iff_ne]; try omega
  obtain ⟨o, rfl, hix⟩ := hq.own.ix (i := 0) (kk := .i64) (by omega) (by simp)
  have g := flat_get (items := (x, n) :: items) (i := 0) rfl
  simp only [bInt_int, lint_eql, bd_some, hb, bsel_false, lnilCheck_ptr, fAddr_ptr, ld1_of hq.hdr, Nat.zero_add, List.getElem?_cons_zero, hix, Int.toNat_zero, Nat.zero_mul, Nat.add_zero, hq.own.ld g.1, hq.own.ld g.2]
  exact h


/-- slices.Delete of one item -/
theorem sdelete_spec {pre suf : List (LV × Int)} {p : LV × Int} (ho : Own st f 2 (pre ++ p :: suf).length (flat (pre ++ p :: suf))) (h1 : ∀ p ∈ suf, p.1.one = true)
    (h : ∀ st', Own st' f 2 (pre ++ suf).length (flat (pre ++ suf)) → Fr st st' (fun j => f = some j) → R (osl f 2 (pre ++ suf).length) st') :
    LCalls Try.prog 28 [osl f 2 (pre ++ p :: suf).length, i64 pre.length, i64 (pre.length + 1 : Nat)] st R := by
  apply c28
  have e1 : (pre ++ p :: suf).length = pre.length + 1 + suf.length := by simp; omega
  have e2 : (pre ++ suf).length = pre.length + suf.length := by simp
  have e3 : flat (pre ++ p :: suf) = flat pre ++ [p.1, i64 p.2] ++ flat suf := by
    rw [flat_app, show flat (p :: suf) = [p.1, i64 p.2] ++ flat suf from rfl, List.append_assoc]
  rw [e1, e3] at ho
  rw [e2, flat_app] at h
  rw [e1]
  exact wDelete_spec (sz := 2) (bytes := 24) (zero := [.str [], i64 0]) rfl rfl (by omega) ho (flat_len _) rfl (flat_one h1) h


/-- (*Queue[string]).Take -/
theorem stake_nil (h : R (.tup [.str [], i64 0, .bool false]) st) : LCalls Try.prog 11 [.nilp] st R := by
  apply c11; refine sfirst_nil ?_; simp; exact h

theorem stake_none (hq : QAt st q f [] limit last) (h : R (.tup [.str [], i64 0, .bool false]) st) : LCalls Try.prog 11 [.ptr q 0] st R := by
  apply c11; refine sfirst_none hq ?_; simp; exact h

theorem stake_spec {x : LV} {n : Int} {items : List (LV × Int)} (hq : QAt st q f ((x, n) :: items) limit last) (h1 : ∀ p ∈ items, p.1.one = true)
    (h : ∀ st', QAt st' q f items limit last → Fr st st' (ownQ q f) → R (.tup [x, i64 n, .bool true]) st') : LCalls Try.prog 11 [.ptr q 0] st R := by
  apply c11
  refine sfirst_spec hq ?_
  simp only [lextract_tup, List.getElem?_cons_zero, List.getElem?_cons_succ, bd_some, bsel_true, lnilCheck_ptr, fAddr_ptr, Nat.zero_add, ld1_of hq.hdr]
  refine sdelete_spec (pre := []) (suf := items) (p := (x, n)) hq.own h1 fun st' ho fr => ?_
  have hd := fr.get hq.hdr hq.ne
  rw [stV_of hd (by simp) (by cases f <;> rfl)]
  simp only [lmk_some, bd2_some, List.set_cons_zero]
  refine h _ ⟨get_set hd, ho.fr (S := fun j => j = q) (Fr.set rfl) (fun o e e' => hq.ne (by rw [e, e'])), hq.ne⟩ ((fr.mono fun _ _ h => .inr h).trans (Fr.set (.inl rfl)) fun _ _ h => h)


end Go.Proofs.Ytkjmpjaahgficaa
