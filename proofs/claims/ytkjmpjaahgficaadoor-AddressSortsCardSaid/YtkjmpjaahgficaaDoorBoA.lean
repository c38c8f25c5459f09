/- Comparing addresses, over the clean machine. -/
import Derived.Test.YtkjmpjaahgficaaDoorBoO
namespace Go.Proofs.YtkjmpjaahgficaaDoor
open Go Go.CO
set_option maxRecDepth 100000

variable {R : LV → LState → Prop} {st : LState}

theorem nanS_spec {x : List UInt8} (h : R (.bool false) st) : LCalls Tryd.prog 62 [.str x] st R := by
  apply c62
  simp only [w62, bStr_str, lstr_neq, bd_some, beq_self_eq_true, Bool.not_true]
  exact h
theorem nanI_spec {x : Int} (h : R (.bool false) st) : LCalls Tryd.prog 51 [i64 x] st R := by
  apply c51
  simp only [w51, bInt_int, lint_neq, bd_some, bne_self_eq_false]
  exact h

/-- cmp.Compare -/
theorem cmpStr_spec {x y : List UInt8} (h : R (i64 (cmpS x y)) st) : LCalls Tryd.prog 50 [.str x, .str y] st R := by
  apply c50
  refine nanS_spec (nanS_spec ?_)
  have e1 : bStr .lss (.str x) (.str y) = some (.bool (Op.bytesLess x y)) := rfl
  have e2 : bStr .gtr (.str x) (.str y) = some (.bool (!(Op.bytesLess x y || x == y))) := rfl
  simp only [bsel_false, e1, e2, bd_some]
  unfold cmpS at h
  rw [bsel_bool]
  refine ⟨fun e => by rwa [if_pos e] at h, fun e => ?_⟩
  rw [if_neg (by rw [e]; simp)] at h
  rw [bsel_bool]
  exact ⟨fun e => by rwa [if_pos e] at h, fun e => by rwa [if_neg (by rw [e]; simp)] at h⟩

theorem cmpInt_spec {x y : Int} (h : R (i64 (cmpI x y)) st) : LCalls Tryd.prog 39 [i64 x, i64 y] st R := by
  apply c39
  refine nanI_spec (nanI_spec ?_)
  simp only [bsel_false, bInt_int, lint_lss, lint_gtr, bd_some, bsel_dec]
  unfold cmpI at h
  exact ⟨fun e => by rwa [if_pos e] at h, fun e => ⟨fun e2 => by rwa [if_neg e, if_pos e2] at h, fun e2 => by rwa [if_neg e, if_neg e2] at h⟩⟩

theorem cmpS_zero {x y : List UInt8} : cmpS x y ≠ 0 ↔ x ≠ y := by
  constructor
  · rintro h rfl; exact h cmpS_eq
  · intro h
    rw [cmpS_ne h]
    split <;> decide

/-- slices.Compare of the names -/
theorem cmpWords_spec {a b : Ad} {o1 o2 : Nat} (h1 : st[o1]? = some (.cells .rw [.str a.p, .str a.k, .str a.n])) (h2 : st[o2]? = some (.cells .rw [.str b.p, .str b.k, .str b.n]))
    (h : R (i64 (cmpW a b)) st) : LCalls Tryd.prog 38 [.sl o1 0 3 (.ex 3), .sl o2 0 3 (.ex 3)] st R := by
  apply c38
  simp only [w38, lenSl_sl, bd_some]
  have ix : ∀ {o : Nat} {i : Int}, 0 ≤ i → i < 3 → ixSl 1 (.sl o 0 3 (.ex 3)) (i64 i) = some (.ptr o (0 + i.toNat * 1)) := fun a b => ixSl_of a (by omega)
  have step : ∀ {i : Int} {x y : List UInt8}, 0 ≤ i → i < 3 → [LV.str a.p, .str a.k, .str a.n][0 + i.toNat * 1]? = some (.str x) → [LV.str b.p, .str b.k, .str b.n][0 + i.toNat * 1]? = some (.str y) →
      (x ≠ y → R (i64 (cmpS x y)) st) → (x = y → P38_1 (.sl o1 0 3 (.ex 3)) (.sl o2 0 3 (.ex 3)) (.sl o1 0 3 (.ex 3)) (i64 3) (i64 (i + 1)) R st) →
      P38_1 (.sl o1 0 3 (.ex 3)) (.sl o2 0 3 (.ex 3)) (.sl o1 0 3 (.ex 3)) (i64 3) (i64 i) R st := by
    intro i x y i0 i3 ex ey hne heq
    apply p38_1
    have w1 : IntKind.i64.wrap (i + 1) = i + 1 := wrap_i64 (by omega) (by omega)
    simp only [w38_1, bInt_int, lint_lss, bd_some, ix i0 i3, ld1_of h1, ld1_of h2, ex, ey, lenSl_sl, lint_geq]
    rw [show decide (i < 3) = true by simp; omega, bsel_true]
    rw [show decide (i ≥ ((3 : Nat) : Int)) = false by simp; omega, bsel_false]
    refine cmpStr_spec ?_
    simp only [bInt_int, lint_neq, lint_add, bd_some, w1]
    rw [bsel_bool]
    refine ⟨fun e => hne (cmpS_zero.1 (by simpa using e)), fun e => heq ?_⟩
    have e : cmpS x y = 0 := by simpa using e
    exact Classical.byContradiction fun k => cmpS_zero.2 k e
  unfold cmpW at h
  refine step (i := 0) (by omega) (by omega) rfl rfl (fun e => by rwa [if_pos e] at h) fun e => ?_
  rw [if_neg (by simp [e])] at h
  refine step (i := 1) (by omega) (by omega) rfl rfl (fun e => by rwa [if_pos e] at h) fun e => ?_
  rw [if_neg (by simp [e])] at h
  refine step (i := 2) (by omega) (by omega) rfl rfl (fun e => by rwa [if_pos e] at h) fun e => ?_
  rw [if_neg (by simp [e])] at h
  apply p38_1
  simp only [w38_1, bInt_int, lint_lss, bd_some, lenSl_sl]
  rw [show decide ((2 : Int) + 1 < 3) = false from rfl, bsel_false, show decide (((3 : Nat) : Int) < ((3 : Nat) : Int)) = false from rfl, bsel_false]
  exact h

/-- cmp.Or of two numbers -/
theorem or_spec {o : Nat} {m : Md} {x y : Int} (ho : st[o]? = some (.cells m [i64 x, i64 y])) (h : R (i64 (if x ≠ 0 then x else y)) st) : LCalls Tryd.prog 37 [.sl o 0 2 (.ex 2)] st R := by
  apply c37
  simp only [w37, lenSl_sl, bd_some]
  have ix : ∀ {i : Int}, 0 ≤ i → i < 2 → ixSl 1 (.sl o 0 2 (.ex 2)) (i64 i) = some (.ptr o (0 + i.toNat * 1)) := fun a b => ixSl_of a (by omega)
  apply p37_1
  simp only [w37_1, bInt_int, lint_lss, bd_some]
  rw [show decide ((0 : Int) < ((2 : Nat) : Int)) = true from rfl, bsel_true, ix (by omega) (by omega), bd_some, ld1_of ho, show [i64 x, i64 y][0 + (0 : Int).toNat * 1]? = some (i64 x) from rfl, bd_some]
  simp only [bInt_int, lint_neq, lint_add, bd_some]
  rw [bsel_bool]
  refine ⟨fun e => by rwa [if_pos (by simpa using e)] at h, fun e => ?_⟩
  rw [if_neg (by simpa using e), show IntKind.i64.wrap (0 + 1) = 1 from rfl] at *
  apply p37_1
  simp only [w37_1, bInt_int, lint_lss, bd_some]
  rw [show decide ((1 : Int) < ((2 : Nat) : Int)) = true from rfl, bsel_true, ix (by omega) (by omega), bd_some, ld1_of ho, show [i64 x, i64 y][0 + (1 : Int).toNat * 1]? = some (i64 y) from rfl, bd_some]
  simp only [bInt_int, lint_neq, lint_add, bd_some]
  rw [bsel_bool]
  refine ⟨fun e => h, fun e2 => ?_⟩
  have e2 : y = 0 := by simpa using e2
  subst e2
  rw [show IntKind.i64.wrap (1 + 1) = 2 from rfl]
  apply p37_1
  simp only [w37_1, bInt_int, lint_lss, bd_some]
  rw [show decide ((2 : Int) < ((2 : Nat) : Int)) = false from rfl, bsel_false]
  exact h

/-- Compare -/
theorem compare_spec {a b : Ad} (h : ∀ st', Fr st st' (fun _ => False) → R (i64 (cmpAd a b)) st') : LCalls Tryd.prog 19 [a.lv, b.lv] st R := by
  apply c19
  simp only [w19, box_ad, bd2_some]
  have f0 : Fr st (st ++ [LObj.cells .rw [LV.str a.p, .str a.k, .str a.n, i64 a.ix]]) (fun _ => False) := Fr.app
  have g1 := get_app (y := .cells .rw [LV.str b.p, .str b.k, .str b.n, i64 b.ix]) (box_get (st := st) (a := a))
  generalize hs1 : st ++ [LObj.cells .rw [LV.str a.p, .str a.k, .str a.n, .int .i64 a.ix]] = s1 at *
  have g2 := box_get (st := s1) (a := b)
  have f1 : Fr st (s1 ++ [LObj.cells .rw [LV.str b.p, .str b.k, .str b.n, i64 b.ix]]) (fun _ => False) := f0.trans Fr.app fun _ _ h => h
  generalize s1 ++ [LObj.cells .rw [LV.str b.p, .str b.k, .str b.n, .int .i64 b.ix]] = s2 at *
  have l1 : ∀ {s : LState} {o : Nat} {x : Ad}, s[o]? = some (.cells .rw [LV.str x.p, .str x.k, .str x.n, i64 x.ix]) → ldA s (.ptr o 0) 4 = some x.lv := fun h => by rw [ldA_of h (by simp)]; rfl
  simp only [l1 g1, l1 g2, bd_some, fAddr_ptr, Nat.zero_add, ld1_of g1, ld1_of g2, List.getElem?_cons_zero, List.getElem?_cons_succ]
  refine words_spec fun s3 o1 h1 f3 => ?_
  have g13 := f3.get g1 (by simp)
  have g23 := f3.get g2 (by simp)
  refine ⟨by rw [ld1_of g23]; rfl, by rw [ld1_of g13]; rfl, l1 g23, words_spec fun s4 o2 h2 f4 => ?_⟩
  have g14 := f4.get g13 (by simp)
  have g24 := f4.get g23 (by simp)
  refine ⟨by rw [ld1_of g24]; rfl, by rw [ld1_of g14]; rfl, cmpWords_spec (f4.get h1 (by simp)) h2 ⟨by rw [ld1_of g24]; rfl, by rw [ld1_of g14]; rfl, cmpInt_spec ?_⟩⟩
  have mk : slNew s4 2 (lfill (fun i => some (i * 1, 1)) (List.replicate 2 [LV.int IntKind.i64 0]).flatten [(0, i64 (cmpW a b)), (1, i64 (cmpI a.ix b.ix))]) = some (.sl s4.length 0 2 (.ex 2), s4 ++ [.cells .rw [i64 (cmpW a b), i64 (cmpI a.ix b.ix)]]) := rfl
  rw [mk, bd2_some]
  refine or_spec get_app_new ?_
  exact h _ (((f1.trans f3 fun _ _ h => h).trans f4 fun _ _ h => h).trans Fr.app fun _ _ h => h)

/-- the document's Less -/
theorem less_spec {a b : Ad} (h : ∀ st', Fr st st' (fun _ => False) → R (.bool (lessAd a b)) st') : LCalls Tryd.prog 18 [a.lv, b.lv] st R := by
  apply c18
  simp only [w18, box_ad, bd2_some]
  have f0 : Fr st (st ++ [LObj.cells .rw [LV.str a.p, .str a.k, .str a.n, i64 a.ix]]) (fun _ => False) := Fr.app
  have g1 := get_app (y := .cells .rw [LV.str b.p, .str b.k, .str b.n, i64 b.ix]) (box_get (st := st) (a := a))
  generalize hs1 : st ++ [LObj.cells .rw [LV.str a.p, .str a.k, .str a.n, .int .i64 a.ix]] = s1 at *
  have g2 := box_get (st := s1) (a := b)
  have f1 : Fr st (s1 ++ [LObj.cells .rw [LV.str b.p, .str b.k, .str b.n, i64 b.ix]]) (fun _ => False) := f0.trans Fr.app fun _ _ h => h
  generalize s1 ++ [LObj.cells .rw [LV.str b.p, .str b.k, .str b.n, .int .i64 b.ix]] = s2 at *
  have h := h _ f1
  generalize st.length = oa at *
  generalize s1.length = ob at *
  have ia : ∀ {o : Nat} {i : Int}, 0 ≤ i → i < 3 → ixArr 3 1 (.ptr o 0) (i64 i) = some (.ptr o (0 + i.toNat * 1)) := fun h0 h1 => by simp [ixArr, h0]; omega
  have step : ∀ {i : Int} {x y : List UInt8}, 0 ≤ i → i < 3 → [LV.str a.p, .str a.k, .str a.n, i64 a.ix][0 + i.toNat * 1]? = some (.str x) → [LV.str b.p, .str b.k, .str b.n, i64 b.ix][0 + i.toNat * 1]? = some (.str y) →
      (x ≠ y → R (.bool (Op.bytesLess x y)) s2) → (x = y → P18_1 (.ptr oa 0) (.ptr ob 0) (i64 (i + 1)) R s2) → P18_1 (.ptr oa 0) (.ptr ob 0) (i64 i) R s2 := by
    intro i x y i0 i3 ex ey hne heq
    apply p18_1
    have w1 : IntKind.i64.wrap (i + 1) = i + 1 := wrap_i64 (by omega) (by omega)
    have e1 : bStr .lss (.str x) (.str y) = some (.bool (Op.bytesLess x y)) := rfl
    simp only [w18_1, bInt_int, lint_lss, bd_some, fAddr_ptr, ia i0 i3, ld1_of g1, ld1_of g2, ex, ey, e1, lint_add, w1]
    rw [show decide (i < 3) = true by simp; omega, bsel_true, bStr_str, lstr_neq, bd_some, bsel_bool]
    exact ⟨fun e => hne (by simpa using e), fun e => heq (by simpa using e)⟩
  unfold lessAd at h
  refine step (i := 0) (by omega) (by omega) rfl rfl (fun e => by rwa [if_pos e] at h) fun e => ?_
  rw [if_neg (by simp [e])] at h
  refine step (i := 1) (by omega) (by omega) rfl rfl (fun e => by rwa [if_pos e] at h) fun e => ?_
  rw [if_neg (by simp [e])] at h
  refine step (i := 2) (by omega) (by omega) rfl rfl (fun e => by rwa [if_pos e] at h) fun e => ?_
  rw [if_neg (by simp [e])] at h
  apply p18_1
  simp only [w18_1, bInt_int, lint_lss, bd_some, fAddr_ptr, Nat.zero_add, ld1_of g1, ld1_of g2]
  rw [show decide ((2 : Int) + 1 < 3) = false from rfl, bsel_false]
  exact h

/-! ### slices of addresses -/

def cellsA (a : Ad) : List LV := [.str a.p, .str a.k, .str a.n, i64 a.ix]
def flatA (l : List Ad) : List LV := (l.map cellsA).flatten

theorem flatA_len {l : List Ad} : (flatA l).length = l.length * 4 := by
  induction l with
  | nil => rfl
  | cons a l ih =>
    have : flatA (a :: l) = cellsA a ++ flatA l := rfl
    rw [this, List.length_append, ih, List.length_cons]
    simp [cellsA]; omega

theorem flatA_app {l r : List Ad} : flatA (l ++ r) = flatA l ++ flatA r := by simp [flatA]

/-- A slice that shows these addresses. -/
def RowsA (st : LState) (x : LV) (l : List Ad) : Prop :=
  (l = [] ∧ (x = .nils ∨ x = .emp)) ∨ ∃ o ci m rest, x = .sl o 0 l.length ci ∧ st[o]? = some (.cells m (flatA l ++ rest))

theorem RowsA.len {x : LV} {l : List Ad} (h : RowsA st x l) : lenSl x = some (i64 l.length) := by
  rcases h with ⟨rfl, rfl | rfl⟩ | ⟨o, ci, m, rest, rfl, _⟩ <;> rfl

theorem RowsA.fr {st' : LState} {x : LV} {l : List Ad} {S : Nat → Prop} (h : RowsA st x l) (hf : Fr st st' S) (hs : ∀ j, j < st.length → ¬ S j) : RowsA st' x l := by
  rcases h with h | ⟨o, ci, m, rest, h1, h2⟩
  · exact .inl h
  · exact .inr ⟨o, ci, m, rest, h1, hf.get h2 (hs o (get_lt h2))⟩

theorem RowsA.fr0 {st' : LState} {x : LV} {l : List Ad} (h : RowsA st x l) (hf : Fr st st' (fun _ => False)) : RowsA st' x l := h.fr hf fun _ _ h => h

theorem flatA_at {l : List Ad} {rest : List LV} {i : Nat} (h : i < l.length) : ((flatA l ++ rest).drop (i * 4)).take 4 = cellsA l[i] ∧ i * 4 + 4 ≤ (flatA l ++ rest).length := by
  have hlen := flatA_len (l := l)
  obtain ⟨e1, e2⟩ := flatten_row (rows := l.map cellsA) (c := 4) (by intro r hr; obtain ⟨a, _, rfl⟩ := List.mem_map.1 hr; rfl) (i := i) (r := cellsA l[i]) (by simp [List.getElem?_eq_getElem h])
  have e1 : ((flatA l).drop (i * 4)).take 4 = cellsA l[i] := e1
  have e2 : (i + 1) * 4 ≤ (flatA l).length := e2
  refine ⟨?_, by rw [List.length_append]; omega⟩
  rw [List.drop_append_of_le_length (by omega), List.take_append_of_le_length (by simp; omega), e1]

theorem RowsA.at {x : LV} {l : List Ad} {i : Nat} (h : RowsA st x l) (hi : i < l.length) : ∃ o, ixSl 4 x (i64 i) = some (.ptr o (i * 4)) ∧ ldA st (.ptr o (i * 4)) 4 = some l[i].lv := by
  rcases h with ⟨rfl, _⟩ | ⟨o, ci, m, rest, rfl, h2⟩
  · simp at hi
  · obtain ⟨e1, e2⟩ := flatA_at (rest := rest) hi
    refine ⟨o, ?_, ?_⟩
    · rw [ixSl_of (by omega) (by omega)]; simp
    · rw [ldA_of h2 e2, e1]; rfl

def thenB (o r : Option Bool) : Option Bool := match o with
  | some true => r
  | some false => some false
  | none => none
def seqB (b : Bool) (r : Option Bool) : Option Bool := thenB (some b) r
theorem seqB_eq {b : Bool} {r : Option Bool} : seqB b r = if b = true then r else some false := by cases b <;> rfl

theorem leq23 {p k n p' k' n' : List UInt8} {i i' : Int} : leq Tryd.prog 64 23 (.agg [.str p, .str k, .str n, i64 i]) (.agg [.str p', .str k', .str n', i64 i']) = seqB (p == p') (seqB (k == k') (seqB (n == n') (seqB (i == i') (some true)))) := by kernel_rfl

theorem leq23_iff {a b : Ad} : eqAgg (leq Tryd.prog 64 23) a.lv b.lv = some (decide (a = b)) := by
  have e : eqAgg (leq Tryd.prog 64 23) a.lv b.lv = leq Tryd.prog 64 23 (.agg [.str a.p, .str a.k, .str a.n, i64 a.ix]) (.agg [.str b.p, .str b.k, .str b.n, i64 b.ix]) := rfl
  rw [e, leq23]
  simp only [seqB_eq, beq_iff_eq]
  by_cases h : a = b
  · subst h
    rw [if_pos rfl, if_pos rfl, if_pos rfl, if_pos rfl, decide_eq_true rfl]
  · rw [decide_eq_false h]
    split
    · split
      · split
        · split
          · rename_i h1 h2 h3 h4
            exfalso; apply h
            obtain ⟨p, q, n, i⟩ := a
            obtain ⟨p', q', n', i'⟩ := b
            simp only at h1 h2 h3 h4
            rw [h1, h2, h3, h4]
          · rfl
        · rfl
      · rfl
    · rfl

/-- in -/
theorem in_loop {x : LV} {l : List Ad} {a : Ad} {ob : Nat} (hx : RowsA st x l) (hl : l.length ≤ 1000) (hb : st[ob]? = some (.cells .rw (cellsA a))) :
    ∀ (n i : Nat), n = l.length - i → i ≤ l.length → R (.bool (decide (a ∈ l.drop i))) st → P21_1 x (.ptr ob 0) (i64 i) R st := by
  have lb : ldA st (.ptr ob 0) 4 = some a.lv := by rw [ldA_of hb (by simp [cellsA])]; rfl
  intro n
  induction n with
  | zero =>
    intro i hn hi h
    apply p21_1
    simp only [w21_1, hx.len, bd_some, bInt_int, lint_lss]
    rw [show decide ((i : Int) < (l.length : Nat)) = false by simp; omega, bsel_false]
    rwa [List.drop_eq_nil_of_le (by omega), show decide (a ∈ ([] : List Ad)) = false by simp] at h
  | succ n ih =>
    intro i hn hi h
    have hlt : i < l.length := by omega
    obtain ⟨o, e1, e2⟩ := hx.at hlt
    apply p21_1
    simp only [w21_1, hx.len, bd_some, bInt_int, lint_lss, e1, e2, lb, leq23_iff, eqB_some, eqOut_eql, lint_add, wrap1 (show i < 1000000 by omega)]
    rw [show decide ((i : Int) < (l.length : Nat)) = true by simp; omega, bsel_true, bsel_dec]
    rw [List.drop_eq_getElem_cons hlt] at h
    refine ⟨fun e => ?_, fun e => ?_⟩
    · rwa [decide_eq_true (by rw [e]; simp)] at h
    · refine ih (i + 1) (by omega) (by omega) ?_
      rwa [show decide (a ∈ l[i] :: l.drop (i + 1)) = decide (a ∈ l.drop (i + 1)) by
        rw [decide_eq_decide, List.mem_cons]
        exact ⟨fun h => h.resolve_left fun k => e k.symm, .inr⟩] at h

theorem in_spec {x : LV} {l : List Ad} {a : Ad} (hx : RowsA st x l) (hl : l.length ≤ 1000) (h : ∀ st', Fr st st' (fun _ => False) → R (.bool (decide (a ∈ l))) st') : LCalls Tryd.prog 21 [x, a.lv] st R := by
  apply c21
  simp only [w21, box_ad, bd2_some]
  have h := h _ (Fr.app (y := .cells .rw [LV.str a.p, .str a.k, .str a.n, i64 a.ix]))
  exact in_loop (hx.fr0 Fr.app) hl get_app_new _ 0 rfl (Nat.zero_le _) (by rwa [List.drop_zero])

end Go.Proofs.YtkjmpjaahgficaaDoor
