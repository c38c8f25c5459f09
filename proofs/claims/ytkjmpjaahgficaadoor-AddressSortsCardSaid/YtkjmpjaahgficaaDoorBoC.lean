/- Cloning a slice of addresses; leaving out twins: over the clean machine. -/
import Derived.Test.YtkjmpjaahgficaaDoorBoA
namespace Go.Proofs.YtkjmpjaahgficaaDoor
open Go Go.CO
set_option maxRecDepth 100000

variable {R : LV → LState → Prop} {st : LState}

/-- A slice that owns its object, which is no elder than n0. -/
def OwnA (n0 : Nat) (st : LState) (x : LV) (l : List Ad) : Prop :=
  (l = [] ∧ (x = .nils ∨ ∃ o, x = .sl o 0 0 (.ex 0) ∧ st[o]? = some (.cells .rw []))) ∨ ∃ o, x = .sl o 0 l.length (.rest 4) ∧ st[o]? = some (.cells .rw (flatA l)) ∧ l ≠ [] ∧ n0 ≤ o

theorem OwnA.rows {n0 : Nat} {x : LV} {l : List Ad} (h : OwnA n0 st x l) : RowsA st x l := by
  rcases h with ⟨rfl, rfl | ⟨o, rfl, h⟩⟩ | ⟨o, rfl, h, _, _⟩
  · exact .inl ⟨rfl, .inl rfl⟩
  · exact .inr ⟨o, _, .rw, [], rfl, h⟩
  · exact .inr ⟨o, _, .rw, [], rfl, by rw [List.append_nil]; exact h⟩

/-- slices.Clone -/
theorem clone_spec {x : LV} {l : List Ad} (hx : RowsA st x l) (hl : l.length ≤ 1000) (h : ∀ x' st', OwnA st.length st' x' l → Fr st st' (fun _ => False) → R x' st') : LCalls Tryd.prog 40 [x] st R := by
  apply c40
  have mk : slNew st 0 (lfill (fun i => some (i * 4, 4)) (List.replicate 0 [LV.str [], LV.str [], LV.str [], LV.int IntKind.i64 0]).flatten []) = some (.sl st.length 0 0 (.ex 0), st ++ [.cells .rw []]) := rfl
  have none_ : ∀ {y : LV}, lsrc (st ++ [.cells .rw []]) 4 y = some (0, []) → l = [] → bd2 (lappend (st ++ [.cells .rw []]) 4 56 .rw (.sl st.length 0 0 (.ex 0)) y) fun v3 st4 => R v3 st4 := by
    intro y hy hl0
    subst hl0
    have : lappend (st ++ [.cells .rw []]) 4 56 .rw (.sl st.length 0 0 (.ex 0)) y = some (.sl st.length 0 0 (.ex 0), st ++ [.cells .rw []]) := by simp [lappend, hy]
    rw [this, bd2_some]
    exact h _ _ (.inl ⟨rfl, .inr ⟨_, rfl, get_app_new⟩⟩) Fr.app
  rcases hx with ⟨rfl, rfl | rfl⟩ | ⟨o, ci, m, rest, rfl, h2⟩
  · have e : eqSl .nils .nils = some true := rfl
    simp only [w40, e, eqB_some, eqOut_eql, bd_some, bsel_true]
    exact h _ _ (.inl ⟨rfl, .inl rfl⟩) Fr.refl
  · have e : eqSl .emp .nils = some false := rfl
    simp only [w40, e, eqB_some, eqOut_eql, bd_some, bsel_false, mk, bd2_some]
    exact none_ rfl rfl
  · have e : eqSl (.sl o 0 l.length ci) .nils = some false := rfl
    simp only [w40, e, eqB_some, eqOut_eql, bd_some, bsel_false, mk, bd2_some]
    have hlen := flatA_len (l := l)
    have src : lsrc (st ++ [.cells .rw []]) 4 (.sl o 0 l.length ci) = some (l.length, flatA l) := by
      simp only [lsrc, get_app h2]
      rw [if_pos (by simp; omega), List.drop_zero, ← hlen, List.take_left]
    by_cases hz : l.length = 0
    · have hl0 : l = [] := List.eq_nil_of_length_eq_zero hz
      exact none_ (by rw [src]; subst hl0; rfl) hl0
    · have : lappend (st ++ [.cells .rw []]) 4 56 .rw (.sl st.length 0 0 (.ex 0)) (.sl o 0 l.length ci) = some (.sl (st ++ [LObj.cells .rw []]).length 0 (0 + l.length) (.rest 4), (st ++ [.cells .rw []]) ++ [.cells .rw (flatA l)]) := by
        simp only [lappend, src, hz, if_false, get_app_new]
        rw [if_neg (by omega), if_pos (by simp [room47]; omega)]
        simp
      rw [this, bd2_some, Nat.zero_add]
      refine h _ _ (.inr ⟨_, rfl, get_app_new, by intro e; subst e; simp at hz, by simp⟩) (Fr.app.trans Fr.app fun _ _ h => h)

/-! ### slices.Compact -/

/-- one element more -/
theorem compact_snoc {a b : Ad} : ∀ {l : List Ad}, compactB (l ++ [a, b]) = compactB (l ++ [a]) ++ (if b = a then [] else [b])
  | [] => by
    simp only [List.nil_append, compactB, dd]
    split <;> simp
  | c :: l => by
    have key : ∀ (l : List Ad) (c : Ad), dd c (l ++ [a, b]) = dd c (l ++ [a]) ++ (if b = a then [] else [b]) := by
      intro l
      induction l with
      | nil =>
        intro c
        simp only [List.nil_append, dd]
        by_cases h : a = c
        · subst h; simp only [if_true, List.nil_append]
        · simp only [h, if_false, List.singleton_append]
      | cons d l ih =>
        intro c
        simp only [List.cons_append, dd]
        split
        · exact ih d
        · rw [ih d]; rfl
    simp only [List.cons_append, compactB, key]

theorem take_one {l : List Ad} {m : Nat} (h : m < l.length) : l.take (m + 1) = l.take m ++ [l[m]] := by
  rw [List.take_add_one, List.getElem?_eq_getElem h]; rfl

theorem take_two {l : List Ad} {m : Nat} (h : m + 1 < l.length) : l.take (m + 2) = l.take m ++ [l[m], l[m + 1]] := by
  rw [show m + 2 = (m + 1) + 1 from rfl, take_one h, take_one (show m < l.length by omega), List.append_assoc]; rfl

theorem compact_take {l : List Ad} {m : Nat} (h : m + 1 < l.length) : compactB (l.take (m + 2)) = compactB (l.take (m + 1)) ++ (if l[m + 1] = l[m] then [] else [l[m + 1]]) := by
  rw [take_two h, compact_snoc, take_one (by omega)]

/-- The twins' loop: x: the slice; k: so many are kept; j: of the rest from i0 on. -/
theorem twins_loop {n0 o i0 n : Nat} {l : List Ad} (hn : l.length = n) (hn1 : n ≤ 1000) (h0 : 1 ≤ i0) (hi0 : i0 < n) (ho : n0 ≤ o)
    (h : ∀ st', Fr st st' (fun j => n0 ≤ j) → RowsA st' (.sl o 0 (compactB l).length (.rest 4)) (compactB l) → R (.sl o 0 (compactB l).length (.rest 4)) st') :
    ∀ (c j k : Nat) (s : LState), c = n - (i0 + j) → 1 ≤ j → i0 + j ≤ n → k < i0 + j → (compactB (l.take (i0 + j))).length = k → Fr st s (fun j => n0 ≤ j) →
      s[o]? = some (.cells .rw (flatA (compactB (l.take (i0 + j)) ++ l.drop k))) →
      P42_4 (.sl o 0 n (.rest 4)) (i64 k) (.sl o (i0 * 4) (n - i0) (.rest 4)) (i64 j) R s := by
  intro c
  induction c with
  | zero =>
    intro j k s hc hj hij hk hlen fr hs
    have e : i0 + j = n := by omega
    have et : l.take (i0 + j) = l := List.take_of_length_le (by omega)
    rw [et] at hlen hs
    apply p42_4
    simp only [w42_4, lenSl_sl, bd_some, bInt_int, lint_lss]
    rw [show decide ((j : Int) < ((n - i0 : Nat) : Int)) = false by simp; omega, bsel_false]
    have r1 : (ob3 (some (i64 k)) none none fun l h m => slRoom s 4 (.sl o 0 n (.rest 4)) l h m) = some (.sl o (0 + k * 4) (n - k) (.rest 4)) := by
      simp only [ob3, optNat, Int.natCast_nonneg, if_true, Int.toNat_natCast, slRoom, slSl, lslice, Option.getD_none, Option.getD_some]
      rw [if_pos ⟨trivial, by omega, by omega, Nat.le_refl _⟩]
      by_cases k0 : k = 0
      · subst k0; simp
      · rw [if_neg k0, if_pos (by omega)]
    rw [r1, bd_some]
    have hfl : (flatA (compactB l ++ l.drop k)).length = n * 4 := by
      rw [flatA_len, List.length_append, List.length_drop]; omega
    have r2 : lclear s [LV.str [], LV.str [], LV.str [], LV.int IntKind.i64 0] (.sl o (0 + k * 4) (n - k) (.rest 4)) = some (s.set o (.cells .rw (flatA (compactB l) ++ (List.replicate (n - k) [LV.str [], LV.str [], LV.str [], LV.int IntKind.i64 0]).flatten))) := by
      obtain ⟨d, hd⟩ : ∃ d, n - k = d + 1 := ⟨n - k - 1, by omega⟩
      rw [hd]
      simp only [lclear, hs]
      rw [if_pos ⟨by rw [hfl]; simp; omega, by simp [LV.one], rfl⟩]
      congr 3
      unfold splice
      have e1 : (flatA (compactB l ++ l.drop k)).take (0 + k * 4) = flatA (compactB l) := by
        rw [flatA_app]
        have : 0 + k * 4 = (flatA (compactB l)).length := by rw [flatA_len]; omega
        rw [this, List.take_left]
      rw [e1, List.drop_eq_nil_of_le (by rw [hfl]; simp; omega), List.append_nil]
    rw [r2, lmk_some, bd2_some]
    have r3 : (ob3 none (some (i64 k)) none fun lo hi mx => slRoom (s.set o (.cells .rw (flatA (compactB l) ++ (List.replicate (n - k) [LV.str [], LV.str [], LV.str [], LV.int IntKind.i64 0]).flatten))) 4 (.sl o 0 n (.rest 4)) lo hi mx) = some (.sl o 0 k (.rest 4)) := by
      simp only [ob3, optNat, Int.natCast_nonneg, if_true, Int.toNat_natCast, slRoom]
      rw [if_pos (by omega)]
      simp only [slSl, lslice, Option.getD_none, Option.getD_some]
      rw [if_pos ⟨trivial, by omega, by omega, by omega⟩]
      simp
    rw [r3, bd_some, ← hlen]
    refine h _ (fr.trans (Fr.set ho) fun _ _ h => h) (.inr ⟨o, _, .rw, _, rfl, get_set hs⟩)
  | succ c ih =>
    intro j k s hc hj hij hk hlen fr hs
    have hlt : i0 + j < n := by omega
    obtain ⟨p, hp⟩ : ∃ p, i0 + j = p + 1 := ⟨i0 + j - 1, by omega⟩
    have hpl : p + 1 < l.length := by omega
    have hD := compact_take hpl
    have hcur : ∀ q, k ≤ q → (hq : q < l.length) → ((compactB (l.take (i0 + j)) ++ l.drop k)[q]?) = some l[q] := by
      intro q hkq hq
      rw [List.getElem?_append_right (by omega), List.getElem?_drop, hlen, show k + (q - k) = q by omega, List.getElem?_eq_getElem hq]
    have hlen2 : (compactB (l.take (i0 + j)) ++ l.drop k).length = n := by rw [List.length_append, List.length_drop]; omega
    have rd : ∀ q, k ≤ q → (hq : q < l.length) → ldA s (.ptr o (q * 4)) 4 = some l[q].lv := by
      intro q hkq hq
      obtain ⟨e1, e2⟩ := flatA_at (l := compactB (l.take (i0 + j)) ++ l.drop k) (rest := []) (i := q) (by omega)
      rw [List.append_nil] at e1 e2
      rw [ldA_of hs e2, e1]
      have := hcur q hkq hq
      rw [List.getElem?_eq_getElem (by omega)] at this
      rw [Option.some.inj this]; rfl
    have ix : ∀ q : Nat, q < n - i0 → ixSl 4 (.sl o (i0 * 4) (n - i0) (.rest 4)) (i64 q) = some (.ptr o ((i0 + q) * 4)) := by
      intro q hq
      rw [ixSl_of (by omega) (by omega), Int.toNat_natCast, Nat.add_mul]
    have ixk : ixSl 4 (.sl o 0 n (.rest 4)) (i64 k) = some (.ptr o (0 + k * 4)) := ixSl_of (by omega) (by omega)
    have hjm : IntKind.i64.wrap ((j : Int) - 1) = ((j - 1 : Nat) : Int) := by rw [wrap_i64 (by omega) (by omega)]; omega
    apply p42_4
    simp only [w42_4, lenSl_sl, bd_some, bInt_int, lint_lss, lint_sub, hjm, ix j (by omega), ix (j - 1) (by omega), ixk]
    rw [show decide ((j : Int) < ((n - i0 : Nat) : Int)) = true by simp; omega, bsel_true]
    have e1 : (i0 + j) * 4 = (p + 1) * 4 := by rw [hp]
    have e2 : (i0 + (j - 1)) * 4 = p * 4 := by rw [show i0 + (j - 1) = p by omega]
    simp only [e1, e2, rd (p + 1) (by omega) hpl, rd p (by omega) (by omega), bd_some, leq23_iff, eqB_some, eqOut_neq, bInt_int, lint_add, wrap1 (show j < 1000000 by omega), wrap1 (show k < 1000000 by omega)]
    rw [bsel_bool]
    have hp2 : i0 + (j + 1) = p + 2 := by omega
    refine ⟨fun e => ?_, fun e => ?_⟩
    · have e : ¬ l[p + 1] = l[p] := by simpa using e
      rw [if_neg e] at hD
      have hD' : compactB (l.take (p + 2)) = compactB (l.take (i0 + j)) ++ [l[p + 1]] := by rw [hp]; exact hD
      have hfl : (flatA (compactB (l.take (i0 + j)) ++ l.drop k)).length = n * 4 := by rw [flatA_len, hlen2]
      have w : stV s 4 (.ptr o (0 + k * 4)) l[p + 1].lv = some (s.set o (.cells .rw (flatA (compactB (l.take (p + 2)) ++ l.drop (k + 1))))) := by
        rw [show l[p + 1].lv = .agg (cellsA l[p + 1]) from rfl, stV_agg (n := 4) hs (by rw [hfl]; show 0 + k * 4 + 4 ≤ n * 4; omega) rfl rfl]
        congr 3
        unfold splice
        have hk2 : k < l.length := by omega
        have e3 : flatA (compactB (l.take (i0 + j)) ++ l.drop k) = flatA (compactB (l.take (i0 + j))) ++ (cellsA l[k] ++ flatA (l.drop (k + 1))) := by
          rw [flatA_app, List.drop_eq_getElem_cons hk2]; rfl
        have e4 : 0 + k * 4 = (flatA (compactB (l.take (i0 + j)))).length := by rw [flatA_len]; omega
        rw [e3, e4, List.take_left, ← List.drop_drop, List.drop_left, List.drop_left' (by rfl), hD']
        simp [flatA_app, flatA]
      rw [w, lmk_some, bd2_some]
      refine ih (j + 1) (k + 1) _ (by omega) (by omega) (by omega) (by omega) ?_ (fr.trans (Fr.set ho) fun _ _ h => h) ?_
      · rw [hp2, hD', List.length_append, hlen]; rfl
      · rw [get_set hs, hp2]
    · have e : l[p + 1] = l[p] := by simpa using e
      rw [if_pos e, List.append_nil] at hD
      have hD' : compactB (l.take (p + 2)) = compactB (l.take (i0 + j)) := by rw [hp]; exact hD
      refine ih (j + 1) k s (by omega) (by omega) (by omega) (by omega) ?_ fr ?_
      · rw [hp2, hD', hlen]
      · rw [hp2, hD']; exact hs

/-- the first loop: no twins so far -/
theorem first_loop {n0 o n : Nat} {l : List Ad} {v4 v5 : LV} (hn : l.length = n) (hn1 : n ≤ 1000) (ho : n0 ≤ o) (hs : st[o]? = some (.cells .rw (flatA l)))
    (h : ∀ st', Fr st st' (fun j => n0 ≤ j) → RowsA st' (.sl o 0 (compactB l).length (.rest 4)) (compactB l) → R (.sl o 0 (compactB l).length (.rest 4)) st') :
    ∀ (c i : Nat), c = n - i → 1 ≤ i → i ≤ n → compactB (l.take i) = l.take i → P42_1 (.sl o 0 n (.rest 4)) (i64 i) v4 v5 R st := by
  intro c
  induction c with
  | zero =>
    intro i hc hi hin hd
    have et : l.take i = l := List.take_of_length_le (by omega)
    rw [et] at hd
    apply p42_1
    simp only [w42_1, lenSl_sl, bd_some, bInt_int, lint_lss]
    rw [show decide ((i : Int) < (n : Int)) = false by simp; omega, bsel_false]
    have := h st Fr.refl
    rw [hd, hn] at this
    exact this (.inr ⟨o, _, .rw, [], by rw [hn], by rw [List.append_nil]; exact hs⟩)
  | succ c ih =>
    intro i hc hi hin hd
    have hlt : i < n := by omega
    obtain ⟨p, rfl⟩ : ∃ p, i = p + 1 := ⟨i - 1, by omega⟩
    have hpl : p + 1 < l.length := by omega
    have hD := compact_take hpl
    have hx : RowsA st (.sl o 0 n (.rest 4)) l := .inr ⟨o, _, .rw, [], by rw [hn], by rw [List.append_nil]; exact hs⟩
    obtain ⟨o1, a1, a2⟩ := hx.at hpl
    obtain ⟨o2, b1, b2⟩ := hx.at (show p < l.length by omega)
    have hjm : IntKind.i64.wrap (((p + 1 : Nat) : Int) - 1) = ((p : Nat) : Int) := by rw [wrap_i64 (by omega) (by omega)]; omega
    apply p42_1
    simp only [w42_1, lenSl_sl, bd_some, bInt_int, lint_lss, lint_sub, hjm, a1, a2, b1, b2, leq23_iff, eqB_some, eqOut_eql, lint_add, wrap1 (show p + 1 < 1000000 by omega)]
    rw [show decide (((p + 1 : Nat) : Int) < (n : Int)) = true by simp; omega, bsel_true, bsel_dec]
    refine ⟨fun e => ?_, fun e => ?_⟩
    · rw [if_pos e, List.append_nil] at hD
      have r1 : (ob3 (some (i64 (p + 1 : Nat))) none none fun l h m => slRoom st 4 (.sl o 0 n (.rest 4)) l h m) = some (.sl o ((p + 1) * 4) (n - (p + 1)) (.rest 4)) := by
        simp only [ob3, optNat, Int.natCast_nonneg, if_true, Int.toNat_natCast, slRoom, slSl, lslice, Option.getD_none, Option.getD_some]
        rw [if_pos ⟨trivial, by omega, by omega, Nat.le_refl _⟩, if_neg (by omega), if_pos (by omega), Nat.zero_add]
      rw [r1, bd_some]
      refine twins_loop (i0 := p + 1) hn hn1 hi hlt ho h _ 1 (p + 1) st rfl (Nat.le_refl _) (by omega) (by omega) ?_ Fr.refl ?_
      · rw [hD, hd, List.length_take]; omega
      · rw [hD, hd, List.take_append_drop]; exact hs
    · refine ih (p + 1 + 1) (by omega) (by omega) (by omega) ?_
      rw [if_neg e, hd, ← take_one hpl] at hD
      exact hD

/-- slices.Compact -/
theorem compact_spec {n0 : Nat} {x : LV} {l : List Ad} (hx : OwnA n0 st x l) (hl : l.length ≤ 1000) (h : ∀ x' st', RowsA st' x' (compactB l) → Fr st st' (fun j => n0 ≤ j) → R x' st') : LCalls Tryd.prog 42 [x] st R := by
  have hr := hx.rows
  apply c42
  simp only [w42, hr.len, bd_some, bInt_int, lint_lss]
  rw [bsel_dec]
  refine ⟨fun e => ?_, fun e => ?_⟩
  · refine h _ _ ?_ Fr.refl
    match l, e with
    | [], _ => exact hr
    | [a], _ => exact hr
    | _ :: _ :: _, e => simp at e; omega
  · rcases hx with ⟨rfl, _⟩ | ⟨o, rfl, hs, hne, ho⟩
    · simp at e
    · refine first_loop (n0 := n0) rfl hl ho hs (fun st' f r => h _ _ r f) _ 1 rfl (Nat.le_refl _) (by omega) ?_
      match l, hne with
      | a :: r, _ => rfl

end Go.Proofs.YtkjmpjaahgficaaDoor
