/- The document's Parse, over the clean machine: the digits; all of it. -/
import Derived.Test.YtkjmpjaahgficaaDoorAnB
namespace Go.Proofs.YtkjmpjaahgficaaDoor
open Go Go.CN
set_option maxRecDepth 100000

variable {R : LV → LState → Prop} {st : LState}

theorem take_dig {s : List UInt8} {fr i : Nat} (h : fr + i < s.length) : numB ((s.drop fr).take (i + 1)) = 10 * numB ((s.drop fr).take i) + (s[fr + i].toNat - 48) := by
  have e : (s.drop fr).take (i + 1) = (s.drop fr).take i ++ [s[fr + i]] := by
    rw [List.take_add_one, List.getElem?_drop, List.getElem?_eq_getElem h]; rfl
  rw [e, numB, List.foldl_append]; rfl

/-- the digits' loop, its last steps named -/
def w14_7' (x0 x2 x4 x5 x6 x7 x8 x9 : LV) (R : LV → LState → Prop) (st : LState) : Prop :=
  bd (lenStr x0) fun v0 =>
    bd (bInt BinOp.lss x5 v0) fun v1 =>
      bsel v1
        (bd (ixStr x0 x5) fun v2 =>
          bd (bInt BinOp.geq v2 (LV.int IntKind.u8 48)) fun v3 =>
            bsel v3
              (bd (ixStr x0 x5) fun v4 =>
                bd (bInt BinOp.leq v4 (LV.int IntKind.u8 57)) fun v5 =>
                  bsel v5
                    (bd (bInt BinOp.sub x5 x8) fun v6 =>
                      bd (bInt BinOp.eql v6 (LV.int IntKind.i64 3)) fun v7 =>
                        bsel v7
                          (bd (mkAgg (lfill (placesL [(0, 3), (3, 1)]) [LV.str [], LV.str [], LV.str [], LV.int IntKind.i64 0] [])) fun v8 =>
                            bd2 (lmk (stV st 4 x2 v8)) fun _v9 st10 => bd (ldA st10 x2 4) fun v11 => R (LV.tup [v11, x5]) st10)
                          (bd (bInt BinOp.mul (LV.int IntKind.i64 10) x9) fun v12 =>
                            bd (ixStr x0 x5) fun v13 =>
                              bd (bInt BinOp.sub v13 (LV.int IntKind.u8 48)) fun v14 =>
                                bd (cvInt IntKind.i64 v14) fun v15 =>
                                  bd (bInt BinOp.add v12 v15) fun v16 =>
                                    bd (bInt BinOp.add x5 (LV.int IntKind.i64 1)) fun v17 =>
                                      P14_7 x0 x2 x4 v17 x6 x7 x8 v16 R
                                        st))
                    (t14 x0 x2 x4 x5 x8 x9 R st))
              (t14 x0 x2 x4 x5 x8 x9 R st))
        (t14 x0 x2 x4 x5 x8 x9 R st)
theorem p14_7' (x0 x2 x4 x5 x6 x7 x8 x9 : LV) (h : w14_7' x0 x2 x4 x5 x6 x7 x8 x9 R st) : P14_7 x0 x2 x4 x5 x6 x7 x8 x9 R st := p14_7 _ _ _ _ _ _ _ _ h

/-- the digits -/
theorem digit_loop {s : List UInt8} {fr : Nat} {p k q : List UInt8} {v x6 x7 : LV} (hs : s.length ≤ 1000) (hv : v.one = true) :
    ∀ (m i w : Nat), m = s.length - (fr + i) → fr + i ≤ s.length → w = numB ((s.drop fr).take i) → w < 10 ^ i → i ≤ 3 →
      ((runN (fun _ => isDig) 3 i (s.drop (fr + i))).2 = true → R (.tup [.agg zad, i64 (fr + (runN (fun _ => isDig) 3 i (s.drop (fr + i))).1 : Nat)]) (S2 st zad [.str p, .str k, .str q, v])) →
      (∀ n, n = (runN (fun _ => isDig) 3 i (s.drop (fr + i))).1 → (runN (fun _ => isDig) 3 i (s.drop (fr + i))).2 = false →
        (s[fr]? = some 48 → 1 < n → R (.tup [.agg zad, i64 fr]) (S2 st zad [.str p, .str k, .str q, v])) ∧
        (¬ (s[fr]? = some 48 ∧ 1 < n) → s[fr + n]? ≠ some 93 → R (.tup [.agg zad, i64 (fr + n : Nat)]) (S2 st zad [.str p, .str k, .str q, v])) ∧
        (¬ (s[fr]? = some 48 ∧ 1 < n) → s[fr + n]? = some 93 → ∀ st', Fr st st' (fun _ => False) → R (refR (parseEnd s (fr + n + 1) ⟨p, k, q, (numB ((s.drop fr).take n) : Nat)⟩)) st')) →
      P14_7 (.str s) (.ptr st.length 0) (.ptr (st.length + 1) 0) (i64 (fr + i : Nat)) x6 x7 (i64 fr) (i64 w) R (S2 st zad [.str p, .str k, .str q, v]) := by
  have z1 : zad.length = 4 := rfl
  have z2 : zad.all LV.one = true := rfl
  intro m
  induction m with
  | zero =>
    intro i w hm hi hw hlt hi3 hb hg
    have e : s.drop (fr + i) = [] := List.drop_eq_nil_of_le (by omega)
    rw [e] at hb hg
    simp only [runN] at hb hg
    apply p14_7'
    simp only [w14_7', lenStr_str, bd_some, bInt_int, lint_lss]
    rw [show decide (((fr + i : Nat) : Int) < (s.length : Nat)) = false by simp; omega, bsel_false]
    refine t14_spec hs hi (fun e => hb (by simpa using e)) (fun h0 => ?_) (fun h0 => ?_) (fun h0 => ?_) hv
    · exact (hg i rfl (by simp; omega)).1
    · exact (hg i rfl (by simp; omega)).2.1
    · rw [hw]; exact (hg i rfl (by simp; omega)).2.2
  | succ m ih =>
    intro i w hm hi hw hlt hi3 hb hg
    have hl : fr + i < s.length := by omega
    rw [drop_cons hl] at hb hg
    have stop : isDig s[fr + i] = false → t14 (.str s) (.ptr st.length 0) (.ptr (st.length + 1) 0) (i64 (fr + i : Nat)) (i64 fr) (i64 w) R (S2 st zad [.str p, .str k, .str q, v]) := by
      intro e1
      rw [show runN (fun _ => isDig) 3 i (s[fr + i] :: s.drop (fr + i + 1)) = (i, i == 0) by rw [runN, if_neg (by simp [e1])]] at hb hg
      refine t14_spec hs hi (fun e => hb (by simpa using e)) (fun h0 => ?_) (fun h0 => ?_) (fun h0 => ?_) hv
      · exact (hg i rfl (by simp; omega)).1
      · exact (hg i rfl (by simp; omega)).2.1
      · rw [hw]; exact (hg i rfl (by simp; omega)).2.2
    apply p14_7'
    simp only [w14_7', lenStr_str, bd_some, bInt_int, lint_lss, ixStr_at (List.getElem?_eq_getElem hl), lint_geq, lint_leq, lint_sub, sub_i64 (show fr ≤ fr + i by omega) (show fr + i ≤ 1000 by omega), lint_eql, mk14, S2_w0 z1 z2 z1, lmk_some, bd2_some, S2_a0 z1, lint_mul, cvInt_int, lint_add, wrap1 (show fr + i < 1000000 by omega)]
    rw [show decide (((fr + i : Nat) : Int) < (s.length : Nat)) = true by simp; omega, bsel_true, show fr + i - fr = i by omega, bsel_dec]
    refine ⟨fun e1 => ?_, fun e1 => stop (by simp [isDig]; omega)⟩
    rw [bsel_dec]
    refine ⟨fun e2 => ?_, fun e2 => stop (by simp [isDig]; omega)⟩
    have hd : isDig s[fr + i] = true := by simp [isDig]; omega
    rw [bsel_bool]
    refine ⟨fun e3 => ?_, fun e3 => ?_⟩
    · have e3 : i = 3 := by have := beq_iff_eq.1 e3; omega
      rw [show runN (fun _ => isDig) 3 i (s[fr + i] :: s.drop (fr + i + 1)) = (i, true) by rw [runN, if_pos hd, if_pos e3]] at hb
      exact hb rfl
    · have e3 : i ≠ 3 := by
        rintro rfl
        simp at e3
      rw [show runN (fun _ => isDig) 3 i (s[fr + i] :: s.drop (fr + i + 1)) = runN (fun _ => isDig) 3 (i + 1) (s.drop (fr + i + 1)) by rw [runN, if_pos hd, if_neg e3]] at hb hg
      have hw3 : w < 1000 := by
        have : 10 ^ i ≤ 10 ^ 3 := Nat.pow_le_pow_right (by omega) (by omega)
        omega
      have eq : IntKind.i64.wrap (IntKind.i64.wrap (10 * ((w : Nat) : Int)) + IntKind.i64.wrap (IntKind.u8.wrap (((s[fr + i].toNat : Nat) : Int) - 48))) = ((10 * w + (s[fr + i].toNat - 48) : Nat) : Int) := by
        rw [show IntKind.u8.wrap (((s[fr + i].toNat : Nat) : Int) - 48) = (((s[fr + i].toNat : Nat) : Int) - 48) % 256 from rfl]
        rw [show (((s[fr + i].toNat : Nat) : Int) - 48) % 256 = ((s[fr + i].toNat - 48 : Nat) : Int) by omega]
        rw [wrap_i64 (n := 10 * ((w : Nat) : Int)) (by omega) (by omega), wrap_i64 (n := ((s[fr + i].toNat - 48 : Nat) : Int)) (by omega) (by omega), wrap_i64 (by omega) (by omega)]
        omega
      rw [eq]
      refine ih (i + 1) _ (by omega) (by omega) (by rw [take_dig hl, hw]) ?_ (by omega) hb hg
      rw [Nat.pow_succ]; omega

/-- where the names are read -/
theorem names_at {s : List UInt8} {at_ k : Nat} {l : List LV} {x7 x8 x9 : LV} (hs : s.length ≤ 1000) (hk : k < 3) (hk0 : k ≠ 0) (hl : l.length = 4) (ha : at_ ≤ s.length)
    (hd : s[at_]? ≠ some 46 → R (.tup [.agg zad, i64 at_]) (S2 st zad l))
    (hb : s[at_]? = some 46 → (word s (at_ + 1)).2 = true → R (.tup [.agg zad, i64 (at_ + 1 + (word s (at_ + 1)).1 : Nat)]) (S2 st zad l))
    (hg : s[at_]? = some 46 → (word s (at_ + 1)).2 = false → P14_1 (.str s) (.ptr st.length 0) (.ptr (st.length + 1) 0) (i64 (at_ + 1 + (word s (at_ + 1)).1 : Nat)) (i64 (k + 1 : Nat)) (i64 (at_ + 1 : Nat)) x8 x9 R
        (S2 st zad (l.set k (.str (cut s (at_ + 1) (word s (at_ + 1)).1))))) :
    P14_1 (.str s) (.ptr st.length 0) (.ptr (st.length + 1) 0) (i64 at_) (i64 k) x7 x8 x9 R (S2 st zad l) := by
  have z1 : zad.length = 4 := rfl
  have z2 : zad.all LV.one = true := rfl
  apply p14_1
  simp only [w14_1, lenStr_str, bd_some, bInt_int, lint_lss, lint_gtr, lint_geq, mk14, S2_w0 z1 z2 z1, lmk_some, bd2_some, S2_a0 z1, lint_add, wrap1 (show at_ < 1000000 by omega)]
  rw [show decide ((k : Int) < 3) = true by simp; omega, bsel_true, show decide ((k : Int) > 0) = true by simp; omega, bsel_true, bsel_dec]
  refine ⟨fun e => hd (by rw [List.getElem?_eq_none (by omega)]; simp), fun e => ?_⟩
  have hlt : at_ < s.length := by omega
  simp only [ixStr_at (List.getElem?_eq_getElem hlt), bd_some, bInt_int, lint_neq]
  rw [bsel_bool]
  refine ⟨fun e2 => hd ?_, fun e2 => ?_⟩
  · rw [List.getElem?_eq_getElem hlt]
    intro e3
    injection e3 with e3
    rw [e3] at e2
    simp at e2
  · have e2 : ((s[at_].toNat : Nat) : Int) = ((46 : UInt8).toNat : Nat) := by simpa using e2
    have e2 : s[at_]? = some 46 := by rw [List.getElem?_eq_getElem hlt, u8_eq.1 e2]
    exact letter_loop (i := 0) (fr := at_ + 1) hs hk hl _ rfl (by omega) (hb e2) (hg e2)

/-- the document's Parse -/
theorem refParse_spec {s : List UInt8} (hs : s.length ≤ 1000) (hR : ∀ st', Fr st st' (fun _ => False) → R (refR (parseB s)) st') : LCalls Tryd.prog 14 [.str s] st R := by
  apply c14
  have mka : mkAgg (lfill (placesL [(0, 3), (3, 1)]) [LV.str [], LV.str [], LV.str [], LV.int IntKind.i64 0] [(1, LV.int IntKind.i64 (-1))]) = some (.agg [.str [], .str [], .str [], i64 (-1)]) := rfl
  have len1 : (st ++ [LObj.cells .rw zad]).length = st.length + 1 := by simp
  have mkS : (st ++ [LObj.cells .rw zad]) ++ [LObj.cells .rw zad] = S2 st zad zad := by simp [S2]
  have z1 : zad.length = 4 := rfl
  have z2 : zad.all LV.one = true := rfl
  simp only [w14, nw_eq, mka, bd_some, len1, mkS]
  rw [S2_w1 (l := zad) (vs := [.str [], .str [], .str [], i64 (-1)]) rfl rfl rfl, lmk_some, bd2_some]
  unfold parseB at hR
  have l1 := word_le (s := s) (a := 0) (Nat.zero_le _)
  -- the first name
  apply p14_1
  simp only [w14_1, bInt_int, lint_lss, lint_gtr, bd_some]
  rw [show decide ((0 : Int) < 3) = true from rfl, bsel_true, show decide ((0 : Int) > 0) = false from rfl, bsel_false]
  refine letter_loop (fr := 0) (k := 0) hs (by omega) rfl _ 0 rfl (by omega) (fun e1 => ?_) (fun e1 => ?_)
  · have e1 : (word s 0).2 = true := e1
    rw [if_pos e1] at hR; exact hR _ S2_fr
  have e1 : (word s 0).2 = false := e1
  rw [if_neg (by rw [e1]; simp)] at hR
  -- the second one
  refine names_at (at_ := 0 + (word s 0).1) (k := 1) hs (by omega) (by omega) rfl l1 (fun d1 => ?_) (fun d1 e2 => ?_) (fun d1 e2 => ?_)
  · rw [if_neg d1] at hR; exact hR _ S2_fr
  · rw [if_pos d1, parse2, if_pos e2] at hR; exact hR _ S2_fr
  rw [if_pos d1, parse2, if_neg (by rw [e2]; simp)] at hR
  have l2 := get_le d1
  have l3 := word_le l2
  generalize 0 + (word s 0).1 + 1 = a at *
  -- the third one
  refine names_at (at_ := a + (word s a).1) (k := 2) hs (by omega) (by omega) rfl l3 (fun d2 => ?_) (fun d2 e3 => ?_) (fun d2 e3 => ?_)
  · rw [if_neg d2] at hR; exact hR _ S2_fr
  · rw [if_pos d2, parse3, if_pos e3] at hR; exact hR _ S2_fr
  rw [if_pos d2, parse3, if_neg (by rw [e3]; simp)] at hR
  have l4 := get_le d2
  have l5 := word_le l4
  generalize a + (word s a).1 + 1 = b at *
  generalize b + (word s b).1 = c at *
  unfold parseTail at hR
  -- the index
  have t1 : ∀ (p k q : List UInt8), (∀ st', Fr st st' (fun _ => False) → R (refR (if s[c]? = some 91 then parseIx s p k q (c + 1) else parseEnd s c ⟨p, k, q, -1⟩)) st') →
      P14_1 (.str s) (.ptr st.length 0) (.ptr (st.length + 1) 0) (i64 c) (i64 3) (i64 b) (LV.tup []) (LV.tup []) R (S2 st zad [.str p, .str k, .str q, i64 (-1)]) := by
    intro p k q hR
    have a1 : [LV.str p, .str k, .str q, i64 (-1)].length = 4 := rfl
    have a3 : [LV.str p, .str k, .str q, i64 (-1)].all LV.one = true := rfl
    apply p14_1
    simp only [w14_1, lenStr_str, bd_some, bInt_int, lint_lss, mk14, S2_w0 z1 z2 z1, lmk_some, bd2_some, S2_a0 z1, S2_a1 a1, S2_w0 z1 a3 a1, S2_a0 a1, lint_add, wrap1 (show c < 1000000 by omega)]
    rw [show decide ((3 : Int) < 3) = false from rfl, bsel_false]
    -- no index
    have noix : s[c]? ≠ some 91 → bsel (LV.bool (decide ((c : Int) < (s.length : Nat)))) (R (.tup [.agg zad, i64 c]) (S2 st zad [.str p, .str k, .str q, i64 (-1)])) (R (.tup [.agg [.str p, .str k, .str q, i64 (-1)], i64 (-1)]) (S2 st [.str p, .str k, .str q, i64 (-1)] [.str p, .str k, .str q, i64 (-1)])) := by
      intro d3
      rw [if_neg d3, refR_end] at hR
      rw [bsel_dec]
      refine ⟨fun e => ?_, fun e => ?_⟩
      · rw [if_pos (by omega)] at hR; exact hR _ S2_fr
      · rw [if_neg (by omega)] at hR; exact hR _ S2_fr
    by_cases hlt : c < s.length
    · rw [show decide ((c : Int) < (s.length : Nat)) = true by simp; omega] at noix ⊢
      simp only [bsel_true, ixStr_at (List.getElem?_eq_getElem hlt), bd_some, bInt_int, lint_eql]
      rw [bsel_bool]
      refine ⟨fun e => ?_, fun e => ?_⟩
      · have e : ((s[c].toNat : Nat) : Int) = ((91 : UInt8).toNat : Nat) := by simpa using e
        have e : s[c]? = some 91 := by rw [List.getElem?_eq_getElem hlt, u8_eq.1 e]
        rw [if_pos e] at hR
        unfold parseIx at hR
        refine digit_loop (fr := c + 1) hs rfl _ 0 0 rfl (by omega) rfl (by omega) (by omega) (fun e4 => ?_) (fun n hn e4 => ?_)
        · have e4 : (digs s (c + 1)).2 = true := e4
          rw [if_pos e4] at hR; exact hR _ S2_fr
        · have e4 : (digs s (c + 1)).2 = false := e4
          have hn : n = (digs s (c + 1)).1 := hn
          rw [if_neg (by rw [e4]; simp), ← hn] at hR
          refine ⟨fun h1 h2 => ?_, fun h1 h2 => ?_, fun h1 h2 => ?_⟩
          · rw [if_pos ⟨h1, h2⟩] at hR; exact hR _ S2_fr
          · rw [if_neg h1, if_neg h2] at hR; exact hR _ S2_fr
          · rw [if_neg h1, if_pos h2] at hR; exact hR
      · refine noix ?_
        intro e3
        rw [List.getElem?_eq_getElem hlt] at e3
        injection e3 with e3
        rw [e3] at e
        simp at e
    · have := noix (by rw [List.getElem?_eq_none (by omega)]; simp)
      rw [show decide ((c : Int) < (s.length : Nat)) = false by simp; omega] at this ⊢
      exact this
  exact t1 _ _ _ hR

end Go.Proofs.YtkjmpjaahgficaaDoor
