/- The document's Parse and Print, over the clean machine. -/
import Derived.Test.YtkjmpjaahgficaaDoorAnV
namespace Go.Proofs.YtkjmpjaahgficaaDoor
open Go Go.CN
set_option maxRecDepth 100000

variable {R : LV → LState → Prop} {st : LState}

/-! ### Number -/

theorem digit_wrap {n : Nat} : IntKind.u8.wrap (IntKind.i64.wrap (48 + ((n % 10 : Nat) : Int))) = ((UInt8.ofNat (48 + n % 10)).toNat : Nat) := by
  rw [wrap_i64 (by omega) (by omega)]
  have : (UInt8.ofNat (48 + n % 10)).toNat = 48 + n % 10 := by simp; omega
  rw [this, show IntKind.u8.wrap (48 + ((n % 10 : Nat) : Int)) = (48 + ((n % 10 : Nat) : Int)) % 256 from rfl]
  omega

theorem quo_nat {n : Nat} (h : n < 1000000) : lint .quo .i64 (n : Nat) 10 = some (i64 (n / 10 : Nat)) := by
  simp only [lint]
  rw [if_neg (by omega)]
  rw [show Int.tdiv (n : Int) 10 = ((n / 10 : Nat) : Int) by rw [Int.tdiv_eq_ediv_of_nonneg (by omega)]; omega, wrap_i64 (by omega) (by omega)]

theorem rem_nat {n : Nat} : lint .rem .i64 (n : Nat) 10 = some (i64 (n % 10 : Nat)) := by
  simp only [lint]
  rw [if_neg (by omega)]
  rw [show Int.tmod (n : Int) 10 = ((n % 10 : Nat) : Int) by rw [Int.tmod_eq_emod_of_nonneg (by omega)]; omega]

theorem one_byte {c : UInt8} : lbytesStr (st ++ [.cells .rw [u8 c]]) (.sl st.length 0 1 (.ex 1)) = some (.str [c]) := by
  have h : (c.toNat : Int).toNat = c.toNat := Int.toNat_natCast _
  have hlt := c.toNat_lt
  simp [lbytesStr, lsrc, bytesOf]

theorem number_loop : ∀ (f n : Nat) (x : List UInt8) {st : LState}, n + (if x = [] then 1 else 0) < f → n ≤ 999 → x.length + f ≤ 5000 →
    (∀ st', Fr st st' (fun _ => False) → R (.str (if x ≠ [] ∧ n = 0 then x else Lib.decDigits n ++ x)) st') → P36_1 (i64 n) (.str x) R st := by
  intro f
  induction f with
  | zero => intro n x st h; omega
  | succ f ih =>
    intro n x st hf hn hx h
    have step : (x = [] ∨ 0 < n) → P36_1 (i64 (n / 10 : Nat)) (.str ([UInt8.ofNat (48 + n % 10)] ++ x)) R (st ++ [.cells .rw [u8 (UInt8.ofNat (48 + n % 10))]]) := by
      intro hc
      refine ih (n / 10) _ ?_ (by omega) (by simp; omega) fun st' fr => ?_
      · simp only [List.cons_append, List.nil_append, reduceCtorEq, if_false]
        by_cases h0 : x = []
        · rw [if_pos h0] at hf; omega
        · have : 0 < n := hc.resolve_left h0
          rw [if_neg h0] at hf; omega
      · have h := h st' (Fr.app.trans fr fun _ _ h => h)
        have e : (if x ≠ [] ∧ n = 0 then x else Lib.decDigits n ++ x) = if [UInt8.ofNat (48 + n % 10)] ++ x ≠ [] ∧ n / 10 = 0 then [UInt8.ofNat (48 + n % 10)] ++ x else Lib.decDigits (n / 10) ++ ([UInt8.ofNat (48 + n % 10)] ++ x) := by
          rw [if_neg (by rintro ⟨h1, h2⟩; rcases hc with h | h; exact h1 h; omega)]
          by_cases h9 : n < 10
          · rw [if_pos ⟨by simp, by omega⟩, dec_small h9, show n % 10 = n by omega]
          · rw [if_neg (by rintro ⟨_, h⟩; omega), dec_step h9, List.append_assoc]
        rw [e] at h
        exact h
    apply p36_1
    simp only [w36_1, bStr_str, lstr_eql, bd_some, rem_nat, lint_add, bInt_int, cvInt_int, digit_wrap, quo_nat (show n < 1000000 by omega), lint_gtr]
    have one : ∀ {K : LV → LState → Prop}, bd2 (slNew st 1 (lfill (fun i => some (i * 1, 1)) (List.replicate 1 [LV.int IntKind.u8 0]).flatten [(0, LV.int .u8 ((UInt8.ofNat (48 + n % 10)).toNat : Nat))])) K = K (.sl st.length 0 1 (.ex 1)) (st ++ [.cells .rw [u8 (UInt8.ofNat (48 + n % 10))]]) := fun {K} => rfl
    simp only [one, one_byte, bd_some]
    rw [bsel_bool]
    have add1 : bStr .add (.str [UInt8.ofNat (48 + n % 10)]) (.str x) = some (.str ([UInt8.ofNat (48 + n % 10)] ++ x)) := bStr_add (by simp; omega)
    simp only [add1, bd_some]
    refine ⟨fun e => ?_, fun e => ?_⟩
    · exact step (.inl (by simpa using e))
    · rw [bsel_dec]
      refine ⟨fun e2 => step (.inr (by omega)), fun e2 => ?_⟩
      have e : x ≠ [] := by simpa using e
      have := h _ Fr.refl
      rwa [if_pos ⟨e, by omega⟩] at this

/-- Number -/
theorem number_spec {n : Nat} (hn : n ≤ 999) (h : ∀ st', Fr st st' (fun _ => False) → R (.str (Lib.decDigits n)) st') : LCalls Tryd.prog 36 [i64 n] st R := by
  apply c36
  simp only [w36, bInt_int, lint_lss, bd_some, bsel_dec]
  refine ⟨fun h => by omega, fun _ => ?_⟩
  refine number_loop 1100 n [] (by simp; omega) hn (by simp) fun st' f => ?_
  simpa using h st' f

/-- the document's Print -/
theorem refPrint_spec {a : Ad} (hs : a.small) (h : ∀ st', Fr st st' (fun _ => False) → R (.str (printB a)) st') : LCalls Tryd.prog 17 [a.lv] st R := by
  apply c17
  have lda : ldA (st ++ [LObj.cells .rw [LV.str a.p, .str a.k, .str a.n, .int .i64 a.ix]]) (.ptr st.length 0) 4 = some a.lv := by
    rw [ldA_of get_app_new (by simp)]; rfl
  have ia : ∀ {o k : Nat} {i : Int}, 0 ≤ i → i < 3 → ixArr 3 1 (.ptr o k) (i64 i) = some (.ptr o (k + i.toNat * 1)) := fun h0 h1 => by simp [ixArr, h0]; omega
  simp only [w17, box_ad, bd2_some, lda, bd_some]
  refine refRight_spec hs fun s1 f1 => ?_
  have g1 : s1[st.length]? = some (.cells .rw [LV.str a.p, .str a.k, .str a.n, .int .i64 a.ix]) := f1.get get_app_new (by simp)
  have F1 : Fr st s1 (fun _ => False) := Fr.app.trans f1 fun _ _ h => h
  simp only [lun_not, bd_some, bsel_bool]
  refine ⟨fun e => ?_, fun e => ?_⟩
  · have e : a.right = false := by simpa using e
    have := h _ F1
    rwa [show printB a = [] by simp [printB, e]] at this
  · have e : a.right = true := by simpa using e
    obtain ⟨k1, k2, k3, k4, k5⟩ := right_le e
    simp only [fAddr_ptr, Nat.zero_add, bd_some, ia (show (0 : Int) ≤ 0 by omega) (show (0 : Int) < 3 by omega), ia (show (0 : Int) ≤ 1 by omega) (show (1 : Int) < 3 by omega), ia (show (0 : Int) ≤ 2 by omega) (show (2 : Int) < 3 by omega), ld1_of g1]
    rw [show [LV.str a.p, .str a.k, .str a.n, .int .i64 a.ix][Int.toNat 0 * 1]? = some (.str a.p) from rfl, bd_some, bStr_add (by simp; omega), bd_some,
      show [LV.str a.p, .str a.k, .str a.n, .int .i64 a.ix][Int.toNat 1 * 1]? = some (.str a.k) from rfl, bd_some, bStr_add (by simp; omega), bd_some, bStr_add (by simp; omega), bd_some,
      show [LV.str a.p, .str a.k, .str a.n, .int .i64 a.ix][Int.toNat 2 * 1]? = some (.str a.n) from rfl, bd_some, bStr_add (by simp; omega), bd_some]
    simp only [List.getElem?_cons_zero, List.getElem?_cons_succ, bInt_int, lint_geq, bd_some]
    rw [bsel_dec]
    refine ⟨fun e2 => ?_, fun e2 => ?_⟩
    · obtain ⟨n, hn⟩ : ∃ n : Nat, a.ix = n := ⟨a.ix.toNat, by omega⟩
      rw [bStr_add (by simp; omega), bd_some, hn]
      refine number_spec (by omega) fun s2 f2 => ?_
      have hd := (num_dec (n := n) (by omega)).2.2.1
      rw [bStr_add (by simp; omega), bd_some, bStr_add (by simp; omega), bd_some]
      have h := h _ (F1.trans f2 fun _ _ h => h)
      rw [show printB a = a.p ++ [46] ++ a.k ++ [46] ++ a.n ++ ([91] ++ Lib.itoa a.ix ++ [93]) by simp only [printB, e, if_true, show ¬ a.ix = -1 by omega, if_false], hn, itoa_nat] at h
      simpa only [List.append_assoc] using h
    · have e2 : a.ix = -1 := by omega
      have h := h _ F1
      rwa [show printB a = a.p ++ [46] ++ a.k ++ [46] ++ a.n by simp [printB, e, e2]] at h

/-! ### the document's Parse -/

/-- the last steps of the document's Parse, behind the digits -/
def t14 (x0 x2 x4 x5 x8 x9 : LV) (R : LV → LState → Prop) (st : LState) : Prop :=
  bd (bInt BinOp.eql x5 x8) fun v18 =>
    bsel v18
      (bd (mkAgg (lfill (placesL [(0, 3), (3, 1)]) [LV.str [], LV.str [], LV.str [], LV.int IntKind.i64 0] [])) fun v19 =>
        bd2 (lmk (stV st 4 x2 v19)) fun _v20 st21 => bd (ldA st21 x2 4) fun v22 => R (LV.tup [v22, x5]) st21)
      (bd (ixStr x0 x8) fun v23 =>
        bd (bInt BinOp.eql v23 (LV.int IntKind.u8 48)) fun v24 =>
          bsel v24
            (bd (bInt BinOp.sub x5 x8) fun v25 =>
              bd (bInt BinOp.gtr v25 (LV.int IntKind.i64 1)) fun v26 =>
                bsel v26
                  (bd (mkAgg (lfill (placesL [(0, 3), (3, 1)]) [LV.str [], LV.str [], LV.str [], LV.int IntKind.i64 0] [])) fun v27 =>
                    bd2 (lmk (stV st 4 x2 v27)) fun _v28 st29 => bd (ldA st29 x2 4) fun v30 => R (LV.tup [v30, x8]) st29)
                  (bd (lenStr x0) fun v31 =>
                    bd (bInt BinOp.geq x5 v31) fun v32 =>
                      bsel v32
                        (bd (mkAgg (lfill (placesL [(0, 3), (3, 1)]) [LV.str [], LV.str [], LV.str [], LV.int IntKind.i64 0] [])) fun v33 =>
                          bd2 (lmk (stV st 4 x2 v33)) fun _v34 st35 => bd (ldA st35 x2 4) fun v36 => R (LV.tup [v36, x5]) st35)
                        (bd (ixStr x0 x5) fun v37 =>
                          bd (bInt BinOp.neq v37 (LV.int IntKind.u8 93)) fun v38 =>
                            bsel v38
                              (bd (mkAgg (lfill (placesL [(0, 3), (3, 1)]) [LV.str [], LV.str [], LV.str [], LV.int IntKind.i64 0] [])) fun v39 =>
                                bd2 (lmk (stV st 4 x2 v39)) fun _v40 st41 => bd (ldA st41 x2 4) fun v42 => R (LV.tup [v42, x5]) st41)
                              (bd (bInt BinOp.add x5 (LV.int IntKind.i64 1)) fun v43 =>
                                bd (fAddr 3 x4) fun v44 =>
                                  bd2 (lmk (stV st 1 v44 x9)) fun _v45 st46 =>
                                    bd (lenStr x0) fun v47 =>
                                      bd (bInt BinOp.lss v43 v47) fun v48 =>
                                        bsel v48
                                          (bd (mkAgg (lfill (placesL [(0, 3), (3, 1)]) [LV.str [], LV.str [], LV.str [], LV.int IntKind.i64 0] [])) fun v49 =>
                                            bd2 (lmk (stV st46 4 x2 v49)) fun _v50 st51 => bd (ldA st51 x2 4) fun v52 => R (LV.tup [v52, v43]) st51)
                                          (bd (ldA st46 x4 4) fun v53 =>
                                            bd2 (lmk (stV st46 4 x2 v53)) fun _v54 st55 =>
                                              bd (ldA st55 x2 4) fun v56 => R (LV.tup [v56, LV.int IntKind.i64 (-1)]) st55)))))
            (bd (lenStr x0) fun v57 =>
              bd (bInt BinOp.geq x5 v57) fun v58 =>
                bsel v58
                  (bd (mkAgg (lfill (placesL [(0, 3), (3, 1)]) [LV.str [], LV.str [], LV.str [], LV.int IntKind.i64 0] [])) fun v59 =>
                    bd2 (lmk (stV st 4 x2 v59)) fun _v60 st61 => bd (ldA st61 x2 4) fun v62 => R (LV.tup [v62, x5]) st61)
                  (bd (ixStr x0 x5) fun v63 =>
                    bd (bInt BinOp.neq v63 (LV.int IntKind.u8 93)) fun v64 =>
                      bsel v64
                        (bd (mkAgg (lfill (placesL [(0, 3), (3, 1)]) [LV.str [], LV.str [], LV.str [], LV.int IntKind.i64 0] [])) fun v65 =>
                          bd2 (lmk (stV st 4 x2 v65)) fun _v66 st67 => bd (ldA st67 x2 4) fun v68 => R (LV.tup [v68, x5]) st67)
                        (bd (bInt BinOp.add x5 (LV.int IntKind.i64 1)) fun v69 =>
                          bd (fAddr 3 x4) fun v70 =>
                            bd2 (lmk (stV st 1 v70 x9)) fun _v71 st72 =>
                              bd (lenStr x0) fun v73 =>
                                bd (bInt BinOp.lss v69 v73) fun v74 =>
                                  bsel v74
                                    (bd (mkAgg (lfill (placesL [(0, 3), (3, 1)]) [LV.str [], LV.str [], LV.str [], LV.int IntKind.i64 0] [])) fun v75 =>
                                      bd2 (lmk (stV st72 4 x2 v75)) fun _v76 st77 => bd (ldA st77 x2 4) fun v78 => R (LV.tup [v78, v69]) st77)
                                    (bd (ldA st72 x4 4) fun v79 =>
                                      bd2 (lmk (stV st72 4 x2 v79)) fun _v80 st81 =>
                                        bd (ldA st81 x2 4) fun v82 => R (LV.tup [v82, LV.int IntKind.i64 (-1)]) st81)))))

/-- Its store: its answer's place, the address. -/
abbrev S2 (st : LState) (z l : List LV) : LState := st ++ [.cells .rw z, .cells .rw l]

section
variable {z l : List LV}
theorem S2_0 : (S2 st z l)[st.length]? = some (.cells .rw z) := by simp [S2]
theorem S2_1 : (S2 st z l)[st.length + 1]? = some (.cells .rw l) := by simp [S2]
theorem S2_s0 {z' : List LV} : (S2 st z l).set st.length (.cells .rw z') = S2 st z' l := by simp [S2]
theorem S2_s1 {l' : List LV} : (S2 st z l).set (st.length + 1) (.cells .rw l') = S2 st z l' := by simp [S2, List.set_append_right]
theorem S2_fr : Fr st (S2 st z l) (fun _ => False) := ⟨by simp [S2], fun j hj _ => by simp only [S2]; rw [List.getElem?_append_left hj]⟩
theorem S2_w {k : Nat} {v : LV} (hk : k < l.length) (hv : v.one = true) : stV (S2 st z l) 1 (.ptr (st.length + 1) k) v = some (S2 st z (l.set k v)) := by
  rw [stV_of S2_1 hk hv, S2_s1]
theorem S2_w0 {vs : List LV} (hz : z.length = 4) (hv : vs.all LV.one = true) (hn : vs.length = 4) : stV (S2 st z l) 4 (.ptr st.length 0) (.agg vs) = some (S2 st vs l) := by
  rw [stV_agg S2_0 (by omega) hv hn, show splice z 0 vs = vs by simp [splice]; omega, S2_s0]
theorem S2_w1 {vs : List LV} (hz : l.length = 4) (hv : vs.all LV.one = true) (hn : vs.length = 4) : stV (S2 st z l) 4 (.ptr (st.length + 1) 0) (.agg vs) = some (S2 st z vs) := by
  rw [stV_agg S2_1 (by omega) hv hn, show splice l 0 vs = vs by simp [splice]; omega, S2_s1]
theorem S2_a0 (hz : z.length = 4) : ldA (S2 st z l) (.ptr st.length 0) 4 = some (.agg z) := by
  rw [ldA_of S2_0 (by omega), List.drop_zero, List.take_of_length_le (by omega)]
theorem S2_a1 (hz : l.length = 4) : ldA (S2 st z l) (.ptr (st.length + 1) 0) 4 = some (.agg l) := by
  rw [ldA_of S2_1 (by omega), List.drop_zero, List.take_of_length_le (by omega)]
end

theorem mk14 : mkAgg (lfill (placesL [(0, 3), (3, 1)]) [LV.str [], LV.str [], LV.str [], LV.int IntKind.i64 0] []) = some (.agg zad) := rfl

/-- What the document's Parse answers. -/
def refR : PR → LV
  | .bad a => .tup [.agg zad, i64 a]
  | .ok x => .tup [x.lv, i64 (-1)]

theorem refR_end {s : List UInt8} {a : Nat} {x : Ad} : refR (parseEnd s a x) = if a < s.length then .tup [.agg zad, i64 a] else .tup [x.lv, i64 (-1)] := by
  unfold parseEnd; split <;> rfl

theorem u8_eq {a b : UInt8} : ((a.toNat : Nat) : Int) = (b.toNat : Nat) ↔ a = b := by
  constructor
  · intro h; exact UInt8.toNat_inj.1 (by omega)
  · rintro rfl; rfl

/-- behind the digits -/
theorem t14_spec {s : List UInt8} {fr n : Nat} {p k q : List UInt8} {v : LV} {w : Int} (hs : s.length ≤ 1000) (hn : fr + n ≤ s.length)
    (h0 : n = 0 → R (.tup [.agg zad, i64 (fr + n : Nat)]) (S2 st zad [.str p, .str k, .str q, v]))
    (h1 : 0 < n → s[fr]? = some 48 → 1 < n → R (.tup [.agg zad, i64 fr]) (S2 st zad [.str p, .str k, .str q, v]))
    (h2 : 0 < n → ¬ (s[fr]? = some 48 ∧ 1 < n) → s[fr + n]? ≠ some 93 → R (.tup [.agg zad, i64 (fr + n : Nat)]) (S2 st zad [.str p, .str k, .str q, v]))
    (h3 : 0 < n → ¬ (s[fr]? = some 48 ∧ 1 < n) → s[fr + n]? = some 93 → ∀ st', Fr st st' (fun _ => False) → R (refR (parseEnd s (fr + n + 1) ⟨p, k, q, w⟩)) st') (hv : v.one = true) :
    t14 (.str s) (.ptr st.length 0) (.ptr (st.length + 1) 0) (i64 (fr + n : Nat)) (i64 fr) (i64 w) R (S2 st zad [.str p, .str k, .str q, v]) := by
  have z1 : zad.length = 4 := rfl
  have z2 : zad.all LV.one = true := rfl
  have a1 : [LV.str p, .str k, .str q, v].length = 4 := rfl
  have a3 : [LV.str p, .str k, .str q, i64 w].all LV.one = true := rfl
  have a4 : [LV.str p, .str k, .str q, i64 w].length = 4 := rfl
  have wx : stV (S2 st zad [.str p, .str k, .str q, v]) 1 (.ptr (st.length + 1) 3) (i64 w) = some (S2 st zad [.str p, .str k, .str q, i64 w]) := S2_w (by simp) rfl
  unfold t14
  by_cases e0 : n = 0
  · have h0 := h0 e0
    simp only [bInt_int, lint_eql, bd_some]
    rw [show (((fr + n : Nat) : Int) == (fr : Int)) = true by simp [e0], bsel_true]
    simp only [mk14, bd_some, S2_w0 z1 z2 z1, lmk_some, bd2_some, S2_a0 z1]
    exact h0
  have hp : 0 < n := by omega
  have hlt : fr < s.length := by omega
  simp only [bInt_int, lint_eql, bd_some, mk14, S2_w0 z1 z2 z1, lmk_some, bd2_some, S2_a0 z1, ixStr_at (List.getElem?_eq_getElem hlt), lint_sub, sub_i64 (show fr ≤ fr + n by omega) (show fr + n ≤ 1000 by omega), lint_gtr, lenStr_str, lint_geq, fAddr_ptr, Nat.zero_add, wx, lint_add, wrap1 (show fr + n < 1000000 by omega), lint_lss, S2_a1 a1, S2_a1 a4, S2_w0 z1 a3 a4, S2_a0 a4]
  rw [show (((fr + n : Nat) : Int) == (fr : Int)) = false by simp; omega, bsel_false]
  -- the bracket, and what follows
  have rest : ¬ (s[fr]? = some 48 ∧ 1 < n) → bsel (LV.bool (decide (((fr + n : Nat) : Int) ≥ (s.length : Nat)))) (R (.tup [.agg zad, i64 (fr + n : Nat)]) (S2 st zad [.str p, .str k, .str q, v]))
      (bd (ixStr (.str s) (i64 (fr + n : Nat))) fun v63 => bd (bInt BinOp.neq v63 (LV.int IntKind.u8 93)) fun v64 => bsel v64 (R (.tup [.agg zad, i64 (fr + n : Nat)]) (S2 st zad [.str p, .str k, .str q, v]))
        (bsel (LV.bool (decide (((fr + n + 1 : Nat) : Int) < (s.length : Nat)))) (R (.tup [.agg zad, i64 (fr + n + 1 : Nat)]) (S2 st zad [.str p, .str k, .str q, i64 w])) (R (.tup [.agg [.str p, .str k, .str q, i64 w], i64 (-1)]) (S2 st [.str p, .str k, .str q, i64 w] [.str p, .str k, .str q, i64 w])))) := by
    intro hc
    rw [bsel_dec]
    refine ⟨fun e => h2 hp hc (by rw [List.getElem?_eq_none (by omega)]; simp), fun e => ?_⟩
    have hlt2 : fr + n < s.length := by omega
    rw [ixStr_at (List.getElem?_eq_getElem hlt2), bd_some]
    simp only [bInt_int, lint_neq, bd_some]
    rw [bsel_bool]
    refine ⟨fun e2 => h2 hp hc ?_, fun e2 => ?_⟩
    · rw [List.getElem?_eq_getElem hlt2]
      intro e3
      injection e3 with e3
      rw [e3] at e2
      simp at e2
    · have e2 : ((s[fr + n].toNat : Nat) : Int) = ((93 : UInt8).toNat : Nat) := by simpa using e2
      have h3 := h3 hp hc (by rw [List.getElem?_eq_getElem hlt2, u8_eq.1 e2])
      rw [refR_end] at h3
      rw [bsel_dec]
      refine ⟨fun e4 => ?_, fun e4 => ?_⟩
      · have := h3 _ (S2_fr (z := zad) (l := [.str p, .str k, .str q, i64 w]))
        rwa [if_pos (by omega)] at this
      · have := h3 _ (S2_fr (z := [.str p, .str k, .str q, i64 w]) (l := [.str p, .str k, .str q, i64 w]))
        rwa [if_neg (by omega)] at this
  rw [bsel_bool]
  refine ⟨fun e => ?_, fun e => ?_⟩
  · have e : ((s[fr].toNat : Nat) : Int) = ((48 : UInt8).toNat : Nat) := by simpa using e
    have e : s[fr]? = some 48 := by rw [List.getElem?_eq_getElem hlt, u8_eq.1 e]
    rw [show fr + n - fr = n by omega, bsel_dec]
    refine ⟨fun e2 => h1 hp e (by omega), fun e2 => rest (by rintro ⟨_, h⟩; omega)⟩
  · refine rest ?_
    rintro ⟨e1, _⟩
    rw [List.getElem?_eq_getElem hlt] at e1
    injection e1 with e1
    rw [e1] at e
    simp at e

/-- the letters -/
theorem letter_loop {s : List UInt8} {fr k : Nat} {l : List LV} {x8 x9 : LV} (hs : s.length ≤ 1000) (hk : k < 3) (hl : l.length = 4) :
    ∀ (n i : Nat), n = s.length - (fr + i) → fr + i ≤ s.length →
      ((runN okAt 20 i (s.drop (fr + i))).2 = true → R (.tup [.agg zad, i64 (fr + (runN okAt 20 i (s.drop (fr + i))).1 : Nat)]) (S2 st zad l)) →
      ((runN okAt 20 i (s.drop (fr + i))).2 = false → P14_1 (.str s) (.ptr st.length 0) (.ptr (st.length + 1) 0) (i64 (fr + (runN okAt 20 i (s.drop (fr + i))).1 : Nat)) (i64 (k + 1 : Nat)) (i64 fr) x8 x9 R
        (S2 st zad (l.set k (.str ((s.drop fr).take (runN okAt 20 i (s.drop (fr + i))).1))))) →
      P14_4 (.str s) (.ptr st.length 0) (.ptr (st.length + 1) 0) (i64 (fr + i : Nat)) (i64 k) (i64 fr) x8 x9 R (S2 st zad l) := by
  have z1 : zad.length = 4 := rfl
  have z2 : zad.all LV.one = true := rfl
  have ia : ixArr 3 1 (.ptr (st.length + 1) 0) (i64 k) = some (.ptr (st.length + 1) k) := by simp [ixArr]; omega
  intro n
  induction n with
  | zero =>
    intro i hn hi hb hg
    have e : s.drop (fr + i) = [] := List.drop_eq_nil_of_le (by omega)
    rw [e] at hb hg
    simp only [runN] at hb hg
    apply p14_4
    have wk : stV (S2 st zad l) 1 (.ptr (st.length + 1) k) (.str ((s.drop fr).take (fr + i - fr))) = some (S2 st zad (l.set k (.str ((s.drop fr).take (fr + i - fr))))) := S2_w (by omega) rfl
    simp only [w14_4, lenStr_str, bd_some, bInt_int, lint_lss, lint_eql, mk14, S2_w0 z1 z2 z1, lmk_some, bd2_some, S2_a0 z1, slStr_part (show fr ≤ fr + i by omega) hi, fAddr_ptr, Nat.zero_add, ia, wk, lint_add, wrap1 (show k < 1000000 by omega)]
    rw [show decide (((fr + i : Nat) : Int) < (s.length : Nat)) = false by simp; omega, bsel_false, bsel_bool]
    refine ⟨fun e1 => hb ?_, fun e1 => ?_⟩
    · have := beq_iff_eq.1 e1
      simp; omega
    · have e1 : i ≠ 0 := by
        rintro rfl
        simp at e1
      rw [show fr + i - fr = i by omega]
      exact hg (by simpa using e1)
  | succ n ih =>
    intro i hn hi hb hg
    have hlt : fr + i < s.length := by omega
    rw [drop_cons hlt] at hb hg
    have wk : stV (S2 st zad l) 1 (.ptr (st.length + 1) k) (.str ((s.drop fr).take (fr + i - fr))) = some (S2 st zad (l.set k (.str ((s.drop fr).take (fr + i - fr))))) := S2_w (by omega) rfl
    apply p14_4
    simp only [w14_4, lenStr_str, bd_some, bInt_int, lint_lss, ixStr_at (List.getElem?_eq_getElem hlt), lint_sub, sub_i64 (show fr ≤ fr + i by omega) (show fr + i ≤ 1000 by omega)]
    rw [show decide (((fr + i : Nat) : Int) < (s.length : Nat)) = true by simp; omega, bsel_true, show fr + i - fr = i by omega]
    refine lettered_spec ?_
    simp only [lint_eql, bInt_int, bd_some, mk14, S2_w0 z1 z2 z1, lmk_some, bd2_some, S2_a0 z1, slStr_part (show fr ≤ fr + i by omega) hi, fAddr_ptr, Nat.zero_add, ia, wk, lint_add, wrap1 (show k < 1000000 by omega), wrap1 (show fr + i < 1000000 by omega)]
    rw [bsel_bool]
    refine ⟨fun e1 => ?_, fun e1 => ?_⟩
    · rw [bsel_bool]
      refine ⟨fun e2 => ?_, fun e2 => ?_⟩
      · have e2 : i = 20 := by have := beq_iff_eq.1 e2; omega
        rw [show runN okAt 20 i (s[fr + i] :: s.drop (fr + i + 1)) = (i, true) by rw [runN, if_pos e1, if_pos e2]] at hb
        exact hb rfl
      · have e2 : i ≠ 20 := by
          rintro rfl
          simp at e2
        rw [show runN okAt 20 i (s[fr + i] :: s.drop (fr + i + 1)) = runN okAt 20 (i + 1) (s.drop (fr + i + 1)) by rw [runN, if_pos e1, if_neg e2]] at hb hg
        exact ih (i + 1) (by omega) (by omega) hb hg
    · rw [show runN okAt 20 i (s[fr + i] :: s.drop (fr + i + 1)) = (i, i == 0) by rw [runN, if_neg (by simp [e1])]] at hb hg
      rw [bsel_bool]
      refine ⟨fun e2 => hb ?_, fun e2 => ?_⟩
      · have := beq_iff_eq.1 e2
        simp; omega
      · have e2 : i ≠ 0 := by
          rintro rfl
          simp at e2
        rw [show fr + i - fr = i by omega]
        exact hg (by simpa using e2)

end Go.Proofs.YtkjmpjaahgficaaDoor
