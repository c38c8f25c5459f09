/- Reading an address, printing it: the program's functions, over the clean machine. -/
import Derived.Test.YtkjmpjaahgficaaDoorAnX
namespace Go.Proofs.YtkjmpjaahgficaaDoor
open Go Go.CN
set_option maxRecDepth 100000

variable {R : LV → LState → Prop} {st : LState}

/-- how an index is read: where it ends, and whether it failed -/
def ixE (s : List UInt8) (a : Nat) : Nat × Bool :=
  if (digs s a).2 then (a + (digs s a).1, true)
  else if s[a]? = some 48 ∧ 1 < (digs s a).1 then (a, true)
  else if s[a + (digs s a).1]? = some 93 then (a + (digs s a).1 + 1, false) else (a + (digs s a).1, true)

theorem parseIx_eq {s p k n : List UInt8} {a : Nat} : parseIx s p k n a = if (ixE s a).2 then .bad (ixE s a).1 else parseEnd s (ixE s a).1 ⟨p, k, n, numB (cut s a (digs s a).1)⟩ := by
  unfold parseIx ixE
  split
  · simp
  · split
    · simp
    · split <;> simp

theorem cut_len {s : List UInt8} {a : Nat} (ha : a ≤ s.length) : (cut s a (digs s a).1).length = (digs s a).1 := by
  have := digs_le ha
  simp only [cut, List.length_take, List.length_drop]; omega

theorem cut_head {s : List UInt8} {a n : Nat} (h : 0 < n) : (cut s a n)[0]? = s[a]? := by
  unfold cut
  rw [List.getElem?_take_of_lt h, List.getElem?_drop, Nat.add_zero]

theorem fn44 : LV.fn (Fn.func 44) [] [] = LV.fn (.func 44) [] [] := rfl

/-- index -/
theorem index_spec {o o1 o3 : Nat} {u : TypeId} {s : List UInt8} {a : Nat} (ha : a ≤ s.length) (hs : s.length ≤ 1000) (h : st[o]? = some (rd s a false)) (h1 : st[o1]? = some (noNum u)) (h3 : st[o3]? = some pow10) (n1 : o1 ≠ o) (n3 : o3 ≠ o)
    (hR : ∀ v : Int, ((ixE s a).2 = false → v = (numB (cut s a (digs s a).1) : Nat)) → R (i64 v) (st.set o (rd s (ixE s a).1 (ixE s a).2))) :
    LCalls Tryd.prog 30 [.ptr o 0] st R := by
  have hle := digs_le ha
  apply c30
  simp only [w30, lnilCheck_ptr, bd_some, fAddr_ptr, Nat.zero_add, ld1_of h, List.getElem?_cons_zero, List.getElem?_cons_succ]
  refine run_spec kinds_dig (most := 3) hs (by omega) (by omega) ha h ?_
  have hg : (st.set o (rd s (a + (digs s a).1) (digs s a).2))[o]? = some (rd s (a + (digs s a).1) (digs s a).2) := get_set h
  have hg1 : (st.set o (rd s (a + (digs s a).1) (digs s a).2))[o1]? = some (noNum u) := by rw [get_set_ne n1.symm]; exact h1
  have hg3 : (st.set o (rd s (a + (digs s a).1) (digs s a).2))[o3]? = some pow10 := by rw [get_set_ne n3.symm]; exact h3
  show LCalls Tryd.prog 45 [.str (cut s a (digs s a).1)] (st.set o (rd s (a + (digs s a).1) (digs s a).2)) _
  by_cases e : (digs s a).2 = true
  · -- it failed there
    have fin : ∀ v : Int, R (i64 v) (st.set o (rd s (a + (digs s a).1) (digs s a).2)) := by
      intro v
      have := hR v
      rw [show ixE s a = (a + (digs s a).1, true) by unfold ixE; rw [if_pos e]] at this
      rw [e]
      exact this fun h => by cases h
    rw [e] at hg hg1 hg3 fin ⊢
    by_cases e0 : cut s a (digs s a).1 = []
    · rw [e0]
      refine atoi_none hg1 ?_
      simp only [lextract_tup, List.getElem?_cons_zero, List.getElem?_cons_succ, bd_some, ld1_of hg, lun_not, Bool.not_true, bsel_false]
      exact must_bad hg (fin _)
    · refine atoi_spec (by rw [cut_len ha]; exact digs_all.2) digs_all.1 e0 ?_
      simp only [lextract_tup, List.getElem?_cons_zero, List.getElem?_cons_succ, bd_some, ld1_of hg, lun_not, Bool.not_true, bsel_false]
      exact must_bad hg (fin _)
  · have e : (digs s a).2 = false := by simpa using e
    have hpos : 0 < (digs s a).1 := runN_pos e
    have e0 : cut s a (digs s a).1 ≠ [] := by
      intro e0
      have := cut_len ha
      rw [e0] at this; simp at this; omega
    have hdn := dec_num (digs_all (s := s) (a := a)).1 (by rw [cut_len ha]; exact hpos) (by rw [cut_len ha]; exact digs_all.2)
    rw [cut_len ha, cut_head hpos] at hdn
    rw [e] at hg hg1 hg3 ⊢
    refine atoi_spec (by rw [cut_len ha]; exact digs_all.2) digs_all.1 e0 ?_
    simp only [lextract_tup, List.getElem?_cons_zero, List.getElem?_cons_succ, bd_some, ld1_of hg, lun_not, Bool.not_false, bsel_true]
    refine itoa_spec hg3 hdn.2 ?_
    simp only [bStr_str, lstr_neq, bd_some]
    rw [bsel_bool]
    have hR := hR (numB (cut s a (digs s a).1) : Nat) fun _ => rfl
    refine ⟨fun e1 => ?_, fun e1 => ?_⟩
    · have e1 : ¬ (Lib.decDigits (numB (cut s a (digs s a).1)) = cut s a (digs s a).1) := by simpa [cut, digs] using e1
      have e2 : s[a]? = some 48 ∧ 1 < (digs s a).1 := Classical.not_not.1 fun h => e1 (hdn.1.2 h)
      rw [show ixE s a = (a, true) by unfold ixE; rw [if_neg (by simp [e]), if_pos e2]] at hR
      refine fail_spec hg ?_
      simp only [Bool.false_eq_true, if_false, List.set_set]
      exact must_bad (get_set h) hR
    · have e1 : Lib.decDigits (numB (cut s a (digs s a).1)) = cut s a (digs s a).1 := by simpa [cut, digs] using e1
      have e2 := hdn.1.1 e1
      have hx : ixE s a = if s[a + (digs s a).1]? = some 93 then (a + (digs s a).1 + 1, false) else (a + (digs s a).1, true) := by
        unfold ixE; rw [if_neg (by simp [e]), if_neg e2]
      rw [hx] at hR
      refine must_spec (c := 93) hle hs hg (fun e3 => ?_) (fun e3 => ?_)
      · rw [if_pos e3] at hR
        rw [List.set_set]; exact hR
      · rw [if_neg e3] at hR
        rw [List.set_set]; exact hR

/-! ### Parse -/

abbrev zad : List LV := [.str [], .str [], .str [], i64 0]
/-- The store of Parse: its answer's place, the reader, the address. -/
abbrev S3 (st : LState) (z : List LV) (r : LObj) (l : List LV) : LState := st ++ [.cells .rw z, r, .cells .rw l]

section
variable {z l : List LV} {r r' : LObj}
theorem S3_0 : (S3 st z r l)[st.length]? = some (.cells .rw z) := by simp [S3]
theorem S3_1 : (S3 st z r l)[st.length + 1]? = some r := by simp [S3]
theorem S3_2 : (S3 st z r l)[st.length + 2]? = some (.cells .rw l) := by simp [S3]
theorem S3_old {o : Nat} {x : LObj} (h : st[o]? = some x) : (S3 st z r l)[o]? = some x := by
  simp only [S3]; rw [List.getElem?_append_left (get_lt h)]; exact h
theorem S3_s0 {z' : List LV} : (S3 st z r l).set st.length (.cells .rw z') = S3 st z' r l := by
  simp [S3]
theorem S3_s1 : (S3 st z r l).set (st.length + 1) r' = S3 st z r' l := by
  simp [S3, List.set_append_right]
theorem S3_s2 {l' : List LV} : (S3 st z r l).set (st.length + 2) (.cells .rw l') = S3 st z r l' := by
  simp [S3, List.set_append_right]
theorem S3_fr : Fr st (S3 st z r l) (fun _ => False) := ⟨by simp [S3], fun j hj _ => by simp only [S3]; rw [List.getElem?_append_left hj]⟩
theorem S3_w2 {k : Nat} {v : LV} (hk : k < l.length) (hv : v.one = true) : stV (S3 st z r l) 1 (.ptr (st.length + 2) k) v = some (S3 st z r (l.set k v)) := by
  rw [stV_of S3_2 hk hv, S3_s2]
theorem S3_w0 {vs : List LV} (hz : z.length = 4) (hv : vs.all LV.one = true) (hn : vs.length = 4) : stV (S3 st z r l) 4 (.ptr st.length 0) (.agg vs) = some (S3 st vs r l) := by
  rw [stV_agg S3_0 (by omega) hv hn, show splice z 0 vs = vs by simp [splice]; omega, S3_s0]
theorem S3_w2a {vs : List LV} (hz : l.length = 4) (hv : vs.all LV.one = true) (hn : vs.length = 4) : stV (S3 st z r l) 4 (.ptr (st.length + 2) 0) (.agg vs) = some (S3 st z r vs) := by
  rw [stV_agg S3_2 (by omega) hv hn, show splice l 0 vs = vs by simp [splice]; omega, S3_s2]
theorem S3_a0 (hz : z.length = 4) : ldA (S3 st z r l) (.ptr st.length 0) 4 = some (.agg z) := by
  rw [ldA_of S3_0 (by omega), List.drop_zero, List.take_of_length_le (by omega)]
theorem S3_a2 (hz : l.length = 4) : ldA (S3 st z r l) (.ptr (st.length + 2) 0) 4 = some (.agg l) := by
  rw [ldA_of S3_2 (by omega), List.drop_zero, List.take_of_length_le (by omega)]
end

/-- the last steps of Parse -/
def e13 (v0 v3 v6 a0 : LV) (R : LV → LState → Prop) (st : LState) : Prop :=
  bd (lnilCheck v3) fun v36 =>
    bd (fAddr 2 v36) fun v37 =>
      bd (ld1 st v37) fun v38 =>
        bd (lun UnOp.not v38) fun v39 =>
          bsel v39
            (bd (lnilCheck v3) fun v40 =>
              bd (fAddr 1 v40) fun v41 =>
                bd (ld1 st v41) fun v42 =>
                  bd (lenStr a0) fun v43 =>
                    bd (bInt BinOp.lss v42 v43) fun v44 =>
                      bsel v44
                        (bd (lnilCheck v3) fun v45 =>
                          bd (fAddr 1 v45) fun v46 =>
                            bd (ld1 st v46) fun v47 =>
                              LCalls Tryd.prog 31 [v3, v47] st fun _v48 st49 =>
                                bd (lnilCheck v3) fun v50 =>
                                  bd (fAddr 2 v50) fun v51 =>
                                    bd (ld1 st49 v51) fun v52 =>
                                      bsel v52
                                        (bd
                                          (mkAgg
                                            (lfill (placesL [(0, 1), (1, 1), (2, 1), (3, 1)])
                                              [LV.str [], LV.str [], LV.str [], LV.int IntKind.i64 0] []))
                                          fun v53 =>
                                          bd (lnilCheck v3) fun v54 =>
                                            bd (fAddr 1 v54) fun v55 =>
                                              bd (ld1 st49 v55) fun v56 =>
                                                bd2 (lmk (stV st49 4 v0 v53)) fun _v57 st58 =>
                                                  ld1 st58 v55 = some v56 ∧
                                                    bd (ldA st58 v0 4) fun v59 => R (LV.tup [v59, v56, LV.int IntKind.i64 4]) st58)
                                        (bd (ldA st49 v6 4) fun v60 =>
                                          bd2 (lmk (stV st49 4 v0 v60)) fun _v61 st62 =>
                                            bd (ldA st62 v0 4) fun v63 =>
                                              R (LV.tup [v63, LV.int IntKind.i64 0, LV.int IntKind.i64 0]) st62))
                        (bd (lnilCheck v3) fun v64 =>
                          bd (fAddr 2 v64) fun v65 =>
                            bd (ld1 st v65) fun v66 =>
                              bsel v66
                                (bd
                                  (mkAgg
                                    (lfill (placesL [(0, 1), (1, 1), (2, 1), (3, 1)])
                                      [LV.str [], LV.str [], LV.str [], LV.int IntKind.i64 0] []))
                                  fun v67 =>
                                  bd (lnilCheck v3) fun v68 =>
                                    bd (fAddr 1 v68) fun v69 =>
                                      bd (ld1 st v69) fun v70 =>
                                        bd2 (lmk (stV st 4 v0 v67)) fun _v71 st72 =>
                                          ld1 st72 v69 = some v70 ∧
                                            bd (ldA st72 v0 4) fun v73 => R (LV.tup [v73, v70, LV.int IntKind.i64 4]) st72)
                                (bd (ldA st v6 4) fun v74 =>
                                  bd2 (lmk (stV st 4 v0 v74)) fun _v75 st76 =>
                                    bd (ldA st76 v0 4) fun v77 => R (LV.tup [v77, LV.int IntKind.i64 0, LV.int IntKind.i64 0]) st76)))
            (bd (lnilCheck v3) fun v78 =>
              bd (fAddr 2 v78) fun v79 =>
                bd (ld1 st v79) fun v80 =>
                  bsel v80
                    (bd
                      (mkAgg
                        (lfill (placesL [(0, 1), (1, 1), (2, 1), (3, 1)]) [LV.str [], LV.str [], LV.str [], LV.int IntKind.i64 0] []))
                      fun v81 =>
                      bd (lnilCheck v3) fun v82 =>
                        bd (fAddr 1 v82) fun v83 =>
                          bd (ld1 st v83) fun v84 =>
                            bd2 (lmk (stV st 4 v0 v81)) fun _v85 st86 =>
                              ld1 st86 v83 = some v84 ∧ bd (ldA st86 v0 4) fun v87 => R (LV.tup [v87, v84, LV.int IntKind.i64 4]) st86)
                    (bd (ldA st v6 4) fun v88 =>
                      bd2 (lmk (stV st 4 v0 v88)) fun _v89 st90 =>
                        bd (ldA st90 v0 4) fun v91 => R (LV.tup [v91, LV.int IntKind.i64 0, LV.int IntKind.i64 0]) st90))

theorem mk13 : mkAgg (lfill (placesL [(0, 1), (1, 1), (2, 1), (3, 1)]) [LV.str [], LV.str [], LV.str [], LV.int IntKind.i64 0] []) = some (.agg zad) := rfl

theorem e13_spec {s : List UInt8} {a : Nat} {bad : Bool} {l : List LV} (ha : a ≤ s.length) (hl : l.length = 4) (ho : l.all LV.one = true)
    (hb : (bad = true ∨ a < s.length) → ∀ st', Fr st st' (fun _ => False) → R (.tup [.agg zad, i64 a, i64 4]) st')
    (hg : bad = false → a = s.length → ∀ st', Fr st st' (fun _ => False) → R (.tup [.agg l, i64 0, i64 0]) st') :
    e13 (.ptr st.length 0) (.ptr (st.length + 1) 0) (.ptr (st.length + 2) 0) (.str s) R (S3 st zad (rd s a bad) l) := by
  have z1 : zad.length = 4 := rfl
  have z2 : zad.all LV.one = true := rfl
  simp only [e13, lnilCheck_ptr, bd_some, fAddr_ptr, Nat.zero_add, ld1_of S3_1, List.getElem?_cons_zero, List.getElem?_cons_succ, lun_not, lenStr_str, bInt_int, lint_lss, mk13, S3_w0 z1 z2 z1, S3_w0 z1 ho hl, lmk_some, bd2_some, S3_a0 z1, S3_a0 hl, S3_a2 hl]
  cases bad with
  | true =>
    simp only [Bool.not_true, bsel_false, bsel_true]
    exact ⟨trivial, hb (.inl rfl) _ S3_fr⟩
  | false =>
    simp only [Bool.not_false, bsel_false, bsel_true, bsel_dec]
    refine ⟨fun h => ?_, fun h => hg rfl (by omega) _ S3_fr⟩
    refine fail_spec S3_1 ?_
    simp only [Bool.false_eq_true, if_false, S3_s1, ld1_of S3_1, List.getElem?_cons_zero, List.getElem?_cons_succ, bd_some, bsel_true, S3_w0 z1 z2 z1, lmk_some, bd2_some, S3_a0 z1]
    exact ⟨trivial, hb (.inr (by omega)) _ S3_fr⟩

end Go.Proofs.YtkjmpjaahgficaaDoor
