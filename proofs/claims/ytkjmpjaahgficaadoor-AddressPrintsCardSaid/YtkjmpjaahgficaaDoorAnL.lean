/- AddressParses, AddressPrints: what is read is what is printed; the two laws over the clean machine. -/
import Derived.Test.YtkjmpjaahgficaaDoorAnC
namespace Go.Proofs.YtkjmpjaahgficaaDoor
open Go Go.CN
set_option maxRecDepth 100000

/-! ### plain laws -/

theorem drop_cut {s : List UInt8} {a n : Nat} : s.drop a = cut s a n ++ s.drop (a + n) := by
  unfold cut
  rw [← List.drop_drop, List.take_append_drop]

theorem drop_at {s : List UInt8} {a : Nat} {c : UInt8} (h : s[a]? = some c) : s.drop a = c :: s.drop (a + 1) := by
  obtain ⟨h1, h2⟩ := List.getElem?_eq_some_iff.1 h
  rw [drop_cons h1, h2]

theorem num_cut {s : List UInt8} {a : Nat} (ha : a ≤ s.length) (h : (digs s a).2 = false) (h1 : ¬ (s[a]? = some 48 ∧ 1 < (digs s a).1)) :
    numB (cut s a (digs s a).1) ≤ 999 ∧ Lib.decDigits (numB (cut s a (digs s a).1)) = cut s a (digs s a).1 := by
  have hpos : 0 < (digs s a).1 := runN_pos h
  have hdn := dec_num (digs_all (s := s) (a := a)).1 (by rw [cut_len ha]; exact hpos) (by rw [cut_len ha]; exact digs_all.2)
  rw [cut_len ha, cut_head hpos] at hdn
  exact ⟨hdn.2, hdn.1.2 h1⟩

theorem end_ok {s : List UInt8} {a : Nat} {x y : Ad} (ha : a ≤ s.length) (h : parseEnd s a x = .ok y) : y = x ∧ s.drop a = [] := by
  unfold parseEnd at h
  split at h
  · cases h
  · cases h
    exact ⟨rfl, List.drop_eq_nil_of_le (by omega)⟩

/-- what is read may be, and is printed so -/
theorem parse_ok {s : List UInt8} {a : Ad} (h : parseB s = .ok a) : a.right = true ∧ printB a = s := by
  unfold parseB at h
  split at h
  · cases h
  rename_i e1
  have e1 : (word s 0).2 = false := by simpa using e1
  split at h
  case isFalse => cases h
  rename_i d1
  obtain ⟨n1, _⟩ := word_named (Nat.zero_le _) e1
  have l2 := get_le d1
  have q1 : s = cut s 0 (word s 0).1 ++ 46 :: s.drop (0 + (word s 0).1 + 1) := by
    have := drop_cut (s := s) (a := 0) (n := (word s 0).1)
    rw [drop_at d1] at this
    exact this
  generalize 0 + (word s 0).1 + 1 = i at *
  generalize cut s 0 (word s 0).1 = p at *
  unfold parse2 at h
  split at h
  · cases h
  rename_i e2
  have e2 : (word s i).2 = false := by simpa using e2
  split at h
  case isFalse => cases h
  rename_i d2
  obtain ⟨n2, _⟩ := word_named l2 e2
  have l3 := get_le d2
  have q2 : s.drop i = cut s i (word s i).1 ++ 46 :: s.drop (i + (word s i).1 + 1) := by
    have := drop_cut (s := s) (a := i) (n := (word s i).1)
    rwa [drop_at d2] at this
  generalize i + (word s i).1 + 1 = j at *
  generalize cut s i (word s i).1 = k at *
  unfold parse3 at h
  split at h
  · cases h
  rename_i e3
  have e3 : (word s j).2 = false := by simpa using e3
  obtain ⟨n3, _⟩ := word_named l3 e3
  have l4 := word_le l3
  have q3 := drop_cut (s := s) (a := j) (n := (word s j).1)
  generalize j + (word s j).1 = m at *
  generalize cut s j (word s j).1 = n at *
  unfold parseTail at h
  split at h
  · rename_i d3
    have l5 := get_le d3
    have q4 := drop_at d3
    generalize m + 1 = b at *
    unfold parseIx at h
    split at h
    · cases h
    rename_i e4
    have e4 : (digs s b).2 = false := by simpa using e4
    split at h
    · cases h
    rename_i e5
    split at h
    case isFalse => cases h
    rename_i d4
    obtain ⟨g1, g2⟩ := num_cut l5 e4 e5
    have q5 : s.drop b = cut s b (digs s b).1 ++ 93 :: s.drop (b + (digs s b).1 + 1) := by
      have := drop_cut (s := s) (a := b) (n := (digs s b).1)
      rwa [drop_at d4] at this
    obtain ⟨rfl, q6⟩ := end_ok (get_le d4) h
    rw [q6] at q5
    have r : Ad.right ⟨p, k, n, (numB (cut s b (digs s b).1) : Nat)⟩ = true := by
      simp only [Ad.right, n1, n2, n3, Bool.true_and, Bool.and_eq_true, decide_eq_true_eq]
      omega
    refine ⟨r, ?_⟩
    unfold printB
    rw [if_pos r, if_neg (by show ¬ ((numB (cut s b (digs s b).1) : Nat) : Int) = -1; omega)]
    show p ++ [46] ++ k ++ [46] ++ n ++ ([91] ++ Lib.itoa (numB (cut s b (digs s b).1) : Nat) ++ [93]) = s
    rw [itoa_nat, g2]
    conv => rhs; rw [q1, q2, q3, q4, q5]
    simp
  · obtain ⟨rfl, q4⟩ := end_ok l4 h
    have r : Ad.right ⟨p, k, n, -1⟩ = true := by
      simp [Ad.right, n1, n2, n3]
    refine ⟨r, ?_⟩
    unfold printB
    rw [if_pos r, if_pos rfl]
    show p ++ [46] ++ k ++ [46] ++ n ++ [] = s
    conv => rhs; rw [q1, q2, q3, q4]
    simp

/-- a name, where it stands -/
theorem word_here {s l r : List UInt8} {a : Nat} (h : s.drop a = l ++ r) (hl : namedB l = true) (hr : ∀ c, r[0]? = some c → c = 46 ∨ c = 91) :
    word s a = (l.length, false) ∧ cut s a l.length = l ∧ s.drop (a + l.length) = r := by
  refine ⟨by unfold word; rw [h]; exact word_app hl hr, by unfold cut; rw [h]; simp, by rw [← List.drop_drop, h]; simp⟩

theorem drop_head {s r : List UInt8} {a : Nat} {c : UInt8} (h : s.drop a = c :: r) : s[a]? = some c ∧ s.drop (a + 1) = r := by
  refine ⟨?_, by rw [← List.drop_drop, h]; rfl⟩
  have : (s.drop a)[0]? = some c := by rw [h]; rfl
  rwa [List.getElem?_drop, Nat.add_zero] at this

theorem drop_none {s : List UInt8} {a : Nat} (h : s.drop a = []) : s[a]? = none ∧ ¬ a < s.length := by
  have := List.drop_eq_nil_iff.1 h
  exact ⟨List.getElem?_eq_none this, by omega⟩

/-- what is printed is read -/
theorem parse_print {a : Ad} (h : a.right = true) : parseB (printB a) = .ok a := by
  have hr := h
  simp only [Ad.right, Bool.and_eq_true, decide_eq_true_eq] at hr
  obtain ⟨n1, n2, n3, i1, i2⟩ := hr
  have q0 : (printB a).drop 0 = a.p ++ 46 :: (a.k ++ 46 :: (a.n ++ (if a.ix = -1 then [] else 91 :: (Lib.itoa a.ix ++ [93])))) := by
    simp only [printB, h, if_true, List.drop_zero]
    split <;> simp
  generalize printB a = s at *
  obtain ⟨w1, c1, r1⟩ := word_here q0 n1 (by intro c hc; simp at hc; exact .inl hc.symm)
  obtain ⟨d1, r2⟩ := drop_head r1
  unfold parseB
  rw [w1, if_neg (by simp), if_pos d1, c1]
  show parse2 s a.p (0 + a.p.length + 1) = _
  generalize 0 + a.p.length + 1 = i at *
  obtain ⟨w2, c2, r3⟩ := word_here r2 n2 (by intro c hc; simp at hc; exact .inl hc.symm)
  obtain ⟨d2, r4⟩ := drop_head r3
  unfold parse2
  rw [w2, if_neg (by simp), if_pos d2, c2]
  show parse3 s a.p a.k (i + a.k.length + 1) = _
  generalize i + a.k.length + 1 = j at *
  obtain ⟨w3, c3, r5⟩ := word_here r4 n3 (by
    intro c hc
    split at hc
    · simp at hc
    · simp at hc; exact .inr hc.symm)
  unfold parse3
  rw [w3, if_neg (by simp), c3]
  show parseTail s a.p a.k a.n (j + a.n.length) = _
  generalize j + a.n.length = m at *
  unfold parseTail
  by_cases e : a.ix = -1
  · rw [if_pos e] at r5
    obtain ⟨g1, g2⟩ := drop_none r5
    rw [if_neg (by rw [g1]; simp), parseEnd, if_neg g2]
    cases a; simp at e; subst e; rfl
  · rw [if_neg e] at r5
    obtain ⟨d3, r6⟩ := drop_head r5
    rw [if_pos d3]
    obtain ⟨n, hn⟩ : ∃ n : Nat, a.ix = n := ⟨a.ix.toNat, by omega⟩
    rw [hn, itoa_nat] at r6
    obtain ⟨g1, g2, g3, g4⟩ := num_dec (n := n) (by omega)
    generalize hD : Lib.decDigits n = D at *
    generalize m + 1 = b at *
    have w4 : digs s b = (D.length, false) := by
      unfold digs
      rw [r6, runN_app (p := fun _ => isDig) (m := 3) (i := 0) (r := [93]) (fun j c hc => g1 c (List.mem_of_getElem? hc)) (by omega) (by intro c hc; simp at hc; subst hc; rfl) (by omega), Nat.zero_add]
    have c4 : cut s b D.length = D := by unfold cut; rw [r6]; simp
    have r7 : s.drop (b + D.length) = [93] := by rw [← List.drop_drop, r6]; simp
    obtain ⟨d4, r8⟩ := drop_head r7
    have hl : b ≤ s.length := by
      rcases Nat.lt_or_ge s.length b with h | h
      · rw [List.drop_eq_nil_of_le (by omega)] at r6; simp at r6
      · exact h
    have lead : ¬ (s[b]? = some 48 ∧ 1 < D.length) := by
      have hh : s[b]? = D[0]? := by
        have := cut_head (s := s) (a := b) (n := D.length) g2
        rw [c4] at this; exact this.symm
      rw [hh]
      refine (dec_num g1 g2 g3).1.1 ?_
      rw [g4, hD]
    unfold parseIx
    rw [w4, if_neg (by simp), if_neg lead, if_pos d4, c4, g4]
    show parseEnd s (b + D.length + 1) _ = _
    rw [parseEnd, if_neg (drop_none r8).2]
    cases a; simp at hn; subst hn; rfl

/-! ### the laws -/

variable {R : LV → LState → Prop} {st : LState}

def extK : List (FuncId × ExtK) := [(75, .count), (106, .indexByte), (82, .same), (83, .noZero 5)]
theorem ext_ok : OraOk Tryd.prog (extT extK) := extT_ok fun p hp => by
  simp only [extK, List.mem_cons, List.not_mem_nil, or_false] at hp
  rcases hp with rfl | rfl | rfl | rfl
  · exact ⟨Tryd.f75, Tryd.func75, by kernel_rfl, by kernel_rfl, by kernel_rfl, (show Extern.find Tryd.f75 = some Extern.BytealgCount.count by kernel_rfl)⟩
  · exact ⟨Tryd.f106, Tryd.func106, by kernel_rfl, by kernel_rfl, by kernel_rfl, (show Extern.find Tryd.f106 = some Extern.BytealgIndexByte.indexByte by kernel_rfl)⟩
  · exact ⟨Tryd.f82, Tryd.func82, by kernel_rfl, by kernel_rfl, by kernel_rfl, (show Extern.find Tryd.f82 = some Extern.AbiNoEscape.same by kernel_rfl)⟩
  · exact ⟨Tryd.f83, Tryd.func83, by kernel_rfl, by kernel_rfl, by kernel_rfl, #[3], 71, by kernel_rfl, by kernel_rfl⟩

theorem awake_run : (lrunX Tryd.prog (extT extK) 100000 60 9 [] []).map (·.1) = some (.bool true) := by kernel_rfl

theorem awake_spec (h : R (.bool true) st) : LCalls Tryd.prog 9 [] st R := lrunX_forget cm_mixed ext_ok awake_run rfl rfl h

def thenB (o r : Option Bool) : Option Bool := match o with
  | some true => r
  | some false => some false
  | none => none
def seqB (b : Bool) (r : Option Bool) : Option Bool := thenB (some b) r

theorem leq23 {p k n p' k' n' : List UInt8} {i i' : Int} : leq Tryd.prog 64 23 (.agg [.str p, .str k, .str n, i64 i]) (.agg [.str p', .str k', .str n', i64 i']) = seqB (p == p') (seqB (k == k') (seqB (n == n') (seqB (i == i') (some true)))) := by kernel_rfl
theorem leq28 {p k n p' k' n' : List UInt8} {i i' : Int} : leq Tryd.prog 64 28 (.agg [.str p, .str k, .str n, i64 i]) (.agg [.str p', .str k', .str n', i64 i']) = thenB (seqB (p == p') (seqB (k == k') (seqB (n == n') (some true)))) (seqB (i == i') (some true)) := by kernel_rfl

theorem same23 {a : Ad} : eqB .eql (eqAgg (leq Tryd.prog 64 23) a.lv a.lv) = some (.bool true) := by
  rw [show eqAgg (leq Tryd.prog 64 23) a.lv a.lv = leq Tryd.prog 64 23 (.agg [.str a.p, .str a.k, .str a.n, i64 a.ix]) (.agg [.str a.p, .str a.k, .str a.n, i64 a.ix]) from rfl, leq23]
  simp [seqB, thenB]
theorem same23z : eqB .eql (eqAgg (leq Tryd.prog 64 23) (.agg zad) (.agg zad)) = some (.bool true) := same23 (a := ⟨[], [], [], 0⟩)
theorem same28 {a : Ad} : eqB .eql (eqAgg (leq Tryd.prog 64 28) a.lv a.lv) = some (.bool true) := by
  rw [show eqAgg (leq Tryd.prog 64 28) a.lv a.lv = leq Tryd.prog 64 28 (.agg [.str a.p, .str a.k, .str a.n, i64 a.ix]) (.agg [.str a.p, .str a.k, .str a.n, i64 a.ix]) from rfl, leq28]
  simp [seqB, thenB]

theorem nw_st {l vs : List LV} {K : LV → LState → Prop} (hl : l.length = 4) (hv : vs.all LV.one = true) (hn : vs.length = 4) :
    bd2 (lmk (stV (st ++ [.cells .rw l]) 4 (.ptr st.length 0) (.agg vs))) K = K lundef (st ++ [.cells .rw vs]) := by
  rw [stV_agg get_app_new (by omega) hv hn, show splice l 0 vs = vs by simp [splice]; omega, lmk_some, bd2_some, List.set_append_right _ _ (Nat.le_refl _)]
  simp

theorem right_small {a : Ad} (h : a.right = true) : a.small := by
  obtain ⟨h1, h2, h3, _⟩ := right_le h
  exact ⟨by omega, by omega, by omega⟩

/-- AddressParses -/
theorem parses_law {s : List UInt8} {o1 o3 : Nat} {u : TypeId} (h1 : st[o1]? = some (noNum u)) (h3 : st[o3]? = some pow10) (hR : ∀ st', R (.bool true) st') : LCalls Tryd.prog 4 [.str s] st R := by
  have z1 : zad.length = 4 := rfl
  have z2 : zad.all LV.one = true := rfl
  apply c4
  simp only [w4, lenStr_str, bd_some, bInt_int, lint_gtr, bsel_dec]
  refine ⟨fun _ => awake_spec (hR _), fun hl => awake_spec ?_⟩
  simp only [lun_not, Bool.not_true, bd_some, bsel_false]
  refine parse_spec (by omega) h1 h3 fun s1 f1 => ?_
  cases hp : parseB s with
  | bad p =>
    simp only [codeR, lextract_tup, List.getElem?_cons_zero, List.getElem?_cons_succ, bd_some, nw_eq]
    rw [nw_st z1 z2 z1]
    refine refParse_spec (by omega) fun s2 f2 => ?_
    rw [hp]
    simp only [refR, lextract_tup, List.getElem?_cons_zero, List.getElem?_cons_succ, bd_some, nw_eq]
    rw [nw_st z1 z2 z1, bInt_int, lint_geq, bd_some, bsel_dec]
    refine ⟨fun _ => ?_, fun h => by omega⟩
    rw [ldA_of (get_app (f2.get get_app_new (by simp))) (by simp)]
    simp only [mk13, bd_some]
    rw [show LV.agg ((zad.drop 0).take 4) = .agg zad from rfl, same23z]
    simp only [bd_some, bsel_true, bInt_int, lint_eql, beq_self_eq_true]
    exact hR _
  | ok a =>
    obtain ⟨r1, r2⟩ := parse_ok hp
    have v1 : [LV.str a.p, .str a.k, .str a.n, i64 a.ix].all LV.one = true := rfl
    have v2 : [LV.str a.p, .str a.k, .str a.n, i64 a.ix].length = 4 := rfl
    have av : a.lv = .agg [.str a.p, .str a.k, .str a.n, i64 a.ix] := rfl
    simp only [codeR, lextract_tup, List.getElem?_cons_zero, List.getElem?_cons_succ, bd_some, nw_eq]
    rw [av, nw_st z1 v1 v2]
    refine refParse_spec (by omega) fun s2 f2 => ?_
    rw [hp]
    simp only [refR, lextract_tup, List.getElem?_cons_zero, List.getElem?_cons_succ, bd_some, nw_eq]
    rw [av, nw_st z1 v1 v2, bInt_int, lint_geq, bd_some, show decide ((-1 : Int) ≥ 0) = false from rfl, bsel_false]
    have g1 := get_app (y := .cells .rw [LV.str a.p, .str a.k, .str a.n, i64 a.ix]) (f2.get get_app_new (by simp))
    have g2 := get_app_new (st := s2) (y := .cells .rw [LV.str a.p, .str a.k, .str a.n, i64 a.ix])
    have k3 := get_app (y := .cells .rw [LV.str a.p, .str a.k, .str a.n, i64 a.ix]) (f2.get (get_app (y := .cells .rw [LV.str a.p, .str a.k, .str a.n, i64 a.ix]) (f1.get h3 (by simp))) (by simp))
    generalize s2 ++ [LObj.cells .rw [LV.str a.p, .str a.k, .str a.n, i64 a.ix]] = s3 at *
    have l1 : ∀ {s4 : LState} {o : Nat}, s4[o]? = some (.cells .rw [LV.str a.p, .str a.k, .str a.n, i64 a.ix]) → ldA s4 (.ptr o 0) 4 = some a.lv := fun h => by rw [ldA_of h (by simp)]; rfl
    rw [l1 g1, bd_some, l1 g2, bd_some]
    refine of_spec fun s4 f4 => ?_
    refine ⟨l1 (f4.get g2 (by simp)), ?_⟩
    rw [same28]
    simp only [bd_some, bsel_true, bInt_int, lint_eql, beq_self_eq_true]
    have g3 := f4.get g1 (by simp)
    rw [l1 g3, bd_some]
    refine right_spec (right_small r1) fun s5 f5 => ?_
    rw [r1, bsel_true, l1 (f5.get g3 (by simp)), bd_some]
    refine print_spec (right_small r1) (f5.get (f4.get k3 (by simp)) (by simp)) fun s6 f6 => ?_
    rw [bStr_str, lstr_eql, bd_some, r2, beq_self_eq_true]
    exact hR _

/-- AddressPrints -/
theorem prints_law {a : Ad} {o1 o3 : Nat} {u : TypeId} (h1 : st[o1]? = some (noNum u)) (h3 : st[o3]? = some pow10) (hR : ∀ st', R (.bool true) st') : LCalls Tryd.prog 5 [a.lv] st R := by
  have z1 : zad.length = 4 := rfl
  have v1 : [LV.str a.p, .str a.k, .str a.n, i64 a.ix].all LV.one = true := rfl
  have v2 : [LV.str a.p, .str a.k, .str a.n, i64 a.ix].length = 4 := rfl
  have l1 : ∀ {s4 : LState} {o : Nat}, s4[o]? = some (.cells .rw [LV.str a.p, .str a.k, .str a.n, i64 a.ix]) → ldA s4 (.ptr o 0) 4 = some a.lv := fun h => by rw [ldA_of h (by simp)]; rfl
  apply c5
  simp only [w5, box_ad, bd2_some]
  have g0 := box_get (st := st) (a := a)
  have k1 := get_app (y := .cells .rw [LV.str a.p, .str a.k, .str a.n, i64 a.ix]) h1
  have k3 := get_app (y := .cells .rw [LV.str a.p, .str a.k, .str a.n, i64 a.ix]) h3
  have o0 : o1 ≠ st.length ∧ o3 ≠ st.length := ⟨by have := get_lt h1; omega, by have := get_lt h3; omega⟩
  generalize st ++ [LObj.cells .rw [LV.str a.p, .str a.k, .str a.n, i64 a.ix]] = s0 at *
  rw [l1 g0, bd_some]
  refine great_spec fun g s1 hg f1 => ?_
  cases g with
  | true => rw [bsel_true]; exact awake_spec (hR _)
  | false =>
    have hs := hg rfl
    rw [bsel_false]
    refine awake_spec ?_
    simp only [lun_not, Bool.not_true, bd_some, bsel_false]
    have g1 := f1.get g0 (by simp)
    rw [l1 g1, bd_some]
    refine print_spec hs (f1.get k3 (by simp)) fun s2 f2 => ?_
    have g2 := f2.get g1 (by simp)
    rw [l1 g2, bd_some, bd_some]
    refine right_spec hs fun s3 f3 => ?_
    have g3 := f3.get g2 (by simp)
    refine ⟨l1 g3, of_spec fun s4 f4 => refRight_spec hs fun s5 f5 => ?_⟩
    have g5 := f5.get (f4.get g3 (by simp)) (by simp)
    have bb : bBool .neq (.bool a.right) (.bool a.right) = some (.bool false) := by cases a.right <;> rfl
    rw [bb, bd_some, bsel_false, l1 g5, bd_some]
    refine of_spec fun s6 f6 => refPrint_spec hs fun s7 f7 => ?_
    have g7 := f7.get (f6.get g5 (by simp)) (by simp)
    rw [bStr_str, lstr_neq, bd_some, beq_self_eq_true, Bool.not_true, bsel_false, l1 g7, bd_some]
    refine right_spec hs fun s8 f8 => ?_
    have g8 := f8.get g7 (by simp)
    simp only [lun_not, bd_some]
    rw [bsel_bool]
    refine ⟨fun e => ?_, fun e => ?_⟩
    · have e : a.right = false := by simpa using e
      rw [show printB a = [] by simp [printB, e]]
      simp only [bStr_str, lstr_eql, bd_some, beq_self_eq_true]
      exact hR _
    · have e : a.right = true := by simpa using e
      have keep : ∀ {o : Nat} {x : LObj}, s0[o]? = some x → s8[o]? = some x := fun h =>
        f8.get (f7.get (f6.get (f5.get (f4.get (f3.get (f2.get (f1.get h (by simp)) (by simp)) (by simp)) (by simp)) (by simp)) (by simp)) (by simp)) (by simp)
      have hlen : (printB a).length ≤ 1000 := by
        obtain ⟨p1, p2, p3, p4, p5⟩ := right_le e
        unfold printB
        rw [if_pos e]
        split
        · simp; omega
        · rename_i hi
          obtain ⟨n, hn⟩ : ∃ n : Nat, a.ix = n := ⟨a.ix.toNat, by omega⟩
          have := (num_dec (n := n) (by omega)).2.2.1
          rw [hn, itoa_nat]
          simp; omega
      refine parse_spec hlen (keep k1) (keep k3) fun s9 f9 => ?_
      rw [parse_print e]
      have av : a.lv = .agg [.str a.p, .str a.k, .str a.n, i64 a.ix] := rfl
      simp only [codeR, lextract_tup, List.getElem?_cons_zero, List.getElem?_cons_succ, bd_some, nw_eq]
      rw [av, nw_st z1 v1 v2, bInt_int, lint_eql, bd_some, beq_self_eq_true, bsel_true, l1 get_app_new, bd_some, l1 (get_app (f9.get g8 (by simp))), bd_some, same23, bd_some]
      exact hR _

end Go.Proofs.YtkjmpjaahgficaaDoor
