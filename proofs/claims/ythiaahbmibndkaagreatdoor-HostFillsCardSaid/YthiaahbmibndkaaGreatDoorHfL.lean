/- HostFills: the loops, and the law of arguments. -/
import Derived.Test.YthiaahbmibndkaaGreatDoorHfD
namespace Go.Proofs.YthiaahbmibndkaaGreatDoor
open Go Go.CP
set_option maxRecDepth 100000

variable {R : LV → LState → Prop} {st : LState} {f : Option Nat} {j : Nat}

theorem wrap_small {n : Int} (h0 : 0 ≤ n) (h : n ≤ 1000) : IntKind.i64.wrap n = n := wrap_i64 (by omega) (by omega)

theorem loop2 {x0 x8 : LV} {b : Int} {m : Nat} (hm : b.tmod 14 = m) (hm14 : m < 14) (hR : ∀ st, R (.bool true) st) : ∀ (d j : Nat) (st : LState) (f : Option Nat), m = j + d → HS st f (min j 8) →
    P3_4 x0 (.int .u8 b) (.ptr 0 0) (.ptr 4 0) x8 (i64 j) R st := by
  intro d
  induction d with
  | zero =>
    intro j st f hj hs
    apply p3_4
    have hw : IntKind.i64.wrap (m : Int) = m := wrap_small (by omega) (by omega)
    have hrem : lint .rem .u8 b 14 = some (.int .u8 m) := by show (if (14 : Int) = 0 then none else some (LV.int .u8 (b.tmod 14))) = _; rw [if_neg (by omega), hm]
    simp only [w3_4, bInt_int, hrem, bd_some, cvInt_int, hw, lint_lss, bsel_dec]
    refine ⟨fun h => by omega, fun _ => ?_⟩
    refine waiting_spec hs fun s1 hs1 => ?_
    have hmin : lmins [.int .i64 (m : Int), .int .i64 8] = some (i64 (min j 8 : Nat)) := by
      simp only [lmins, lfold, lmin2]
      congr 2
      split <;> omega
    simp only [hmin, bInt_int, lint_eql, beq_self_eq_true, bd_some, bsel_true]
    refine busy_spec hs1 fun s2 hs2 => ?_
    simp only [lun_not, bd_some]
    exact hR _
  | succ d ih =>
    intro j st f hj hs
    apply p3_4
    have hw : IntKind.i64.wrap (m : Int) = m := wrap_small (by omega) (by omega)
    have hrem : lint .rem .u8 b 14 = some (.int .u8 m) := by show (if (14 : Int) = 0 then none else some (LV.int .u8 (b.tmod 14))) = _; rw [if_neg (by omega), hm]
    have hbx : ld1 st (.ptr 0 4) = some .txt := by rw [ld1_of hs.bx]; rfl
    have e1 : mkAgg (lfill (fun i => some (i * 1, 1)) [LV.str [], LV.str [], LV.str []] [(0, LV.str [112, 97]), (1, LV.str [118, 109]), (2, LV.str [97])]) = some (.agg [.str [112, 97], .str [118, 109], .str [97]]) := rfl
    have e2 : mkAgg (lfill (placesL [(0, 3), (3, 1)]) [LV.str [], LV.str [], LV.str [], LV.int IntKind.i64 0] [(0, .agg [.str [112, 97], .str [118, 109], .str [97]]), (1, i64 j)]) = some (.agg [.str [112, 97], .str [118, 109], .str [97], i64 j]) := rfl
    simp only [w3_4, bInt_int, hrem, bd_some, cvInt_int, hw, lint_lss, bsel_dec, e1, e2, fAddr_ptr, Nat.zero_add, hbx]
    refine ⟨fun _ => ?_, fun h => absurd (by omega : (j : Int) < (m : Int)) h⟩
    refine addr_spec fun s1 fr1 => ?_
    have hs1 := hs.fr fr1
    have hbx1 : ld1 s1 (.ptr 0 4) = some .txt := by rw [ld1_of hs1.bx]; rfl
    refine ⟨hbx1, ?_⟩
    have e3 : mkAgg (lfill (placesL [(0, 1), (1, 4), (5, 1), (6, 1), (7, 1)]) [LV.int IntKind.i64 0, LV.str [], LV.str [], LV.str [], LV.int IntKind.i64 0, LV.nili, LV.nils, LV.str []]
      [(1, .agg [.str [112, 97], .str [118, 109], .str [97], i64 j]), (4, .txt)]) = some (.agg (taskL j)) := rfl
    rw [e3, bd_some]
    have hwj : IntKind.i64.wrap ((j : Int) + 1) = ((j + 1 : Nat) : Int) := by rw [wrap_small (by omega) (by omega)]; simp
    refine do_spec hs1 (fun hlt s2 f2 hs2 => ?_) (fun hge s2 hs2 => ?_)
    · have hj8 : j < 8 := by omega
      have hmj : min j 8 = j := by omega
      rw [hmj] at hs2 ⊢
      have hd : decide ((j : Int) < 8) = true := by simp; omega
      simp only [lextract_tup, List.getElem?_cons_zero, List.getElem?_cons_succ, bd_some, lenSl_nils, bInt_int, lint_neq, lint_eql, lint_lss, lint_add, bne_self_eq_false, beq_self_eq_true, bsel_false, bsel_true, hd, bBool, eqOut_neq, Bool.not_true, hwj]
      rw [show (((j : Int) + 1 != ((j + 1 : Nat) : Int)) : Bool) = false by simp, bsel_false]
      exact ih (j + 1) s2 f2 (by omega) (by rw [show min (j + 1) 8 = j + 1 by omega]; exact hs2)
    · have hj8 : 8 ≤ j := by omega
      have hd : decide ((j : Int) < 8) = false := by simp; omega
      simp only [lextract_tup, List.getElem?_cons_zero, List.getElem?_cons_succ, bd_some, lenSl_nils, bInt_int, lint_neq, lint_eql, lint_lss, lint_add, bne_self_eq_false, bsel_false, hd, bBool, hwj]
      rw [show (((10 : Int) == 0) : Bool) = false from rfl, show (((10 : Int) != 0) : Bool) = true from rfl]
      simp only [beq_self_eq_true, eqOut_neq, Bool.not_true, bd_some, bsel_false, bsel_true]
      exact ih (j + 1) s2 f (by omega) (by rw [show min (j + 1) 8 = min j 8 by omega]; exact hs2)

/-- One more provider. -/
theorem step1 {x1 : LV} {a c e : Int} {k i : Nat} {s s' : LState} {b : UInt8} {u : LV} (hk : a.tmod 12 = k) (hi : i < k) (hk12 : k < 12)
    (hc : IntKind.u8.wrap (IntKind.i64.wrap (97 + (i : Int))) = c) (hb : lbytesStr (s ++ [.cells .rw [.int .u8 c]]) (.sl s.length 0 1 (.ex 1)) = some (.str [b]))
    (hadd : lrun Tryz.prog 10000 40 6 [.ptr 4 0, .str [112, b], set0] (s ++ [.cells .rw [.int .u8 c]]) = some (.tup [u, i64 e], s')) (he : (e = 0 ∧ i < 8) ∨ (e = 10 ∧ 8 ≤ i))
    (h : P3_1 (.int .u8 a) x1 (.ptr 0 0) (.ptr 4 0) (i64 (i + 1 : Nat)) (.tup []) R s') : P3_1 (.int .u8 a) x1 (.ptr 0 0) (.ptr 4 0) (i64 i) (.tup []) R s := by
  apply p3_1
  have hw : IntKind.i64.wrap (k : Int) = k := wrap_small (by omega) (by omega)
  have hrem : lint .rem .u8 a 12 = some (.int .u8 k) := by show (if (12 : Int) = 0 then none else some (LV.int .u8 (a.tmod 12))) = _; rw [if_neg (by omega), hk]
  have hwi : IntKind.i64.wrap ((i : Int) + 1) = ((i + 1 : Nat) : Int) := by rw [wrap_small (by omega) (by omega)]; simp
  have hfill : lfill (fun i => some (i * 1, 1)) (List.replicate 1 [LV.int IntKind.u8 0]).flatten [(0, .int .u8 c)] = some [.int .u8 c] := rfl
  simp only [w3_1, bInt_int, hrem, bd_some, cvInt_int, hw, lint_lss, lint_add, bsel_dec, hc, hfill, slNew_some, bd2_some]
  refine ⟨fun _ => ?_, fun h' => absurd (by omega : (i : Int) < (k : Int)) h'⟩
  have hbs : bStr .add (.str [112]) (.str [b]) = some (.str [112, b]) := rfl
  have fin : ∀ {Q : Prop}, Q → Q := id
  have tail : ∀ (K : LV → LState → Prop), K (.tup [u, i64 e]) s' → LCalls Tryz.prog 6 [.ptr 4 0, .str [112, b], set0] (s ++ [.cells .rw [.int .u8 c]]) K := fun K hK => lrun_ok cm_mixed 40 _ _ _ _ _ hadd K hK
  refine ⟨lrun_forget cm_mixed setting_run rfl rfl ?_, ?_⟩
  · simp only [slNew_some, bd2_some, hb, bd_some, hbs]
    refine tail _ ?_
    rcases he with ⟨rfl, h8⟩ | ⟨rfl, h8⟩
    · have hd : decide ((i : Int) < 8) = true := by simp; omega
      simp only [lextract_tup, List.getElem?_cons_zero, List.getElem?_cons_succ, bd_some, bInt_int, lint_eql, lint_neq, lint_lss, lint_add, beq_self_eq_true, bne_self_eq_false, hd, bBool, eqOut_neq, Bool.not_true, bsel_false, hwi]
      exact h
    · have hd : decide ((i : Int) < 8) = false := by simp; omega
      simp only [lextract_tup, List.getElem?_cons_zero, List.getElem?_cons_succ, bd_some, bInt_int, lint_eql, lint_neq, lint_lss, lint_add, bne_self_eq_false, hd, bBool, hwi]
      rw [show (((10 : Int) == 0) : Bool) = false from rfl, show (((10 : Int) != 0) : Bool) = true from rfl]
      simp only [beq_self_eq_true, eqOut_neq, Bool.not_true, bd_some, bsel_false, bsel_true]
      exact h
  · rw [hb, bd_some, hbs, bd_some]
    refine lrun_forget cm_mixed setting_run rfl rfl ⟨hb, ?_⟩
    refine tail _ ?_
    rcases he with ⟨rfl, h8⟩ | ⟨rfl, h8⟩
    · have hd : decide ((i : Int) < 8) = true := by simp; omega
      simp only [lextract_tup, List.getElem?_cons_zero, List.getElem?_cons_succ, bd_some, bInt_int, lint_eql, lint_neq, lint_lss, lint_add, beq_self_eq_true, bne_self_eq_false, hd, bBool, eqOut_neq, Bool.not_true, bsel_false, hwi]
      exact h
    · have hd : decide ((i : Int) < 8) = false := by simp; omega
      simp only [lextract_tup, List.getElem?_cons_zero, List.getElem?_cons_succ, bd_some, bInt_int, lint_eql, lint_neq, lint_lss, lint_add, bne_self_eq_false, hd, bBool, hwi]
      rw [show (((10 : Int) == 0) : Bool) = false from rfl, show (((10 : Int) != 0) : Bool) = true from rfl]
      simp only [beq_self_eq_true, eqOut_neq, Bool.not_true, bd_some, bsel_false, bsel_true]
      exact h

/-- All are there. -/
theorem end1 {a b : Int} {k m : Nat} {s : LState} {es : List (LV × LV)} {bs : List Nat} {n : Nat} {ks : List (List UInt8)} (hk : a.tmod 12 = k) (hk12 : k < 12) (hm : b.tmod 14 = m) (hm14 : m < 14)
    (h4 : s[4]? = some (.cells .rw [.map 1, .ptr 3 0, i64 0])) (h1 : s[1]? = some (.map .rw es bs n)) (hks : strsOf es = some ks) (hnd : ks.Nodup) (hlen : ∀ s ∈ ks, s.length ≤ 100) (hn : ks.length = min k 8)
    (hs : k ≠ 0 → HS s none 0) (hR : ∀ st, R (.bool true) st) : P3_1 (.int .u8 a) (.int .u8 b) (.ptr 0 0) (.ptr 4 0) (i64 k) (.tup []) R s := by
  apply p3_1
  have hw : IntKind.i64.wrap (k : Int) = k := wrap_small (by omega) (by omega)
  have hrem : lint .rem .u8 a 12 = some (.int .u8 k) := by show (if (12 : Int) = 0 then none else some (LV.int .u8 (a.tmod 12))) = _; rw [if_neg (by omega), hk]
  have hmin : lmins [.int .i64 (k : Int), .int .i64 8] = some (i64 (min k 8 : Nat)) := by
    simp only [lmins, lfold, lmin2]
    congr 2
    split <;> omega
  simp only [w3_1, bInt_int, hrem, bd_some, cvInt_int, hw, lint_lss, bsel_dec, hmin, lint_neq, lint_eql]
  refine ⟨fun h' => by omega, fun _ => ?_⟩
  refine names_spec h4 h1 hks hnd hlen (by omega) fun v ext hv => ?_
  rw [hn] at hv
  have get : ∀ {o : Nat} {x : LObj}, s[o]? = some x → (s ++ ext)[o]? = some x := fun {o x} hx => by
    rw [List.getElem?_append_left (List.getElem?_eq_some_iff.1 hx).1]; exact hx
  simp only [hv, bd_some, bInt_int, lint_neq, bne_self_eq_false, bsel_false]
  rcases Nat.eq_zero_or_pos k with h0 | h0
  · subst h0
    rw [show ((((0 : Nat) : Int) == 0) : Bool) = true from rfl, bsel_true]
    refine names_spec (get h4) (get h1) hks hnd hlen (by omega) fun v2 ext2 hv2 => ?_
    rw [hn] at hv2
    simp only [hv2, bd_some, bInt_int, lint_eql]
    exact hR _
  · rw [show (((k : Int) == 0) : Bool) = false by simp; omega, bsel_false]
    have hs0 := hs (by omega)
    have hfr : Fr s (s ++ ext) (fun _ => False) := ⟨by simp, fun o ho _ => by rw [List.getElem?_append_left ho]⟩
    exact loop2 hm hm14 hR m 0 _ none (by omega) (hs0.fr hfr)

/-- The store behind i of the first loop's rounds. -/
theorem loop1 {a b : Int} {k m : Nat} (hk : a.tmod 12 = k) (hk12 : k < 12) (hm : b.tmod 14 = m) (hm14 : m < 14) (hR : ∀ st, R (.bool true) st) :
    P3_1 (.int .u8 a) (.int .u8 b) (.ptr 0 0) (.ptr 4 0) (i64 (0 : Nat)) (.tup []) R hst0 := by
  have own0 : ∀ s : LState, ∃ cs, Own s none 10 0 cs := fun s => ⟨[], OwnM.nil⟩
  have far0 : ∀ o : Nat, (none : Option Nat) = some o → 14 < o := fun o h => by cases h
  have E : ∀ {s : LState} {k0 : Nat} {es : List (LV × LV)} {bs : List Nat} {n : Nat} {ks : List (List UInt8)}, k = k0 → s[4]? = some (.cells .rw [.map 1, .ptr 3 0, i64 0]) → s[1]? = some (.map .rw es bs n) → strsOf es = some ks → ks.Nodup →
      (ks.all fun s => decide (s.length ≤ 100)) = true → ks.length = min k0 8 → (k0 ≠ 0 → HS s none 0) → P3_1 (.int .u8 a) (.int .u8 b) (.ptr 0 0) (.ptr 4 0) (i64 k0) (.tup []) R s := by
    intro s k0 es bs n ks e h4 h1 hks hnd hlen hn hs
    subst e
    exact end1 hk hk12 hm hm14 h4 h1 hks hnd (fun s hs => by simpa using List.all_eq_true.1 hlen s hs) hn hs hR
  rcases Nat.eq_or_lt_of_le (Nat.zero_le k) with h | h
  · exact E h.symm rfl rfl rfl (by decide) rfl rfl (fun h => absurd rfl h)
  refine step1 hk h hk12 (c := 97) rfl rfl add_run0 (.inl ⟨rfl, by omega⟩) ?_
  rcases Nat.eq_or_lt_of_le (show 1 ≤ k from h) with h | h
  · exact E h.symm rfl rfl rfl (by decide) rfl rfl fun _ => ⟨rfl, ⟨_, _, _, rfl, rfl⟩, rfl, rfl, rfl, own0 _, far0, rfl⟩
  refine step1 hk h hk12 (c := 98) rfl rfl add_run1 (.inl ⟨rfl, by omega⟩) ?_
  rcases Nat.eq_or_lt_of_le (show 2 ≤ k from h) with h | h
  · exact E h.symm rfl rfl rfl (by decide) rfl rfl fun _ => ⟨rfl, ⟨_, _, _, rfl, rfl⟩, rfl, rfl, rfl, own0 _, far0, rfl⟩
  refine step1 hk h hk12 (c := 99) rfl rfl add_run2 (.inl ⟨rfl, by omega⟩) ?_
  rcases Nat.eq_or_lt_of_le (show 3 ≤ k from h) with h | h
  · exact E h.symm rfl rfl rfl (by decide) rfl rfl fun _ => ⟨rfl, ⟨_, _, _, rfl, rfl⟩, rfl, rfl, rfl, own0 _, far0, rfl⟩
  refine step1 hk h hk12 (c := 100) rfl rfl add_run3 (.inl ⟨rfl, by omega⟩) ?_
  rcases Nat.eq_or_lt_of_le (show 4 ≤ k from h) with h | h
  · exact E h.symm rfl rfl rfl (by decide) rfl rfl fun _ => ⟨rfl, ⟨_, _, _, rfl, rfl⟩, rfl, rfl, rfl, own0 _, far0, rfl⟩
  refine step1 hk h hk12 (c := 101) rfl rfl add_run4 (.inl ⟨rfl, by omega⟩) ?_
  rcases Nat.eq_or_lt_of_le (show 5 ≤ k from h) with h | h
  · exact E h.symm rfl rfl rfl (by decide) rfl rfl fun _ => ⟨rfl, ⟨_, _, _, rfl, rfl⟩, rfl, rfl, rfl, own0 _, far0, rfl⟩
  refine step1 hk h hk12 (c := 102) rfl rfl add_run5 (.inl ⟨rfl, by omega⟩) ?_
  rcases Nat.eq_or_lt_of_le (show 6 ≤ k from h) with h | h
  · exact E h.symm rfl rfl rfl (by decide) rfl rfl fun _ => ⟨rfl, ⟨_, _, _, rfl, rfl⟩, rfl, rfl, rfl, own0 _, far0, rfl⟩
  refine step1 hk h hk12 (c := 103) rfl rfl add_run6 (.inl ⟨rfl, by omega⟩) ?_
  rcases Nat.eq_or_lt_of_le (show 7 ≤ k from h) with h | h
  · exact E h.symm rfl rfl rfl (by decide) rfl rfl fun _ => ⟨rfl, ⟨_, _, _, rfl, rfl⟩, rfl, rfl, rfl, own0 _, far0, rfl⟩
  refine step1 hk h hk12 (c := 104) rfl rfl add_run7 (.inl ⟨rfl, by omega⟩) ?_
  rcases Nat.eq_or_lt_of_le (show 8 ≤ k from h) with h | h
  · exact E h.symm rfl rfl rfl (by decide) rfl rfl fun _ => ⟨rfl, ⟨_, _, _, rfl, rfl⟩, rfl, rfl, rfl, own0 _, far0, rfl⟩
  refine step1 hk h hk12 (c := 105) rfl rfl add_run8 (.inr ⟨rfl, by omega⟩) ?_
  rcases Nat.eq_or_lt_of_le (show 9 ≤ k from h) with h | h
  · exact E h.symm rfl rfl rfl (by decide) rfl rfl fun _ => ⟨rfl, ⟨_, _, _, rfl, rfl⟩, rfl, rfl, rfl, own0 _, far0, rfl⟩
  refine step1 hk h hk12 (c := 106) rfl rfl add_run9 (.inr ⟨rfl, by omega⟩) ?_
  rcases Nat.eq_or_lt_of_le (show 10 ≤ k from h) with h | h
  · exact E h.symm rfl rfl rfl (by decide) rfl rfl fun _ => ⟨rfl, ⟨_, _, _, rfl, rfl⟩, rfl, rfl, rfl, own0 _, far0, rfl⟩
  refine step1 hk h hk12 (c := 107) rfl rfl add_run10 (.inr ⟨rfl, by omega⟩) ?_
  exact E (show k = 11 by omega) rfl rfl rfl (by decide) rfl rfl fun _ => ⟨rfl, ⟨_, _, _, rfl, rfl⟩, rfl, rfl, rfl, own0 _, far0, rfl⟩

end Go.Proofs.YthiaahbmibndkaaGreatDoor
