/- The document's values, as they lie; how much of one is more than is asked. -/
/- The clean machine, part 45: parts of slices that own their object; slices that grow out of an empty literal. -/
import Derived.Test.YtknegckgmklnhaaGreatDoorVaV6
namespace Go.Proofs.YtknegckgmklnhaaGreatDoor
open Go Go.CP
set_option maxRecDepth 100000

/-- A value of the document's, whatever it holds. -/
inductive RV where
  | mk (k : Int) (b : Bool) (n m : Int) (s : List UInt8) (l : List RV) (ks : List (List UInt8))

namespace RV
def k : RV → Int | mk k _ _ _ _ _ _ => k
def b : RV → Bool | mk _ b _ _ _ _ _ => b
def n : RV → Int | mk _ _ n _ _ _ _ => n
def m : RV → Int | mk _ _ _ m _ _ _ => m
def s : RV → List UInt8 | mk _ _ _ _ s _ _ => s
def l : RV → List RV | mk _ _ _ _ _ l _ => l
def ks : RV → List (List UInt8) | mk _ _ _ _ _ _ ks => ks
theorem size_l {r x : RV} (h : x ∈ r.l) : SizeOf.sizeOf x < SizeOf.sizeOf r := by
  cases r
  have := List.sizeOf_lt_of_mem h
  simp only [l] at this
  simp; omega
theorem ind {p : RV → Prop} (h : ∀ r, (∀ x ∈ r.l, p x) → p r) : ∀ (n : Nat) (r : RV), SizeOf.sizeOf r < n → p r
  | 0, _, hn => by omega
  | n + 1, r, hn => h r fun x hx => ind h n x (by have := size_l hx; omega)
end RV

/-- A slice of texts. -/
abbrev sI (l : List (List UInt8)) : LV := .isl (l.map .str) l.length none

mutual
/-- Its cells. -/
def rc : RV → List LV
  | .mk k b n m s l ks => [i64 k, .bool b, i64 n, i64 m, .str s, .isl (rcs l) l.length none, sI ks]
def rcs : List RV → List LV
  | [] => []
  | r :: rs => rc r ++ rcs rs
end

abbrev vR (r : RV) : LV := .agg (rc r)
abbrev rL (l : List RV) : LV := .isl (rcs l) l.length none

theorem rc_eq {r : RV} : rc r = [i64 r.k, .bool r.b, i64 r.n, i64 r.m, .str r.s, rL r.l, sI r.ks] := by cases r; rfl
theorem rc_len {r : RV} : (rc r).length = 7 := by rw [rc_eq]; rfl
theorem rcs_eq : ∀ {l : List RV}, rcs l = (l.map rc).flatten
  | [] => rfl
  | r :: rs => by simp [rcs, rcs_eq (l := rs)]
theorem rcs_len {l : List RV} : (rcs l).length = l.length * 7 := by
  rw [rcs_eq, flat_len (c := 7) (by intro x h; obtain ⟨r, _, rfl⟩ := List.mem_map.1 h; exact rc_len)]; simp

mutual
theorem rc_plain : ∀ {r : RV}, LV.plains (rc r) = true
  | .mk k b n m s l ks => by
    simp only [rc, LV.plains, LV.plain, Bool.true_and, Bool.and_true, Bool.and_eq_true]
    exact ⟨rcs_plain, plains_map fun _ _ => rfl⟩
theorem rcs_plain : ∀ {l : List RV}, LV.plains (rcs l) = true
  | [] => rfl
  | r :: rs => by rw [rcs, plains_app, rc_plain, rcs_plain]; rfl
end
theorem vR_plain {r : RV} : (vR r).plain = true := by simp only [LV.plain, rc_plain]
theorem vR_plains {r : RV} : LV.plains [vR r] = true := by simp only [LV.plains, vR_plain, Bool.and_true]

mutual
/-- Nothing of it is too great. -/
def RV.ok : RV → Prop
  | .mk k _ n m s l ks => ((-9223372036854775808 ≤ k ∧ k < 9223372036854775808) ∧ (-9223372036854775808 ≤ n ∧ n < 9223372036854775808) ∧ (-9223372036854775808 ≤ m ∧ m < 9223372036854775808)) ∧
    s.length ≤ big ∧ l.length ≤ big ∧ (ks.length ≤ big ∧ ∀ x ∈ ks, x.length ≤ big) ∧ RV.oks l
def RV.oks : List RV → Prop
  | [] => True
  | r :: rs => RV.ok r ∧ RV.oks rs
end

theorem RV.oks_iff : ∀ {l : List RV}, RV.oks l ↔ ∀ t ∈ l, t.ok
  | [] => by simp [RV.oks]
  | t :: ts => by simp [RV.oks, RV.oks_iff (l := ts)]
theorem RV.ok_l {r : RV} (h : r.ok) : r.l.length ≤ big ∧ ∀ x ∈ r.l, x.ok := by
  cases r; simp only [RV.ok] at h; exact ⟨h.2.2.1, RV.oks_iff.1 h.2.2.2.2⟩
theorem RV.ok_ks {r : RV} (h : r.ok) : r.ks.length ≤ big ∧ ∀ x ∈ r.ks, x.length ≤ big := by
  cases r; simp only [RV.ok] at h; exact h.2.2.2.1

theorem rcs_get {l : List RV} {i : Nat} {r : RV} (h : l[i]? = some r) : ((rcs l).drop (i * 7)).take 7 = rc r ∧ i * 7 + 7 ≤ (rcs l).length := by
  have h1 : (l.map rc)[i]? = some (rc r) := by simp [h]
  obtain ⟨e1, e2⟩ := flatten_row (c := 7) (rows := l.map rc) (by intro x h; obtain ⟨r, _, rfl⟩ := List.mem_map.1 h; exact rc_len) h1
  rw [rcs_eq]
  exact ⟨e1, by omega⟩

theorem ldA_rcs {st : LState} {l : List RV} {i : Nat} {r : RV} (h : l[i]? = some r) : ldA st (.iptr (rcs l) (i * 7)) 7 = some (vR r) := by
  obtain ⟨e1, e2⟩ := rcs_get h
  rw [ldA_iptr e2, e1]

/-- A value in a box of its own. -/
def BoxR (st : LState) (o : Nat) (r : RV) : Prop := st[o]? = some (.cells .rw (rc r))

theorem BoxR.ldA {st : LState} {o : Nat} {r : RV} (h : BoxR st o r) : ldA st (.ptr o 0) 7 = some (vR r) := by
  rw [ldA_of h (by rw [rc_len]; omega)]
  congr 2
  rw [List.drop_zero, List.take_of_length_le (by rw [rc_len]; omega)]

theorem fAddr_ptr {d o k : Nat} : fAddr d (.ptr o k) = some (.ptr o (k + d)) := rfl

theorem BoxR.ld {st : LState} {o i : Nat} {r : RV} {v : LV} (h : BoxR st o r) (hv : (rc r)[i]? = some v) : ld1 st (.ptr o i) = some v := by
  simp only [ld1, show st[o]? = _ from h, hv]
theorem BoxR.k {st : LState} {o : Nat} {r : RV} (h : BoxR st o r) : ld1 st (.ptr o 0) = some (i64 r.k) := h.ld (by rw [rc_eq]; rfl)
theorem BoxR.b {st : LState} {o : Nat} {r : RV} (h : BoxR st o r) : ld1 st (.ptr o 1) = some (.bool r.b) := h.ld (by rw [rc_eq]; rfl)
theorem BoxR.n {st : LState} {o : Nat} {r : RV} (h : BoxR st o r) : ld1 st (.ptr o 2) = some (i64 r.n) := h.ld (by rw [rc_eq]; rfl)
theorem BoxR.m {st : LState} {o : Nat} {r : RV} (h : BoxR st o r) : ld1 st (.ptr o 3) = some (i64 r.m) := h.ld (by rw [rc_eq]; rfl)
theorem BoxR.s {st : LState} {o : Nat} {r : RV} (h : BoxR st o r) : ld1 st (.ptr o 4) = some (.str r.s) := h.ld (by rw [rc_eq]; rfl)
theorem BoxR.l {st : LState} {o : Nat} {r : RV} (h : BoxR st o r) : ld1 st (.ptr o 5) = some (rL r.l) := h.ld (by rw [rc_eq]; rfl)
theorem BoxR.ks {st : LState} {o : Nat} {r : RV} (h : BoxR st o r) : ld1 st (.ptr o 6) = some (sI r.ks) := h.ld (by rw [rc_eq]; rfl)

theorem lbox_rc {st : LState} {r : RV} : lbox st (vR r) = some (.ptr st.length 0, st ++ [.cells .rw (rc r)]) := by cases r; rfl

theorem lmaxs2 {a b : Int} : lmaxs [i64 a, i64 b] = some (i64 (max a b)) := by
  simp only [lmaxs, lfold, lmax2]
  congr 2
  rw [Int.max_def]
  split <;> split <;> omega

theorem lmins2 {a b : Int} : lmins [i64 a, i64 b] = some (i64 (min a b)) := by
  simp only [lmins, lfold, lmin2]
  congr 2
  rw [Int.min_def]
  split <;> split <;> omega

theorem loop85 {r : RV} (hl : r.l.length ≤ big) (hrec : ∀ x ∈ r.l, ∃ n, Pu Tryz.prog 85 [vR x] (i64 n)) :
    ∀ (d i : Nat) (acc : Int), i + d = r.l.length → ∃ n, ∀ {st : LState} {R : LV → LState → Prop} {o : Nat}, BoxR st o r → R (i64 n) st → P85_1 (.ptr o 0) (i64 acc) (i64 i) R st := by
  intro d
  induction d with
  | zero =>
    intro i acc hi
    refine ⟨acc, fun {st R o} hb hR => ?_⟩
    apply p85_1
    have : ¬ ((i : Int) < r.l.length) := by omega
    simp only [w85_1, fAddr_ptr, Nat.zero_add, bd_some, hb.l, lenSl_isl, bInt_int, lint_lss, bsel_dec]
    exact ⟨fun h => absurd h this, fun _ => hR⟩
  | succ d ih =>
    intro i acc hi
    have hlt : i < r.l.length := by omega
    have hx : r.l[i]? = some r.l[i] := List.getElem?_eq_getElem hlt
    obtain ⟨n1, h1⟩ := hrec _ (List.getElem_mem hlt)
    obtain ⟨n, hn⟩ := ih (i + 1) (IntKind.i64.wrap (acc + n1)) (by omega)
    refine ⟨n, fun {st R o} hb hR => ?_⟩
    apply p85_1
    have e1 : ixSl 7 (rL r.l) (i64 i) = some (.iptr (rcs r.l) (i * 7)) := ixIsl hlt
    simp only [w85_1, fAddr_ptr, Nat.zero_add, bd_some, hb.l, lenSl_isl, bInt_int, lint_lss, bsel_dec, e1, ldA_rcs hx]
    refine ⟨fun _ => h1.call ?_, fun h => absurd (by omega : (i : Int) < r.l.length) h⟩
    simp only [lint_add, bd_some, wrap_add1 (show i < 2 ^ 40 by unfold big at hl; omega)]
    exact hn hb hR

theorem size_pu : ∀ {r : RV}, r.ok → ∃ n, Pu Tryz.prog 85 [vR r] (i64 n) := fun {r} => by
  refine RV.ind (p := fun r => r.ok → ∃ n, Pu Tryz.prog 85 [vR r] (i64 n)) ?_ _ r (Nat.lt_succ_self _)
  intro r ih hr
  obtain ⟨hl, ho⟩ := RV.ok_l hr
  obtain ⟨n, hn⟩ := loop85 hl (fun x hx => ih x hx (ho x hx)) r.l.length 0 1 (by omega)
  refine ⟨n, Pu.of (c85 _ ?_) vR_plains rfl⟩
  simp only [w85, lbox_rc, bd2_some]
  exact hn (R := fun x s => dp s (i64 n) x) rfl rfl

theorem loop86 {r : RV} (hl : r.l.length ≤ big) (hrec : ∀ x ∈ r.l, ∃ n, Pu Tryz.prog 86 [vR x] (i64 n)) :
    ∀ (d i : Nat) (acc : Int), i + d = r.l.length → ∃ n, ∀ {st : LState} {R : LV → LState → Prop} {o : Nat}, BoxR st o r → R (i64 n) st → P86_1 (.ptr o 0) (i64 acc) (i64 i) R st := by
  intro d
  induction d with
  | zero =>
    intro i acc hi
    refine ⟨IntKind.i64.wrap (acc + 1), fun {st R o} hb hR => ?_⟩
    apply p86_1
    have : ¬ ((i : Int) < r.l.length) := by omega
    simp only [w86_1, fAddr_ptr, Nat.zero_add, bd_some, hb.l, lenSl_isl, bInt_int, lint_lss, bsel_dec, lint_add]
    exact ⟨fun h => absurd h this, fun _ => hR⟩
  | succ d ih =>
    intro i acc hi
    have hlt : i < r.l.length := by omega
    have hx : r.l[i]? = some r.l[i] := List.getElem?_eq_getElem hlt
    obtain ⟨n1, h1⟩ := hrec _ (List.getElem_mem hlt)
    obtain ⟨n, hn⟩ := ih (i + 1) (max acc n1) (by omega)
    refine ⟨n, fun {st R o} hb hR => ?_⟩
    apply p86_1
    have e1 : ixSl 7 (rL r.l) (i64 i) = some (.iptr (rcs r.l) (i * 7)) := ixIsl hlt
    simp only [w86_1, fAddr_ptr, Nat.zero_add, bd_some, hb.l, lenSl_isl, bInt_int, lint_lss, bsel_dec, e1, ldA_rcs hx]
    refine ⟨fun _ => h1.call ?_, fun h => absurd (by omega : (i : Int) < r.l.length) h⟩
    simp only [lmaxs2, lint_add, bd_some, wrap_add1 (show i < 2 ^ 40 by unfold big at hl; omega)]
    exact hn hb hR

theorem deep_pu : ∀ {r : RV}, r.ok → ∃ n, Pu Tryz.prog 86 [vR r] (i64 n) := fun {r} => by
  refine RV.ind (p := fun r => r.ok → ∃ n, Pu Tryz.prog 86 [vR r] (i64 n)) ?_ _ r (Nat.lt_succ_self _)
  intro r ih hr
  obtain ⟨hl, ho⟩ := RV.ok_l hr
  obtain ⟨n, hn⟩ := loop86 hl (fun x hx => ih x hx (ho x hx)) r.l.length 0 0 (by omega)
  refine ⟨n, Pu.of (c86 _ ?_) vR_plains rfl⟩
  simp only [w86, lbox_rc, bd2_some]
  exact hn (R := fun x s => dp s (i64 n) x) rfl rfl

theorem loop24b {r : RV} (hl : r.l.length ≤ big) (hrec : ∀ x ∈ r.l, ∃ n, Pu Tryz.prog 24 [vR x] (i64 n)) :
    ∀ (d i : Nat) (acc : Int), i + d = r.l.length → ∃ n, ∀ {st : LState} {R : LV → LState → Prop} {o : Nat} {x4 : LV}, BoxR st o r → R (i64 n) st → P24_4 (.ptr o 0) (i64 acc) x4 (i64 i) R st := by
  intro d
  induction d with
  | zero =>
    intro i acc hi
    refine ⟨acc, fun {st R o x4} hb hR => ?_⟩
    apply p24_4
    have : ¬ ((i : Int) < r.l.length) := by omega
    simp only [w24_4, fAddr_ptr, Nat.zero_add, bd_some, hb.l, lenSl_isl, bInt_int, lint_lss, bsel_dec]
    exact ⟨fun h => absurd h this, fun _ => hR⟩
  | succ d ih =>
    intro i acc hi
    have hlt : i < r.l.length := by omega
    have hx : r.l[i]? = some r.l[i] := List.getElem?_eq_getElem hlt
    obtain ⟨n1, h1⟩ := hrec _ (List.getElem_mem hlt)
    obtain ⟨n, hn⟩ := ih (i + 1) (IntKind.i64.wrap (acc + n1)) (by omega)
    by_cases h0 : acc = 0
    · refine ⟨n, fun {st R o x4} hb hR => ?_⟩
      apply p24_4
      have e1 : ixSl 7 (rL r.l) (i64 i) = some (.iptr (rcs r.l) (i * 7)) := ixIsl hlt
      have e2 : (acc == 0) = true := by simp [h0]
      simp only [w24_4, fAddr_ptr, Nat.zero_add, bd_some, hb.l, lenSl_isl, bInt_int, lint_lss, bsel_dec, lint_eql, e2, bsel_true, e1, ldA_rcs hx]
      refine ⟨fun _ => h1.call ?_, fun h => absurd (by omega : (i : Int) < r.l.length) h⟩
      simp only [lint_add, bd_some, wrap_add1 (show i < 2 ^ 40 by unfold big at hl; omega)]
      exact hn hb hR
    · refine ⟨acc, fun {st R o x4} hb hR => ?_⟩
      apply p24_4
      have e2 : (acc == 0) = false := by simp [h0]
      simp only [w24_4, fAddr_ptr, Nat.zero_add, bd_some, hb.l, lenSl_isl, bInt_int, lint_lss, bsel_dec, lint_eql, e2, bsel_false]
      exact ⟨fun _ => hR, fun _ => hR⟩

theorem loop24 {r : RV} (hr : r.ok) (hrec : ∀ x ∈ r.l, ∃ n, Pu Tryz.prog 24 [vR x] (i64 n)) :
    ∀ (d i : Nat) (acc : Int), i + d = r.ks.length → ∃ n, ∀ {st : LState} {R : LV → LState → Prop} {o : Nat} {x5 : LV}, BoxR st o r → R (i64 n) st → P24_1 (.ptr o 0) (i64 acc) (i64 i) x5 R st := by
  intro d
  induction d with
  | zero =>
    intro i acc hi
    obtain ⟨n, hn⟩ := loop24b (RV.ok_l hr).1 hrec r.l.length 0 acc (by omega)
    refine ⟨n, fun {st R o x5} hb hR => ?_⟩
    apply p24_1
    have : ¬ ((i : Int) < r.ks.length) := by omega
    simp only [w24_1, fAddr_ptr, Nat.zero_add, bd_some, hb.ks, lenSl_isl, bInt_int, lint_lss, bsel_dec]
    exact ⟨fun h => absurd h this, fun _ => hn hb hR⟩
  | succ d ih =>
    intro i acc hi
    have hlt : i < r.ks.length := by omega
    have hx : (r.ks.map LV.str)[i * 1]? = some (.str r.ks[i]) := by simp [hlt]
    by_cases h80 : (i : Int) < 80
    · obtain ⟨n, hn⟩ := ih (i + 1) (IntKind.i64.wrap (acc + max (IntKind.i64.wrap ((r.ks[i].length : Int) - 300)) 0)) (by omega)
      refine ⟨n, fun {st R o x5} hb hR => ?_⟩
      apply p24_1
      have e1 : ixSl 1 (sI r.ks) (i64 i) = some (.iptr (r.ks.map .str) (i * 1)) := ixIsl hlt
      simp only [w24_1, fAddr_ptr, Nat.zero_add, bd_some, hb.ks, lenSl_isl, bInt_int, lint_lss, bsel_dec, e1, ld1_iptr, hx, lenStr_str, lint_sub, lmaxs2, lint_add, wrap_add1 (show i < 2 ^ 40 by omega)]
      exact ⟨fun _ => ⟨fun _ => hn hb hR, fun h => absurd h80 h⟩, fun h => absurd (by omega : (i : Int) < r.ks.length) h⟩
    · obtain ⟨n, hn⟩ := loop24b (RV.ok_l hr).1 hrec r.l.length 0 acc (by omega)
      refine ⟨n, fun {st R o x5} hb hR => ?_⟩
      apply p24_1
      simp only [w24_1, fAddr_ptr, Nat.zero_add, bd_some, hb.ks, lenSl_isl, bInt_int, lint_lss, bsel_dec]
      exact ⟨fun _ => ⟨fun h => absurd h h80, fun _ => hn hb hR⟩, fun _ => hn hb hR⟩

/-- Great: some number. -/
theorem great_pu : ∀ {r : RV}, r.ok → ∃ n, Pu Tryz.prog 24 [vR r] (i64 n) := fun {r} => by
  refine RV.ind (p := fun r => r.ok → ∃ n, Pu Tryz.prog 24 [vR r] (i64 n)) ?_ _ r (Nat.lt_succ_self _)
  intro r ih hr
  obtain ⟨hl, ho⟩ := RV.ok_l hr
  obtain ⟨n1, h1⟩ := size_pu hr
  obtain ⟨n2, h2⟩ := deep_pu hr
  obtain ⟨n, hn⟩ := loop24 hr (fun x hx => ih x hx (ho x hx)) r.ks.length 0 (IntKind.i64.wrap (IntKind.i64.wrap (IntKind.i64.wrap (IntKind.i64.wrap (max (IntKind.i64.wrap ((r.l.length : Int) - 70)) 0 + max (IntKind.i64.wrap ((r.ks.length : Int) - 70)) 0) + max (IntKind.i64.wrap ((r.s.length : Int) - 300)) 0) + max (IntKind.i64.wrap (n1 - 200)) 0) + max (IntKind.i64.wrap (n2 - 12)) 0)) (by omega)
  refine ⟨n, Pu.of (c24 _ ?_) vR_plains rfl⟩
  have hb : BoxR ([] ++ [.cells .rw (rc r)]) ([] : LState).length r := rfl
  simp only [w24, lbox_rc, bd2_some, fAddr_ptr, Nat.zero_add, bd_some, hb.l, hb.ks, hb.s, hb.ldA, lenSl_isl, bInt_int, lint_sub, lint_add, lmaxs2, lenStr_str]
  refine h1.call ⟨hb.ldA, hb.s, hb.ks, hb.l, ?_⟩
  simp only [bInt_int, lint_sub, lint_add, lmaxs2, bd_some]
  refine h2.call ⟨hb.s, hb.ks, hb.l, ?_⟩
  simp only [bInt_int, lint_sub, lint_add, lmaxs2, bd_some]
  exact hn (R := fun x s => dp s (i64 n) x) hb rfl

end Go.Proofs.YtknegckgmklnhaaGreatDoor

namespace Go.CP

/-- x[:k] -/
theorem room_to {f : Option Nat} {sz n k : Nat} (hsz : 0 < sz) (hk : k ≤ n) (hn : f = none → n = 0) :
    ∃ y, (∀ st, slRoom st sz (osl f sz n) none (some k) none = some y) ∧ ∀ {m0 : Md} {st : LState} {cs : List LV}, OwnM m0 st f sz n cs → lsrc st sz y = some (k, cs.take (k * sz)) := by
  cases f with
  | none =>
    obtain rfl := hn rfl
    obtain rfl : k = 0 := by omega
    refine ⟨.nils, fun st => rfl, fun {m0 st cs} h => ?_⟩
    simp [lsrc]
  | some o =>
    refine ⟨.sl o 0 k (.rest sz), fun st => ?_, fun {m0 st cs} h => ?_⟩
    · simp [osl, slRoom, slSl, lslice, hk, hsz]
    · obtain ⟨rest, h2⟩ := h.2
      have hl := h.1
      have hle : k * sz ≤ n * sz := Nat.mul_le_mul_right _ hk
      simp only [lsrc, h2]
      rw [if_pos (by simp; omega), List.drop_zero, List.take_append_of_le_length (by omega)]

/-- x[k:] -/
theorem room_from {f : Option Nat} {sz n k : Nat} (hsz : 0 < sz) (hk : k ≤ n) (hn : f = none → n = 0) :
    ∃ y, (∀ st, slRoom st sz (osl f sz n) (some k) none none = some y) ∧ ∀ {m0 : Md} {st : LState} {cs : List LV}, OwnM m0 st f sz n cs → lsrc st sz y = some (n - k, cs.drop (k * sz)) := by
  cases f with
  | none =>
    obtain rfl := hn rfl
    obtain rfl : k = 0 := by omega
    refine ⟨.nils, fun st => rfl, fun {m0 st cs} h => ?_⟩
    have : cs = [] := by have := h.1; simp at this; exact this
    simp [lsrc, this]
  | some o =>
    rcases Nat.eq_zero_or_pos k with rfl | h0
    · refine ⟨.sl o 0 n (.rest sz), fun st => ?_, fun {m0 st cs} h => ?_⟩
      · simp [osl, slRoom, slSl, lslice, hsz]
      · obtain ⟨rest, h2⟩ := h.2
        have hl := h.1
        simp only [lsrc, h2]
        rw [if_pos (by simp; omega), List.drop_zero, List.take_append_of_le_length (by omega), List.take_of_length_le (by omega)]
        simp
    rcases Nat.lt_or_ge k n with hlt | hge
    · refine ⟨.sl o (0 + k * sz) (n - k) (.rest sz), fun st => ?_, fun {m0 st cs} h => ?_⟩
      · have h1 : ¬ k = 0 := by omega
        simp [osl, slRoom, slSl, lslice, hsz, hk, hlt, h1]
      · obtain ⟨rest, h2⟩ := h.2
        have hl := h.1
        have e1 : k * sz + (n - k) * sz = n * sz := by rw [← Nat.add_mul]; congr 1; omega
        simp only [lsrc, h2]
        rw [if_pos (by simp; omega), Nat.zero_add, List.drop_append_of_le_length (by omega), List.take_append_of_le_length (by simp; omega), List.take_of_length_le (by simp; omega)]
    · refine ⟨.emp, fun st => ?_, fun {m0 st cs} h => ?_⟩
      · have h1 : ¬ k = 0 := by omega
        have h2 : ¬ k < n := by omega
        simp [osl, slRoom, slSl, lslice, hsz, hk, h1, h2]
      · have hl := h.1
        have e1 : n - k = 0 := by omega
        rw [e1, List.drop_eq_nil_of_le (by rw [hl]; exact Nat.mul_le_mul_right _ hge)]; rfl

theorem ob3_to {k : Nat} {F : Option Nat → Option Nat → Option Nat → Option LV} : ob3 none (some (.int .i64 (k : Int))) none F = F none (some k) none := by
  simp [ob3, optNat]
theorem ob3_from {k : Nat} {F : Option Nat → Option Nat → Option Nat → Option LV} : ob3 (some (.int .i64 (k : Int))) none none F = F (some k) none none := by
  simp [ob3, optNat]

/-- A slice that grows out of an empty literal: its object is a. -/
def Gr (st : LState) (a : Nat) (A : LV) (sz n : Nat) (cs : List LV) : Prop :=
  (n = 0 ∧ cs = [] ∧ A = .sl a 0 0 (.ex 0) ∧ st[a]? = some (.cells .rw [])) ∨ (A = osl (some a) sz n ∧ OwnM .rw st (some a) sz n cs)

theorem Gr.lt {st : LState} {a : Nat} {A : LV} {sz n : Nat} {cs : List LV} (h : Gr st a A sz n cs) : a < st.length := by
  rcases h with ⟨_, _, _, h⟩ | ⟨_, h⟩
  · exact get_lt h
  · exact h.lt

theorem Gr.fr {st st' : LState} {a : Nat} {A : LV} {sz n : Nat} {cs : List LV} (h : Gr st a A sz n cs) {S : Nat → Prop} (hf : Fr st st' S) (hs : ¬ S a) : Gr st' a A sz n cs := by
  rcases h with ⟨h1, h2, h3, h⟩ | ⟨h1, h⟩
  · exact .inl ⟨h1, h2, h3, hf.get h hs⟩
  · exact .inr ⟨h1, h.fr hf (by rintro o ⟨⟩; exact hs)⟩

theorem Gr.own {st : LState} {a : Nat} {A : LV} {sz n : Nat} {cs : List LV} (h : Gr st a A sz n cs) (hn : 0 < n) : A = osl (some a) sz n ∧ OwnM .rw st (some a) sz n cs := by
  rcases h with ⟨h1, _⟩ | h
  · omega
  · exact h

theorem Gr.new {st : LState} {sz : Nat} : Gr (st ++ [.cells .rw []]) st.length (.sl st.length 0 0 (.ex 0)) sz 0 [] := .inl ⟨rfl, rfl, rfl, by simp⟩

theorem Gr.append {st : LState} {a : Nat} {A : LV} {sz n bytes : Nat} {cs new : List LV} {x : LV} {k : Nat} (h : Gr st a A sz n cs) (hx : lsrc st sz x = some (k, new)) (hn : new.length = k * sz) (h1 : new.all LV.one = true)
    (hr : room47 (n + k) bytes = true) :
    ∃ st2 A2 a2, lappend st sz bytes .rw A x = some (A2, st2) ∧ Gr st2 a2 A2 sz (n + k) (cs ++ new) ∧ Fr st st2 (fun j => j = a) ∧ (a2 = a ∨ st.length ≤ a2) := by
  rcases Nat.eq_zero_or_pos k with rfl | hk
  · have : new = [] := by simpa using hn
    subst this
    refine ⟨st, A, a, ?_, by simpa using h, Fr.refl, .inl rfl⟩
    rcases h with ⟨_, _, rfl, _⟩ | ⟨rfl, _⟩ <;> simp [lappend, hx, osl]
  · rcases h with ⟨rfl, rfl, rfl, ha⟩ | ⟨rfl, ho⟩
    · refine ⟨st ++ [.cells .rw ([] ++ new)], .sl st.length 0 (0 + k) (.rest sz), st.length, ?_, .inr ⟨rfl, ?_, [], by simp⟩, Fr.app, .inr (Nat.le_refl _)⟩
      · have hk0 : ¬ k = 0 := by omega
        have hk1 : ¬ 0 + k ≤ 0 := by omega
        simp only [lappend, hx, ha, hk0, if_false, hk1]
        rw [if_pos ⟨hr, by simp⟩]; simp
      · simp [hn]
    · obtain ⟨st2, f2, e1, e2, e3, e4, _⟩ := ho.append (bytes := bytes) hx hk hn h1 hr
      cases f2 with
      | none => have := e2.2; simp only at this; omega
      | some o2 =>
        refine ⟨st2, _, o2, e1, .inr ⟨rfl, e2⟩, e3.mono fun j _ hj => (Option.some.inj hj).symm, ?_⟩
        rcases e4 o2 rfl with e | e
        · exact .inl (Option.some.inj e).symm
        · exact .inr e

end Go.CP

