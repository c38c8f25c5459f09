/- QueuePlays, over the clean machine. -/
import Derived.Test.YtkjmpjaahgficaaQuPl
import Derived.Test.YtkjmpjaahgficaaQuW4
import Derived.Test.YtkjmpjaahgficaaQuNu
namespace Go.Proofs.Ytkjmpjaahgficaa
open Go Go.CM

set_option maxRecDepth 100000
variable {R : LV → LState → Prop}

theorem bBool_neq {a b : Bool} : bBool .neq (.bool a) (.bool b) = some (.bool (a != b)) := by cases a <;> cases b <;> rfl

def qit (items : List (Int × Int)) : List (LV × Int) := items.map fun p => (i64 p.1, p.2)
def vals (items : List (Int × Int)) : List Int := items.map fun p => p.1
def ns (items : List (Int × Int)) : List Int := items.map fun p => p.2

theorem qit_len {items : List (Int × Int)} : (qit items).length = items.length := by simp [qit]
theorem vals_len {items : List (Int × Int)} : (vals items).length = items.length := by simp [vals]
theorem ns_len {items : List (Int × Int)} : (ns items).length = items.length := by simp [ns]
theorem nums_qit {items : List (Int × Int)} : nums (qit items) = (ns items).map i64 := by simp [nums, qit, ns]
theorem xsOf_qit {items : List (Int × Int)} : xsOf (qit items) = (vals items).map i64 := by simp [xsOf, qit, vals]
theorem all_i64 {l : List Int} : (l.map i64).all LV.one = true := by simp [LV.one]

/-- The queue, and the law's two lists. -/
structure PBase (st0 st : LState) (q : Nat) (f : Option Nat) (its : List (LV × Int)) (limit last : Int) (x7 : LV) (l7 : List Int) (x8 : LV) (l8 : List Int) : Prop where
  hq : QAt st q f its limit last
  h7 : SI st x7 (l7.map i64)
  h8 : SI st x8 (l8.map i64)
  fr : Fr st0 st (fun _ => False)
  ql : st0.length ≤ q
  fl : ∀ j, f = some j → st0.length ≤ j
  o7 : ∀ j, ownS x7 j → st0.length ≤ j ∧ ¬ ownQ q f j
  o8 : ∀ j, ownS x8 j → st0.length ≤ j ∧ ¬ ownQ q f j ∧ ¬ ownS x7 j

section
variable {st0 st st' : LState} {q : Nat} {f f' : Option Nat} {its its' : List (LV × Int)} {limit last last' : Int} {x7 x7' x8 x8' : LV} {l7 l7' l8 l8' : List Int}

theorem PBase.qlt (h : PBase st0 st q f its limit last x7 l7 x8 l8) : ∀ j, ownQ q f j → j < st.length := by
  intro j hj
  rcases hj with rfl | e
  · exact get_lt h.hq.hdr
  · have := h.hq.own; rw [e] at this; exact this.lt

theorem PBase.q0 (h : PBase st0 st q f its limit last x7 l7 x8 l8) : ∀ j, ownQ q f j → st0.length ≤ j := by
  intro j hj
  rcases hj with rfl | e
  · exact h.ql
  · exact h.fl j e

theorem PBase.queue (h : PBase st0 st q f its limit last x7 l7 x8 l8) (hq : QAt st' q f' its' limit last') (fr : Fr st st' (ownQ q f)) (hf : ∀ j, f' = some j → f = some j ∨ st.length ≤ j) :
    PBase st0 st' q f' its' limit last' x7 l7 x8 l8 := by
  have own' : ∀ j, j < st.length → ownQ q f' j → ownQ q f j := by
    intro j hj ho
    rcases ho with e | e
    · exact .inl e
    · rcases hf j e with e' | e'
      · exact .inr e'
      · omega
  refine ⟨hq, h.h7.fr fr fun j hj => (h.o7 j hj).2, h.h8.fr fr fun j hj => (h.o8 j hj).2.1, h.fr.trans fr fun j hj ho => ?_, h.ql, fun j e => ?_, fun j hj => ⟨(h.o7 j hj).1, fun ho => (h.o7 j hj).2 (own' j (h.h7.lt j hj) ho)⟩,
    fun j hj => ⟨(h.o8 j hj).1, fun ho => (h.o8 j hj).2.1 (own' j (h.h8.lt j hj) ho), (h.o8 j hj).2.2⟩⟩
  · have := h.q0 j ho; omega
  · rcases hf j e with e' | e'
    · exact h.fl j e'
    · have := h.fr.len; omega

theorem PBase.quiet (h : PBase st0 st q f its limit last x7 l7 x8 l8) (fr : Fr st st' (fun _ => False)) : PBase st0 st' q f its limit last x7 l7 x8 l8 :=
  h.queue (h.hq.fr fr fun _ _ h => h) (fr.mono fun _ _ h => h.elim) fun j e => .inl e

theorem PBase.set7 (h : PBase st0 st q f its limit last x7 l7 x8 l8) (h7 : SI st' x7' (l7'.map i64)) (fr : Fr st st' (ownS x7)) (ho : ∀ j, ownS x7' j → ownS x7 j ∨ st.length ≤ j) :
    PBase st0 st' q f its limit last x7' l7' x8 l8 := by
  refine ⟨h.hq.fr fr fun j hj e => (h.o7 j e).2 hj, h7, h.h8.fr fr fun j hj e => (h.o8 j hj).2.2 e, h.fr.trans fr fun j hj e => ?_, h.ql, h.fl, fun j hj => ?_, fun j hj => ⟨(h.o8 j hj).1, (h.o8 j hj).2.1, fun e => ?_⟩⟩
  · have := (h.o7 j e).1; omega
  · rcases ho j hj with e | e
    · exact h.o7 j e
    · refine ⟨by have := h.fr.len; omega, fun e' => ?_⟩
      have := h.qlt j e'; omega
  · rcases ho j e with e | e
    · exact (h.o8 j hj).2.2 e
    · have := h.h8.lt j hj; omega

theorem PBase.set8 (h : PBase st0 st q f its limit last x7 l7 x8 l8) (h8 : SI st' x8' (l8'.map i64)) (fr : Fr st st' (ownS x8)) (ho : ∀ j, ownS x8' j → ownS x8 j ∨ st.length ≤ j) :
    PBase st0 st' q f its limit last x7 l7 x8' l8' := by
  refine ⟨h.hq.fr fr fun j hj e => (h.o8 j e).2.1 hj, h.h7.fr fr fun j hj e => (h.o8 j e).2.2 hj, h8, h.fr.trans fr fun j hj e => ?_, h.ql, h.fl, h.o7, fun j hj => ?_⟩
  · have := (h.o8 j e).1; omega
  · rcases ho j hj with e | e
    · exact h.o8 j e
    · refine ⟨by have := h.fr.len; omega, fun e' => ?_, fun e' => ?_⟩
      · have := h.qlt j e'; omega
      · have := h.h7.lt j e'; omega

end

/-- What holds at each round's begin. -/
structure PInv (st0 st : LState) (q : Nat) (f : Option Nat) (items : List (Int × Int)) (limit last : Int) (x7 x8 : LV) : Prop where
  b : PBase st0 st q f (qit items) limit last x7 (vals items) x8 (ns items)
  good : Good (qit items) last
  len : (items.length : Int) ≤ limit

section
variable {st0 : LState} {xa : LV} {acts : List (Int × Int)} {q : Nat} {limit : Int}

/-- What is asked of the queue behind each thing done. -/
theorem ask {i : Nat} {last : Int} {x7 x8 x16 x17 : LV} {f : Option Nat} {items : List (Int × Int)} {st : LState} (hi : i < 200) (hl : limit ≤ 1000) (h : PInv st0 st q f items limit last x7 x8)
    (hnext : ∀ st', PInv st0 st' q f items limit last x7 x8 → LT Try.prog [.tmp 4] (pointN Try.f4 1) R [i64 limit, xa, .junk, .junk, .junk, .ptr q 0, .junk, x7, x8, i64 last, i64 (i + 1 : Nat), .junk, .junk, .junk, .junk, .junk, x16, x17, .junk, .junk, .junk, .junk, .junk, .junk, .junk, .junk, .junk, .junk, .junk, .junk, .junk, .junk, .junk, .junk, .junk, .junk, .junk, .junk, .junk, .junk, .junk, .junk, .junk, .junk, .junk, .junk, .junk, .junk, .junk, .junk, .junk, .junk, .junk, .junk, .junk, .junk, .junk, .junk, .junk, .junk, .junk, .junk, .junk, .junk, .junk, .junk, .junk, .junk, .junk, .junk, .junk, .junk, .junk, .junk, .junk, .junk, .junk, .junk, .junk, .junk, .junk, .junk, .junk, .junk, .junk, .junk, .junk, .junk, .junk, .junk, .junk, .junk, .junk, .junk, .junk, .junk, .junk, .junk, .junk, .junk, .junk, .junk, .junk, .junk, .junk, .junk, .junk, .junk, .junk, .junk, .junk, .junk, .junk, .junk, .junk, .junk, .junk, .junk, .junk, .junk, .junk, .junk, .junk, .junk, .junk, .junk, .junk, .junk, .junk, .junk, .junk, .junk, .junk, .junk, .junk, .junk, .junk, .junk, .junk, .junk, .junk, .junk, .junk, .junk, .junk, .junk, .junk, .junk, .junk, .junk, .junk, .junk, .junk, .junk, .junk, .junk, .junk, .junk, .junk, .junk, .junk, .junk, .junk, .junk, .junk, .junk, .junk, .junk, .junk, .junk, .junk, .junk, .junk, .junk, .junk, .junk, .junk, .junk, .junk, .junk, .junk, .junk, .junk, .junk, .junk, .junk, .junk, .junk, .junk, .junk, .junk, .junk, .junk, .junk, .junk, .junk, .junk, .junk, .junk, .junk, .junk, .junk, .junk, .junk, .junk, .junk, .junk, .junk, .junk, .junk, .junk, .junk, .junk, .junk, .junk, .junk, .junk, .junk, .junk, .junk, .junk, .junk, .junk, .junk, .junk, .junk, .junk, .junk, .junk, .junk, .junk, .junk, .junk, .junk, .junk, .junk, .junk, .junk, .junk, .junk, .junk, .junk, .junk, .junk, .junk, .junk, .junk, .junk, .junk, .junk, .junk, .junk, .junk, .junk, .junk, .junk, .junk, .junk, .junk, .junk, .junk, .junk, .junk, .junk, .junk, .junk] st') : LT Try.prog [.tmp 4] (pointN Try.f4 3) R [i64 limit, xa, .junk, .junk, .junk, .ptr q 0, .junk, x7, x8, i64 last, i64 (i : Nat), .junk, .junk, .junk, .junk, .junk, x16, x17, .junk, .junk, .junk, .junk, .junk, .junk, .junk, .junk, .junk, .junk, .junk, .junk, .junk, .junk, .junk, .junk, .junk, .junk, .junk, .junk, .junk, .junk, .junk, .junk, .junk, .junk, .junk, .junk, .junk, .junk, .junk, .junk, .junk, .junk, .junk, .junk, .junk, .junk, .junk, .junk, .junk, .junk, .junk, .junk, .junk, .junk, .junk, .junk, .junk, .junk, .junk, .junk, .junk, .junk, .junk, .junk, .junk, .junk, .junk, .junk, .junk, .junk, .junk, .junk, .junk, .junk, .junk, .junk, .junk, .junk, .junk, .junk, .junk, .junk, .junk, .junk, .junk, .junk, .junk, .junk, .junk, .junk, .junk, .junk, .junk, .junk, .junk, .junk, .junk, .junk, .junk, .junk, .junk, .junk, .junk, .junk, .junk, .junk, .junk, .junk, .junk, .junk, .junk, .junk, .junk, .junk, .junk, .junk, .junk, .junk, .junk, .junk, .junk, .junk, .junk, .junk, .junk, .junk, .junk, .junk, .junk, .junk, .junk, .junk, .junk, .junk, .junk, .junk, .junk, .junk, .junk, .junk, .junk, .junk, .junk, .junk, .junk, .junk, .junk, .junk, .junk, .junk, .junk, .junk, .junk, .junk, .junk, .junk, .junk, .junk, .junk, .junk, .junk, .junk, .junk, .junk, .junk, .junk, .junk, .junk, .junk, .junk, .junk, .junk, .junk, .junk, .junk, .junk, .junk, .junk, .junk, .junk, .junk, .junk, .junk, .junk, .junk, .junk, .junk, .junk, .junk, .junk, .junk, .junk, .junk, .junk, .junk, .junk, .junk, .junk, .junk, .junk, .junk, .junk, .junk, .junk, .junk, .junk, .junk, .junk, .junk, .junk, .junk, .junk, .junk, .junk, .junk, .junk, .junk, .junk, .junk, .junk, .junk, .junk, .junk, .junk, .junk, .junk, .junk, .junk, .junk, .junk, .junk, .junk, .junk, .junk, .junk, .junk, .junk, .junk, .junk, .junk, .junk, .junk, .junk, .junk, .junk, .junk, .junk, .junk, .junk, .junk, .junk, .junk, .junk, .junk, .junk, .junk] st := by
  apply p4_3
  have hb := h.b
  have hlen := h.len
  have hw : IntKind.i64.wrap ((i : Int) + 1) = ((i + 1 : Nat) : Int) := by rw [wrap_i64 (by omega) (by omega)]; simp
  have mid : ∀ {K : LV → LState → Prop}, (∀ st', PInv st0 st' q f items limit last x7 x8 → K (.bool true) st') →
      LCalls Try.prog 21 [.ptr q 0] st fun v9 st10 => LCalls Try.prog 18 [v9, x8] st10 fun v11 st12 => K v11 st12 := by
    intro K hK
    refine numbers_spec (by rw [qit_len]; omega) h.good.one hb.hq fun st' g ho fr _ => ?_
    have hb' := hb.quiet fr
    rw [nums_qit] at ho
    exact same_spec (own_rd ho (by rw [qit_len, ns_len])) hb'.h8.rd (by rw [ns_len]; omega) (hK _ ⟨hb', h.good, h.len⟩)
  cases items with
  | nil =>
    refine first_none hb.hq ?_
    simp only [lextract_tup, List.getElem?_cons_zero, List.getElem?_cons_succ, bd_some]
    refine len_spec hb.hq ?_
    simp only [hb.h7.lenSl, bd_some, bInt_int, lint_neq, List.length_map, vals_len, qit_len, bne_self_eq_false, bsel_false]
    refine mid fun st' h' => ?_
    simp only [lun_not, Bool.not_true, bd_some, bsel_false, lint_gtr]
    rw [show (decide (((([] : List (Int × Int)).length : Nat) : Int) > 0)) = false by simp, bBool_neq]
    simp only [bd_some, bne_self_eq_false, bsel_false, lint_add, hw]
    exact hnext _ h'
  | cons p items =>
    obtain ⟨a, n⟩ := p
    refine first_spec (x := i64 a) (n := n) (items := qit items) hb.hq ?_
    simp only [lextract_tup, List.getElem?_cons_zero, List.getElem?_cons_succ, bd_some]
    refine len_spec hb.hq ?_
    simp only [hb.h7.lenSl, bd_some, bInt_int, lint_neq, List.length_map, vals_len, qit_len, bne_self_eq_false, bsel_false]
    refine mid fun st' h' => ?_
    simp only [lun_not, Bool.not_true, bd_some, bsel_false, lint_gtr]
    rw [show (decide ((((a, n) :: items).length : Int) > 0)) = true by simp <;> omega, bBool_neq]
    obtain ⟨p7, e1, e2⟩ := h'.b.h7.at (i := 0) (v := i64 a) (kk := .i64) (by simp [vals])
    obtain ⟨p8, e3, e4⟩ := h'.b.h8.at (i := 0) (v := i64 n) (kk := .i64) (by simp [ns])
    have e1' : ixSl 1 x7 (LV.int IntKind.i64 0) = some p7 := e1
    have e3' : ixSl 1 x8 (LV.int IntKind.i64 0) = some p8 := e3
    simp only [bd_some, bne_self_eq_false, bsel_false, bsel_true, e1', e2, e3', e4, bInt_int, lint_neq, lint_add, hw]
    exact hnext _ h'

theorem qit_app {a b : List (Int × Int)} : qit (a ++ b) = qit a ++ qit b := by simp [qit]
theorem vals_app {a b : List (Int × Int)} : vals (a ++ b) = vals a ++ vals b := by simp [vals]
theorem ns_app {a b : List (Int × Int)} : ns (a ++ b) = ns a ++ ns b := by simp [ns]

/-- Dropping: which place has the number. -/
theorem dropping {i : Nat} {last : Int} {x7 x8 : LV} {f : Option Nat} {items : List (Int × Int)} {st : LState} (hs : SlA st0 2 xa (arows acts)) (hia : i < acts.length) (hi : i < 200) (hl : limit ≤ 1000) (h : PInv st0 st q f items limit last x7 x8)
    (hnext : ∀ f' items' x7' x8' x16 x17 st', PInv st0 st' q f' items' limit last x7' x8' → LT Try.prog [.tmp 4] (pointN Try.f4 1) R [i64 limit, xa, .junk, .junk, .junk, .ptr q 0, .junk, x7', x8', i64 last, i64 (i + 1 : Nat), .junk, .junk, .junk, .junk, .junk, x16, x17, .junk, .junk, .junk, .junk, .junk, .junk, .junk, .junk, .junk, .junk, .junk, .junk, .junk, .junk, .junk, .junk, .junk, .junk, .junk, .junk, .junk, .junk, .junk, .junk, .junk, .junk, .junk, .junk, .junk, .junk, .junk, .junk, .junk, .junk, .junk, .junk, .junk, .junk, .junk, .junk, .junk, .junk, .junk, .junk, .junk, .junk, .junk, .junk, .junk, .junk, .junk, .junk, .junk, .junk, .junk, .junk, .junk, .junk, .junk, .junk, .junk, .junk, .junk, .junk, .junk, .junk, .junk, .junk, .junk, .junk, .junk, .junk, .junk, .junk, .junk, .junk, .junk, .junk, .junk, .junk, .junk, .junk, .junk, .junk, .junk, .junk, .junk, .junk, .junk, .junk, .junk, .junk, .junk, .junk, .junk, .junk, .junk, .junk, .junk, .junk, .junk, .junk, .junk, .junk, .junk, .junk, .junk, .junk, .junk, .junk, .junk, .junk, .junk, .junk, .junk, .junk, .junk, .junk, .junk, .junk, .junk, .junk, .junk, .junk, .junk, .junk, .junk, .junk, .junk, .junk, .junk, .junk, .junk, .junk, .junk, .junk, .junk, .junk, .junk, .junk, .junk, .junk, .junk, .junk, .junk, .junk, .junk, .junk, .junk, .junk, .junk, .junk, .junk, .junk, .junk, .junk, .junk, .junk, .junk, .junk, .junk, .junk, .junk, .junk, .junk, .junk, .junk, .junk, .junk, .junk, .junk, .junk, .junk, .junk, .junk, .junk, .junk, .junk, .junk, .junk, .junk, .junk, .junk, .junk, .junk, .junk, .junk, .junk, .junk, .junk, .junk, .junk, .junk, .junk, .junk, .junk, .junk, .junk, .junk, .junk, .junk, .junk, .junk, .junk, .junk, .junk, .junk, .junk, .junk, .junk, .junk, .junk, .junk, .junk, .junk, .junk, .junk, .junk, .junk, .junk, .junk, .junk, .junk, .junk, .junk, .junk, .junk, .junk, .junk, .junk, .junk, .junk, .junk, .junk, .junk, .junk, .junk, .junk, .junk, .junk, .junk, .junk, .junk, .junk, .junk, .junk, .junk, .junk] st') :
    ∀ (n k : Nat) (at' : Int), n = items.length - k → k ≤ items.length → (at' = -1 ∧ (∀ j, j < k → ∀ p, items[j]? = some p → p.2 ≠ acts[i].2) ∨ ∃ j : Nat, at' = j ∧ j < k ∧ ∃ p, items[j]? = some p ∧ p.2 = acts[i].2) →
      LT Try.prog [.tmp 4] (pointN Try.f4 5) R [i64 limit, xa, .junk, .junk, .junk, .ptr q 0, .junk, x7, x8, i64 last, i64 (i : Nat), .junk, .junk, .junk, .junk, .junk, i64 at', i64 (k : Nat), .junk, .junk, .junk, .junk, .junk, .junk, .junk, .junk, .junk, .junk, .junk, .junk, .junk, .junk, .junk, .junk, .junk, .junk, .junk, .junk, .junk, .junk, .junk, .junk, .junk, .junk, .junk, .junk, .junk, .junk, .junk, .junk, .junk, .junk, .junk, .junk, .junk, .junk, .junk, .junk, .junk, .junk, .junk, .junk, .junk, .junk, .junk, .junk, .junk, .junk, .junk, .junk, .junk, .junk, .junk, .junk, .junk, .junk, .junk, .junk, .junk, .junk, .junk, .junk, .junk, .junk, .junk, .junk, .junk, .junk, .junk, .junk, .junk, .junk, .junk, .junk, .junk, .junk, .junk, .junk, .junk, .junk, .junk, .junk, .junk, .junk, .junk, .junk, .junk, .junk, .junk, .junk, .junk, .junk, .junk, .junk, .junk, .junk, .junk, .junk, .junk, .junk, .junk, .junk, .junk, .junk, .junk, .junk, .junk, .junk, .junk, .junk, .junk, .junk, .junk, .junk, .junk, .junk, .junk, .junk, .junk, .junk, .junk, .junk, .junk, .junk, .junk, .junk, .junk, .junk, .junk, .junk, .junk, .junk, .junk, .junk, .junk, .junk, .junk, .junk, .junk, .junk, .junk, .junk, .junk, .junk, .junk, .junk, .junk, .junk, .junk, .junk, .junk, .junk, .junk, .junk, .junk, .junk, .junk, .junk, .junk, .junk, .junk, .junk, .junk, .junk, .junk, .junk, .junk, .junk, .junk, .junk, .junk, .junk, .junk, .junk, .junk, .junk, .junk, .junk, .junk, .junk, .junk, .junk, .junk, .junk, .junk, .junk, .junk, .junk, .junk, .junk, .junk, .junk, .junk, .junk, .junk, .junk, .junk, .junk, .junk, .junk, .junk, .junk, .junk, .junk, .junk, .junk, .junk, .junk, .junk, .junk, .junk, .junk, .junk, .junk, .junk, .junk, .junk, .junk, .junk, .junk, .junk, .junk, .junk, .junk, .junk, .junk, .junk, .junk, .junk, .junk, .junk, .junk, .junk, .junk, .junk, .junk, .junk, .junk, .junk, .junk, .junk, .junk, .junk, .junk, .junk, .junk] st := by
  have hlen := h.len
  have hsl := hs.fr h.b.fr fun _ _ h => h
  have hget : (arows acts)[i]? = some [.int .u8 acts[i].1, i64 acts[i].2] := by
    simp [arows, List.getElem?_eq_getElem hia]
  obtain ⟨oa, ea, _, eb⟩ := hsl.at hget (kk := .i64)
  have hn2 := eb 1 _ rfl
  intro n
  induction n with
  | succ n ih =>
    intro k at' hn hk hat
    apply p4_5
    have hkl : k < items.length := by omega
    have hgi : items[k]? = some items[k] := List.getElem?_eq_getElem hkl
    obtain ⟨p8, e1, e2⟩ := h.b.h8.at (i := k) (v := i64 items[k].2) (kk := .i64) (by simp [ns, hgi])
    have hw : IntKind.i64.wrap ((k : Int) + 1) = ((k + 1 : Nat) : Int) := by rw [wrap_i64 (by omega) (by omega)]; simp
    have hk1 : n = items.length - (k + 1) := by clear hat; omega
    have hk2 : k + 1 ≤ items.length := by clear hat; omega
    have hk3 : (k : Int) < items.length := by clear hat; omega
    simp only [w4_5, h.b.h8.lenSl, List.length_map, ns_len, bd_some, bInt_int, lint_lss, bsel_dec]
    refine ⟨fun _ => ?_, fun h => absurd hk3 h⟩
    simp only [e1, e2, ea, fAddr_ptr, hn2, bd_some, bInt_int, lint_eql, bsel_bool, beq_iff_eq, lint_add, hw]
    refine ⟨fun e => ih (k + 1) k hk1 hk2 (.inr ⟨k, rfl, Nat.lt_succ_self _, _, hgi, e⟩), fun e => ih (k + 1) at' hk1 hk2 ?_⟩
    rcases hat with ⟨e1, e2⟩ | ⟨j, e1, e2, e3⟩
    · refine .inl ⟨e1, fun j hj p hp => ?_⟩
      rcases Nat.lt_succ_iff_lt_or_eq.1 hj with hj | hj
      · exact e2 j hj p hp
      · subst hj; rw [hgi] at hp; cases hp; simpa using e
    · exact .inr ⟨j, e1, by omega, e3⟩
  | zero =>
    intro k at' hn hk hat
    apply p4_5
    have hkl : k = items.length := by omega
    subst hkl
    simp only [w4_5, h.b.h8.lenSl, List.length_map, ns_len, bd_some, bInt_int, lint_lss, bsel_dec, ea, fAddr_ptr, hn2]
    refine ⟨fun h => by omega, fun _ => ?_⟩
    rcases hat with ⟨rfl, hno⟩ | ⟨j, rfl, hj, p, hp, e⟩
    · rcases idx_cases acts[i].2 (qit items) 0 with ⟨e, _⟩ | ⟨pre, x, suf, e, _⟩
      · refine drop_no (by rw [qit_len]; omega) h.b.hq (by rw [e]; omega) fun st' fr => ?_
        have hb' := h.b.quiet fr
        simp only [lextract_tup, List.getElem?_cons_zero, List.getElem?_cons_succ, bd_some, bInt_int, lint_geq]
        rw [show decide ((-1 : Int) ≥ 0) = false from rfl, bBool_neq]
        simp only [bd_some, bne_self_eq_false, bsel_false, lun_not, Bool.not_false, bsel_true, bInt_int, lint_neq]
        exact ask hi hl ⟨hb', h.good, h.len⟩ fun st' h' => hnext _ _ _ _ _ _ _ h'
      · exfalso
        have hm : (qit items)[pre.length]? = some (x, acts[i].2) := by rw [e]; simp
        simp only [qit, List.getElem?_map, Option.map_eq_some_iff] at hm
        obtain ⟨p, hp, e2⟩ := hm
        have hlt := (List.getElem?_eq_some_iff.1 hp).1
        refine hno _ hlt p hp ?_
        injection e2
    · obtain ⟨a, m⟩ := p
      simp only at e
      subst e
      have hsplit : items = items.take j ++ (a, acts[i].2) :: items.drop (j + 1) := by
        have h1 := List.take_append_drop j items
        have h2 : items.drop j = (a, acts[i].2) :: items.drop (j + 1) := by
          rw [List.drop_eq_getElem_cons hj]
          congr 1
          have := List.getElem?_eq_getElem hj
          rw [hp] at this; exact (Option.some.inj this).symm
        rw [← h2]; exact h1.symm
      have hpl : (items.take j).length = j := by rw [List.length_take]; omega
      generalize hpre : items.take j = pre at *
      generalize hsuf : items.drop (j + 1) = suf at *
      subst hpl
      have hg := h.good
      have hbq := h.b
      rw [hsplit] at hg hbq hlen
      rw [qit_app] at hg hbq
      have hqs : qit ((a, acts[i].2) :: suf) = (i64 a, acts[i].2) :: qit suf := rfl
      rw [hqs] at hg hbq
      have hlen2 : (pre ++ (a, acts[i].2) :: suf).length = pre.length + suf.length + 1 := by simp; omega
      rw [hlen2] at hlen
      have hup := hg.up
      rw [List.pairwise_append] at hup
      have hpne : ∀ p ∈ qit pre, p.2 ≠ acts[i].2 := by
        intro p hp e
        have := hup.2.2 p hp (i64 a, acts[i].2) (by simp)
        simp only at this; omega
      refine drop_spec (by simp [qit_len]; omega) hbq.hq hpne (fun p hp => hg.one p (by simp [hp])) fun st' hq' fr => ?_
      have hb' := hbq.queue hq' fr fun j e => .inl e
      have h7 := hb'.h7
      have h8 := hb'.h8
      rw [vals_app] at h7
      rw [ns_app] at h8
      have e7 : (vals pre ++ vals ((a, acts[i].2) :: suf)).map i64 = (vals pre).map i64 ++ i64 a :: (vals suf).map i64 := by simp [vals]
      have e8 : (ns pre ++ ns ((a, acts[i].2) :: suf)).map i64 = (ns pre).map i64 ++ i64 acts[i].2 :: (ns suf).map i64 := by simp [ns]
      rw [e7] at h7
      rw [e8] at h8
      have hvl : ((vals pre).map i64).length = pre.length := by simp [vals]
      have hnl : ((ns pre).map i64).length = pre.length := by simp [ns]
      obtain ⟨p7, g1, g2⟩ := h7.at (i := pre.length) (v := i64 a) (kk := .i64) (by rw [List.getElem?_append_right (by omega), hvl]; simp)
      simp only [lextract_tup, List.getElem?_cons_zero, List.getElem?_cons_succ, bd_some, bInt_int, lint_geq]
      rw [show decide ((pre.length : Int) ≥ 0) = true by simp, bBool_neq]
      simp only [bd_some, bne_self_eq_false, bsel_false, lun_not, Bool.not_true, bsel_true, g1, g2, bInt_int, lint_neq]
      have hcut7 := fun K hk => h7.cut2 (K := K) all_i64 all_i64 (by simp [vals]; omega) hk
      have hcut8 : ∀ s, SI s x8 ((ns pre).map i64 ++ i64 acts[i].2 :: (ns suf).map i64) → ∀ K hk, _ := fun s h8 K hk => h8.cut2 (K := K) all_i64 all_i64 (by simp [ns]; omega) hk
      rw [hvl] at hcut7
      rw [hnl] at hcut8
      refine hcut7 _ fun s1 y7 i7 f7 o7 => ?_
      have b7 := hb'.set7 (l7' := vals pre ++ vals suf) (by rw [List.map_append]; exact i7) (f7.mono fun _ _ h => h.elim) fun j e => .inr (o7 j e)
      have h8' := b7.h8
      rw [ns_app, e8] at h8'
      refine hcut8 s1 h8' _ fun s2 y8 i8 f8 o8 => ?_
      have b8 := b7.set8 (l8' := ns pre ++ ns suf) (by rw [List.map_append]; exact i8) (f8.mono fun _ _ h => h.elim) fun j e => .inr (o8 j e)
      refine ask hi hl (items := pre ++ suf) ⟨by rw [qit_app, vals_app, ns_app]; exact b8, ?_, by simp; omega⟩ fun st' h' => hnext _ _ _ _ _ _ _ h'
      rw [qit_app]
      exact hg.sub (List.Sublist.append_left (List.sublist_cons_self _ _) _)

theorem rounds (hs : SlA st0 2 xa (arows acts)) (hla : acts.length ≤ 200) (hl0 : 0 ≤ limit) (hl : limit ≤ 1000) (hR : ∀ st', R (.bool true) st') : ∀ (n i : Nat) (last : Int) (f : Option Nat) (items : List (Int × Int)) (x7 x8 x16 x17 : LV) (st : LState),
    n = acts.length - i → i ≤ acts.length → 0 ≤ last → last ≤ i → PInv st0 st q f items limit last x7 x8 → LT Try.prog [.tmp 4] (pointN Try.f4 1) R [i64 limit, xa, .junk, .junk, .junk, .ptr q 0, .junk, x7, x8, i64 last, i64 (i : Nat), .junk, .junk, .junk, .junk, .junk, x16, x17, .junk, .junk, .junk, .junk, .junk, .junk, .junk, .junk, .junk, .junk, .junk, .junk, .junk, .junk, .junk, .junk, .junk, .junk, .junk, .junk, .junk, .junk, .junk, .junk, .junk, .junk, .junk, .junk, .junk, .junk, .junk, .junk, .junk, .junk, .junk, .junk, .junk, .junk, .junk, .junk, .junk, .junk, .junk, .junk, .junk, .junk, .junk, .junk, .junk, .junk, .junk, .junk, .junk, .junk, .junk, .junk, .junk, .junk, .junk, .junk, .junk, .junk, .junk, .junk, .junk, .junk, .junk, .junk, .junk, .junk, .junk, .junk, .junk, .junk, .junk, .junk, .junk, .junk, .junk, .junk, .junk, .junk, .junk, .junk, .junk, .junk, .junk, .junk, .junk, .junk, .junk, .junk, .junk, .junk, .junk, .junk, .junk, .junk, .junk, .junk, .junk, .junk, .junk, .junk, .junk, .junk, .junk, .junk, .junk, .junk, .junk, .junk, .junk, .junk, .junk, .junk, .junk, .junk, .junk, .junk, .junk, .junk, .junk, .junk, .junk, .junk, .junk, .junk, .junk, .junk, .junk, .junk, .junk, .junk, .junk, .junk, .junk, .junk, .junk, .junk, .junk, .junk, .junk, .junk, .junk, .junk, .junk, .junk, .junk, .junk, .junk, .junk, .junk, .junk, .junk, .junk, .junk, .junk, .junk, .junk, .junk, .junk, .junk, .junk, .junk, .junk, .junk, .junk, .junk, .junk, .junk, .junk, .junk, .junk, .junk, .junk, .junk, .junk, .junk, .junk, .junk, .junk, .junk, .junk, .junk, .junk, .junk, .junk, .junk, .junk, .junk, .junk, .junk, .junk, .junk, .junk, .junk, .junk, .junk, .junk, .junk, .junk, .junk, .junk, .junk, .junk, .junk, .junk, .junk, .junk, .junk, .junk, .junk, .junk, .junk, .junk, .junk, .junk, .junk, .junk, .junk, .junk, .junk, .junk, .junk, .junk, .junk, .junk, .junk, .junk, .junk, .junk, .junk, .junk, .junk, .junk, .junk, .junk, .junk, .junk, .junk, .junk, .junk, .junk, .junk, .junk, .junk, .junk] st := by
  intro n
  induction n with
  | zero =>
    intro i last f items x7 x8 x16 x17 st hn hi h0 h1 h
    apply p4_1
    have hsl := hs.fr h.b.fr fun _ _ h => h
    simp only [w4_1, hsl.lenSl, arows, List.length_map, bd_some, bInt_int, lint_lss, bsel_dec]
    exact ⟨fun h => by omega, fun _ => hR _⟩
  | succ n ih =>
    intro i last f items x7 x8 x16 x17 st hn hi h0 h1 h
    apply p4_1
    have hil : i < acts.length := by omega
    have hlen := h.len
    have hsl := hs.fr h.b.fr fun _ _ h => h
    have hget : (arows acts)[i]? = some [.int .u8 acts[i].1, i64 acts[i].2] := by
      simp [arows, List.getElem?_eq_getElem hil]
    obtain ⟨o, e1, _, e2⟩ := hsl.at hget (kk := .i64)
    have hk := e2 0 _ rfl
    have hn2 := e2 1 _ rfl
    rw [Nat.add_zero] at hk
    have h7l := h.b.h7.lenSl
    simp only [List.length_map, vals_len] at h7l
    simp only [w4_1, hsl.lenSl, arows, List.length_map, bd_some, bInt_int, lint_lss, bsel_dec, e1, fAddr_ptr, Nat.add_zero, hk, hn2]
    rw [show lint .rem .u8 acts[i].1 4 = some (.int .u8 (acts[i].1.tmod 4)) from rfl]
    simp only [bd_some, bInt_int, lint_eql, bsel_bool]
    have next : ∀ last', 0 ≤ last' → last' ≤ ((i + 1 : Nat) : Int) → ∀ f' items' x7' x8' x16 x17 st', PInv st0 st' q f' items' limit last' x7' x8' → LT Try.prog [.tmp 4] (pointN Try.f4 1) R [i64 limit, xa, .junk, .junk, .junk, .ptr q 0, .junk, x7', x8', i64 last', i64 (i + 1 : Nat), .junk, .junk, .junk, .junk, .junk, x16, x17, .junk, .junk, .junk, .junk, .junk, .junk, .junk, .junk, .junk, .junk, .junk, .junk, .junk, .junk, .junk, .junk, .junk, .junk, .junk, .junk, .junk, .junk, .junk, .junk, .junk, .junk, .junk, .junk, .junk, .junk, .junk, .junk, .junk, .junk, .junk, .junk, .junk, .junk, .junk, .junk, .junk, .junk, .junk, .junk, .junk, .junk, .junk, .junk, .junk, .junk, .junk, .junk, .junk, .junk, .junk, .junk, .junk, .junk, .junk, .junk, .junk, .junk, .junk, .junk, .junk, .junk, .junk, .junk, .junk, .junk, .junk, .junk, .junk, .junk, .junk, .junk, .junk, .junk, .junk, .junk, .junk, .junk, .junk, .junk, .junk, .junk, .junk, .junk, .junk, .junk, .junk, .junk, .junk, .junk, .junk, .junk, .junk, .junk, .junk, .junk, .junk, .junk, .junk, .junk, .junk, .junk, .junk, .junk, .junk, .junk, .junk, .junk, .junk, .junk, .junk, .junk, .junk, .junk, .junk, .junk, .junk, .junk, .junk, .junk, .junk, .junk, .junk, .junk, .junk, .junk, .junk, .junk, .junk, .junk, .junk, .junk, .junk, .junk, .junk, .junk, .junk, .junk, .junk, .junk, .junk, .junk, .junk, .junk, .junk, .junk, .junk, .junk, .junk, .junk, .junk, .junk, .junk, .junk, .junk, .junk, .junk, .junk, .junk, .junk, .junk, .junk, .junk, .junk, .junk, .junk, .junk, .junk, .junk, .junk, .junk, .junk, .junk, .junk, .junk, .junk, .junk, .junk, .junk, .junk, .junk, .junk, .junk, .junk, .junk, .junk, .junk, .junk, .junk, .junk, .junk, .junk, .junk, .junk, .junk, .junk, .junk, .junk, .junk, .junk, .junk, .junk, .junk, .junk, .junk, .junk, .junk, .junk, .junk, .junk, .junk, .junk, .junk, .junk, .junk, .junk, .junk, .junk, .junk, .junk, .junk, .junk, .junk, .junk, .junk, .junk, .junk, .junk, .junk, .junk, .junk, .junk, .junk, .junk, .junk, .junk, .junk, .junk, .junk, .junk, .junk, .junk, .junk, .junk] st' :=
      fun last' a b f' items' x7' x8' x16 x17 st' h' => ih (i + 1) last' f' items' x7' x8' x16 x17 st' (by omega) (by omega) a b h'
    refine ⟨fun _ => ⟨fun _ => ?_, fun _ => ⟨fun _ => ?_, fun _ => ⟨fun _ => ?_, fun _ => ?_⟩⟩⟩, fun h => by omega⟩
    · -- Put
      by_cases hfull : limit ≤ items.length
      · refine put_full h.b.hq (by rw [qit_len]; exact hfull) ?_
        simp only [lextract_tup, List.getElem?_cons_zero, List.getElem?_cons_succ, bd_some, h7l, bInt_int, lint_geq, lint_neq]
        rw [decide_eq_true (show ((items.length : Nat) : Int) ≥ limit by omega)]
        simp only [bsel_true, bne_self_eq_false, bsel_false]
        exact ask (by omega) hl h fun st' h' => next last h0 (by omega) _ _ _ _ _ _ _ h'
      · refine put_spec h.b.hq (by rw [qit_len]; omega) hl h0 (by omega) fun st' f' hq' fr hf => ?_
        have hb' := h.b.queue hq' fr hf
        have hsl' := hs.fr hb'.fr fun _ _ h => h
        obtain ⟨o', e1', _, e2'⟩ := hsl'.at hget (kk := .i64)
        have hn2' := e2' 1 _ rfl
        obtain rfl : o = o' := by
          have h := e1.symm.trans e1'
          injection h with h
          injection h
        have hw : IntKind.i64.wrap (last + 1) = last + 1 := wrap_i64 (by omega) (by omega)
        simp only [lextract_tup, List.getElem?_cons_zero, List.getElem?_cons_succ, bd_some, h7l, bInt_int, lint_geq, lint_neq]
        rw [decide_eq_false (show ¬ ((items.length : Nat) : Int) ≥ limit by omega)]
        simp only [bsel_false, lint_add, hw, bd_some, e1', fAddr_ptr, hn2']
        refine hb'.h7.push (v := i64 acts[i].2) rfl (by simp [vals]; omega) fun s1 y7 i7 f7 o7 => ?_
        have b7 := hb'.set7 (l7' := vals items ++ [acts[i].2]) (by rw [List.map_append]; exact i7) f7 o7
        refine b7.h8.push (v := i64 (last + 1)) rfl (by simp [ns]; omega) fun s2 y8 i8 f8 o8 => ?_
        have b8 := b7.set8 (l8' := ns items ++ [last + 1]) (by rw [List.map_append]; exact i8) f8 o8
        simp only [bInt_int, lint_neq, bne_self_eq_false, bd_some, bsel_false]
        refine ask (items := items ++ [(acts[i].2, last + 1)]) (by omega) hl ⟨by rw [qit_app, vals_app, ns_app]; exact b8, ?_, by simp; omega⟩ fun st' h' => next (last + 1) (by omega) (by omega) _ _ _ _ _ _ _ h'
        rw [qit_app]
        exact h.good.push h0 rfl
    · -- Take
      cases items with
      | nil =>
        refine take_none h.b.hq ?_
        simp only [lextract_tup, List.getElem?_cons_zero, List.getElem?_cons_succ, bd_some, h7l, bInt_int, lint_gtr]
        rw [show (decide (((([] : List (Int × Int)).length : Nat) : Int) > 0)) = false by simp, bBool_neq]
        simp only [bd_some, bne_self_eq_false, bsel_false, lun_not, Bool.not_false, bsel_true, bInt_int, lint_neq]
        exact ask (by omega) hl h fun st' h' => next last h0 (by omega) _ _ _ _ _ _ _ h'
      | cons p items =>
        obtain ⟨a, m⟩ := p
        have hg := h.good
        refine take_spec (x := i64 a) (n := m) (items := qit items) h.b.hq (fun p hp => hg.one p (List.mem_cons_of_mem _ hp)) fun st' hq' fr => ?_
        have hb' := h.b.queue hq' fr fun j e => .inl e
        simp only [lextract_tup, List.getElem?_cons_zero, List.getElem?_cons_succ, bd_some, h7l, bInt_int, lint_gtr]
        rw [show (decide ((((a, m) :: items).length : Int) > 0)) = true by simp <;> omega, bBool_neq]
        have h7 := hb'.h7
        have h8 := hb'.h8
        obtain ⟨p7, g1, g2⟩ := h7.at (i := 0) (v := i64 a) (kk := .i64) (by simp [vals])
        obtain ⟨p8, g3, g4⟩ := h8.at (i := 0) (v := i64 m) (kk := .i64) (by simp [ns])
        have g1' : ixSl 1 x7 (LV.int IntKind.i64 0) = some p7 := g1
        have g3' : ixSl 1 x8 (LV.int IntKind.i64 0) = some p8 := g3
        simp only [bd_some, bne_self_eq_false, bsel_false, lun_not, Bool.not_true, bsel_true, bInt_int, lint_neq, g1', g2, g3', g4]
        have e7 : (vals ((a, m) :: items)).map i64 = i64 a :: (vals items).map i64 := rfl
        have e8 : (ns ((a, m) :: items)).map i64 = i64 m :: (ns items).map i64 := rfl
        rw [e7] at h7
        have hlen' : (items.length : Int) + 1 ≤ limit := by simpa using hlen
        refine h7.cut1 all_i64 (by simp [vals]; omega) fun s1 y7 i7 f7 o7 => ?_
        have b7 := hb'.set7 (l7' := vals items) i7 (f7.mono fun _ _ h => h.elim) fun j e => .inr (o7 j e)
        have h8' := b7.h8
        rw [e8] at h8'
        refine h8'.cut1 all_i64 (by simp [ns]; omega) fun s2 y8 i8 f8 o8 => ?_
        have b8 := b7.set8 (l8' := ns items) i8 (f8.mono fun _ _ h => h.elim) fun j e => .inr (o8 j e)
        exact ask (items := items) (by omega) hl ⟨b8, hg.sub (List.sublist_cons_self _ _), by omega⟩ fun st' h' => next last h0 (by omega) _ _ _ _ _ _ _ h'
    · -- Drop
      exact dropping hs hil (by omega) hl h (fun f' items' x7' x8' x16 x17 st' h' => next last h0 (by omega) f' items' x7' x8' x16 x17 st' h') _ 0 (-1) rfl (by omega) (.inl ⟨rfl, by omega⟩)
    · -- Clear
      refine clear_spec (by rw [qit_len]; omega) h.good.one h.b.hq fun st' g ho hq' fr _ => ?_
      have hb' := h.b.queue hq' fr fun j e => by simp at e
      rw [xsOf_qit] at ho
      refine same_spec (own_rd ho (by rw [qit_len, vals_len])) hb'.h7.rd (by rw [vals_len]; omega) ?_
      simp only [lun_not, Bool.not_true, bd_some, bsel_false]
      have hn : SI st' .nils (([] : List Int).map i64) := .inl ⟨rfl, rfl⟩
      have b7 := hb'.set7 hn Fr.refl fun j e => by simp [ownS] at e
      have b8 := b7.set8 hn Fr.refl fun j e => by simp [ownS] at e
      exact ask (items := []) (by omega) hl ⟨b8, ⟨by simp [qit], by simp [qit], List.Pairwise.nil⟩, by simpa using hl0⟩ fun st' h' => next last h0 (by omega) _ _ _ _ _ _ _ h'

end

/-- QueuePlays -/
theorem plays_law {st : LState} {xa : LV} {acts : List (Int × Int)} {limit : Int} (hs : SlA st 2 xa (arows acts)) (hR : ∀ st', R (.bool true) st') : LCalls Try.prog 4 [i64 limit, xa] st R := by
  apply c4
  simp only [w4, hs.lenSl, arows, List.length_map, bd_some, bInt_int, lint_gtr, bsel_dec]
  refine ⟨fun _ => awake_spec fun _ _ => hR _, fun hla => ?_⟩
  refine awake_spec fun s1 f1 => ?_
  simp only [lun_not, Bool.not_true, bd_some, bsel_false]
  by_cases hbad : limit < 0 ∨ 1000 < limit
  · refine new_bad hbad ?_
    simp only [lextract_tup, List.getElem?_cons_zero, List.getElem?_cons_succ, bd_some, bInt_int, lint_lss, lint_gtr, bsel_dec, eqPtr_nn, eqB_some, eqOut_eql, bsel_true, lint_eql, beq_self_eq_true]
    exact ⟨fun _ => hR _, fun _ => ⟨fun _ => hR _, fun _ => by omega⟩⟩
  · refine new_spec (by omega) (by omega) fun s2 q hq f2 hql => ?_
    simp only [lextract_tup, List.getElem?_cons_zero, List.getElem?_cons_succ, bd_some, bInt_int, lint_lss, lint_gtr, bsel_dec]
    refine ⟨fun _ => by omega, fun _ => ⟨fun _ => by omega, fun _ => ?_⟩⟩
    have fr : Fr st s2 (fun _ => False) := f1.trans f2 fun _ _ h => h
    have hb : PBase st s2 q none (qit []) limit 0 .nils (vals []) .nils (ns []) :=
      ⟨hq, .inl ⟨rfl, rfl⟩, .inl ⟨rfl, rfl⟩, fr, by have := f1.len; omega, by simp, by simp [ownS], by simp [ownS]⟩
    exact rounds hs (by omega) (by omega) (by omega) hR _ 0 0 none [] .nils .nils _ _ s2 rfl (by omega) (by omega) (by omega) ⟨hb, ⟨by simp [qit], by simp [qit], List.Pairwise.nil⟩, by simp; omega⟩

end Go.Proofs.Ytkjmpjaahgficaa
