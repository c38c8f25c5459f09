/- QueueOrders, over the clean machine. -/
import Derived.Test.YtkjmpjaahgficaaQsS
import Derived.Test.YtkjmpjaahgficaaQuW3
import Derived.Test.YtkjmpjaahgficaaQuN
import Derived.Test.YtkjmpjaahgficaaCm33
namespace Go.Proofs.Ytkjmpjaahgficaa
open Go Go.CM

variable {R : LV → LState → Prop}

/-- Texts, numbered from k + 1 on. -/
def enum : Nat → List (List UInt8) → List (LV × Int)
  | _, [] => []
  | k, s :: r => (.str s, (k : Int) + 1) :: enum (k + 1) r

theorem enum_len : ∀ {k : Nat} {l : List (List UInt8)}, (enum k l).length = l.length
  | _, [] => rfl
  | k, s :: r => by simp [enum, enum_len (k := k + 1) (l := r)]

theorem enum_app : ∀ {k : Nat} {l : List (List UInt8)} {s : List UInt8}, enum k (l ++ [s]) = enum k l ++ [(.str s, ((k + l.length : Nat) : Int) + 1)]
  | k, [], s => by simp [enum]
  | k, a :: l, s => by
    simp only [List.cons_append, enum, enum_app (k := k + 1) (l := l), List.length_cons]
    congr 4; omega

theorem enum_one {k : Nat} {l : List (List UInt8)} : ∀ p ∈ enum k l, p.1.one = true := by
  induction l generalizing k with
  | nil => simp [enum]
  | cons s r ih =>
    intro p hp
    rcases List.mem_cons.1 hp with e | hp
    · subst e; rfl
    · exact ih p hp

/-- The rows of a slice of texts. -/
def srows (l : List (List UInt8)) : List (List LV) := l.map fun s => [.str s]

theorem wrap_u8 {n : Int} (h : 0 ≤ n ∧ n < 256) : IntKind.i64.wrap n = n := wrap_i64 (by omega) (by omega)

section
variable {st0 : LState} {x0 : LV} {l : List (List UInt8)} {lim : Int}

/-- What comes behind the second loop. -/
theorem orders_end {st : LState} {q : Nat} {f : Option Nat} {items : List (LV × Int)} {limit last : Int} (hq : QAt st q f items limit last) (hi : items = []) (hR : ∀ st', R (.bool true) st') :
    LCalls Try.prog 12 [.ptr q 0] st fun v16 st17 => bd (bInt BinOp.eql v16 (LV.int IntKind.i64 0)) fun v18 => R v18 st17 := by
  subst hi
  refine slen_spec hq ?_
  simp only [List.length_nil, bInt_int, lint_eql, bd_some]
  exact hR _

theorem orders_loop2 (hs : SlA st0 1 x0 (srows l)) (hl : l.length ≤ 100) (h0 : 0 ≤ lim ∧ lim < 256) (hR : ∀ st', R (.bool true) st') {q : Nat} {f : Option Nat} (hq0 : st0.length ≤ q) (hf0 : ∀ j, f = some j → st0.length ≤ j) {x7 : LV} {last : Int} :
    ∀ (n i : Nat) (st : LState), n = min l.length lim.toNat - i → i ≤ min l.length lim.toNat → Fr st0 st (fun _ => False) → QAt st q f (enum i ((l.take lim.toNat).drop i)) lim last →
      LT Try.prog [.tmp 4] (pointN Try.f3 4) R [x0, .int .u8 lim, .junk, .junk, .junk, .ptr q 0, .junk, x7, .junk, .junk, .int .i64 (i : Nat), .junk, .junk, .junk, .junk, .junk, .junk, .junk, .junk, .junk, .junk, .junk, .junk, .junk, .junk, .junk, .junk, .junk, .junk, .junk, .junk, .junk, .junk, .junk, .junk, .junk, .junk, .junk, .junk, .junk, .junk, .junk, .junk, .junk, .junk, .junk, .junk, .junk, .junk, .junk, .junk, .junk, .junk, .junk, .junk, .junk, .junk, .junk, .junk, .junk, .junk, .junk, .junk, .junk, .junk, .junk, .junk, .junk, .junk, .junk, .junk, .junk, .junk, .junk, .junk, .junk, .junk, .junk, .junk, .junk, .junk, .junk, .junk, .junk, .junk, .junk, .junk, .junk, .junk, .junk, .junk, .junk, .junk, .junk, .junk, .junk, .junk, .junk, .junk, .junk, .junk, .junk, .junk, .junk] st := by
  intro n
  induction n with
  | zero =>
    intro i st hn hi hfr hq
    apply p3_4
    have hsl := hs.fr hfr fun _ _ h => h
    have hem : (l.take lim.toNat).drop i = [] := by
      apply List.drop_eq_nil_of_le; rw [List.length_take]; omega
    rw [hem] at hq
    simp only [w3_4, hsl.lenSl, srows, List.length_map, bd_some, bInt_int, lint_lss, bsel_dec, cvInt_int, wrap_u8 h0]
    refine ⟨fun h1 => ⟨fun h2 => ?_, fun _ => orders_end hq rfl hR⟩, fun _ => orders_end hq rfl hR⟩
    omega
  | succ n ih =>
    intro i st hn hi hfr hq
    apply p3_4
    have hsl := hs.fr hfr fun _ _ h => h
    have hil : i < l.length := by omega
    have hil2 : i < lim.toNat := by omega
    have hget : l[i]? = some l[i] := List.getElem?_eq_getElem hil
    have hdr : (l.take lim.toNat).drop i = l[i] :: (l.take lim.toNat).drop (i + 1) := by
      rw [List.drop_eq_getElem_cons (by rw [List.length_take]; omega)]
      congr 1
      rw [List.getElem_take]
    rw [hdr] at hq
    simp only [w3_4, hsl.lenSl, srows, List.length_map, bd_some, bInt_int, lint_lss, bsel_dec, cvInt_int, wrap_u8 h0]
    refine ⟨fun _ => ⟨fun _ => ?_, fun h => by omega⟩, fun h => by omega⟩
    refine stake_spec hq enum_one fun st' hq' hfr' => ?_
    have hfr2 : Fr st0 st' (fun _ => False) := hfr.trans hfr' (fun j hj ho => by
      rcases ho with rfl | e
      · omega
      · have := hf0 j e; omega)
    have hsl2 := hs.fr hfr2 fun _ _ h => h
    obtain ⟨o, e1, _, e2⟩ := hsl2.at (i := i) (r := [.str l[i]]) (by simp [srows, hget]) (kk := .i64)
    have e2' := e2 0 (.str l[i]) rfl
    have hw : IntKind.i64.wrap ((i : Int) + 1) = (((i + 1 : Nat)) : Int) := by rw [wrap_i64 (by omega) (by omega)]; simp
    simp only [lextract_tup, List.getElem?_cons_zero, List.getElem?_cons_succ, bd_some, e1, Nat.add_zero] at e2' ⊢
    rw [e2']
    simp only [bd_some, bStr_str, lstr_neq, beq_self_eq_true, Bool.not_true, bsel_false, bInt_int, lint_add, hw, lint_neq, lun_not]
    rw [show (((i : Int) + 1) != ((i + 1 : Nat) : Int)) = false by simp]
    simp only [bsel_false]
    exact ih (i + 1) st' (by omega) (by omega) hfr2 hq'

theorem orders_loop1 (hs : SlA st0 1 x0 (srows l)) (hl : l.length ≤ 100) (h0 : 0 ≤ lim ∧ lim < 256) (hR : ∀ st', R (.bool true) st') {q : Nat} (hq0 : st0.length ≤ q) {x10 : LV} :
    ∀ (n i : Nat) (f : Option Nat) (st : LState), n = l.length - i → i ≤ l.length → (∀ j, f = some j → st0.length ≤ j) → Fr st0 st (fun _ => False) → QAt st q f (enum 0 (l.take (min i lim.toNat))) lim (min i lim.toNat : Nat) →
      LT Try.prog [.tmp 4] (pointN Try.f3 1) R [x0, .int .u8 lim, .junk, .junk, .junk, .ptr q 0, .junk, .int .i64 (i : Nat), .junk, .junk, x10, .junk, .junk, .junk, .junk, .junk, .junk, .junk, .junk, .junk, .junk, .junk, .junk, .junk, .junk, .junk, .junk, .junk, .junk, .junk, .junk, .junk, .junk, .junk, .junk, .junk, .junk, .junk, .junk, .junk, .junk, .junk, .junk, .junk, .junk, .junk, .junk, .junk, .junk, .junk, .junk, .junk, .junk, .junk, .junk, .junk, .junk, .junk, .junk, .junk, .junk, .junk, .junk, .junk, .junk, .junk, .junk, .junk, .junk, .junk, .junk, .junk, .junk, .junk, .junk, .junk, .junk, .junk, .junk, .junk, .junk, .junk, .junk, .junk, .junk, .junk, .junk, .junk, .junk, .junk, .junk, .junk, .junk, .junk, .junk, .junk, .junk, .junk, .junk, .junk, .junk, .junk, .junk, .junk] st := by
  intro n
  induction n with
  | zero =>
    intro i f st hn hi hf0 hfr hq
    apply p3_1
    have hsl := hs.fr hfr fun _ _ h => h
    simp only [w3_1, hsl.lenSl, srows, List.length_map, bd_some, bInt_int, lint_lss, bsel_dec]
    refine ⟨fun h => by omega, fun _ => ?_⟩
    have hil : i = l.length := by omega
    subst hil
    refine orders_loop2 hs hl h0 hR hq0 hf0 _ 0 st rfl (by omega) hfr (last := (min l.length lim.toNat : Nat)) ?_
    have e : l.take (min l.length lim.toNat) = (l.take lim.toNat).drop 0 := by
      rw [List.drop_zero, ← List.take_take, List.take_of_length_le]
      rw [List.length_take]; omega
    rw [← e]; exact hq
  | succ n ih =>
    intro i f st hn hi hf0 hfr hq
    apply p3_1
    have hsl := hs.fr hfr fun _ _ h => h
    have hil : i < l.length := by omega
    have hget : l[i]? = some l[i] := List.getElem?_eq_getElem hil
    obtain ⟨o, e1, _, e2⟩ := hsl.at (i := i) (r := [.str l[i]]) (by simp [srows, hget]) (kk := .i64)
    have e2' := e2 0 (.str l[i]) rfl
    have hw : IntKind.i64.wrap ((i : Int) + 1) = (((i + 1 : Nat)) : Int) := by rw [wrap_i64 (by omega) (by omega)]; simp
    simp only [w3_1, hsl.lenSl, srows, List.length_map, bd_some, bInt_int, lint_lss, bsel_dec, e1]
    refine ⟨fun _ => ?_, fun h => by omega⟩
    rw [Nat.add_zero] at e2'
    rw [e2']
    simp only [bd_some]
    by_cases hlim : i < lim.toNat
    · have hm : min i lim.toNat = i := by omega
      have hm1 : min (i + 1) lim.toNat = i + 1 := by omega
      rw [hm] at hq
      have hlen : (enum 0 (l.take i)).length = i := by rw [enum_len, List.length_take]; omega
      refine sput_spec hq (by rw [hlen]; omega) (by omega) (by omega) (by omega) fun st' f' hq' hfr' hf' => ?_
      have hfr2 : Fr st0 st' (fun _ => False) := hfr.trans hfr' (fun j hj ho => by
        rcases ho with rfl | e
        · omega
        · have := hf0 j e; omega)
      have hf2 : ∀ j, f' = some j → st0.length ≤ j := fun j e => by
        rcases hf' j e with e' | e'
        · exact hf0 j e'
        · have := hfr.len; omega
      have hq2 : QAt st' q f' (enum 0 (l.take (min (i + 1) lim.toNat))) lim (min (i + 1) lim.toNat : Nat) := by
        rw [hm1, List.take_add_one, hget]
        simp only [Option.toList_some, enum_app]
        have : 0 + (l.take i).length = i := by rw [List.length_take]; omega
        rw [this]
        have e : ((i + 1 : Nat) : Int) = (i : Int) + 1 := by omega
        rw [e]; exact hq'
      have hlt : ((i : Int) < lim) := by omega
      have hng : ¬ ((i : Int) ≥ lim) := by omega
      simp only [lextract_tup, List.getElem?_cons_zero, List.getElem?_cons_succ, bd_some, cvInt_int, wrap_u8 h0, bInt_int, lint_lss, decide_eq_true hlt, bsel_true, lint_add, hw, lint_neq, lint_geq, decide_eq_false hng]
      rw [show (((i : Int) + 1) != ((i + 1 : Nat) : Int)) = false by simp]
      simp only [tsel_false, bsel_false, bne_self_eq_false]
      exact ih (i + 1) f' st' (by omega) (by omega) hf2 hfr2 hq2
    · have hm : min i lim.toNat = lim.toNat := by omega
      have hm1 : min (i + 1) lim.toNat = lim.toNat := by omega
      rw [hm] at hq
      have hlen : (enum 0 (l.take lim.toNat)).length = lim.toNat := by rw [enum_len, List.length_take]; omega
      refine sput_full hq (by rw [hlen]; omega) ?_
      have hnlt : ¬ ((i : Int) < lim) := by omega
      have hg : ((i : Int) ≥ lim) := by omega
      simp only [lextract_tup, List.getElem?_cons_zero, List.getElem?_cons_succ, bd_some, cvInt_int, wrap_u8 h0, bInt_int, lint_lss, decide_eq_false hnlt, bsel_false, lint_add, hw, lint_neq, lint_geq, decide_eq_true hg, tsel_true, bne_self_eq_false]
      exact ih (i + 1) f st (by omega) (by omega) hf0 hfr (by rw [hm1]; exact hq)

end

/-- QueueOrders -/
theorem orders_spec {st : LState} {x0 : LV} {l : List (List UInt8)} {lim : Int} (hs : SlA st 1 x0 (srows l)) (h0 : 0 ≤ lim ∧ lim < 256) (hR : ∀ st', R (.bool true) st') : LCalls Try.prog 3 [x0, .int .u8 lim] st R := by
  apply c3
  simp only [w3, hs.lenSl, srows, List.length_map, bd_some, bInt_int, lint_gtr, bsel_dec]
  refine ⟨fun _ => awake_spec fun _ _ => hR _, fun hl => ?_⟩
  refine awake_spec fun s1 f1 => ?_
  simp only [lun_not, Bool.not_true, bd_some, bsel_false, cvInt_int, wrap_u8 h0]
  refine snew_spec h0.1 (by omega) fun s2 q hq f2 hql => ?_
  simp only [lextract_tup, List.getElem?_cons_zero, List.getElem?_cons_succ, bd_some]
  have fr : Fr st s2 (fun _ => False) := f1.trans f2 fun _ _ h => h
  refine orders_loop1 hs (by omega) h0 hR (by have := f1.len; omega) _ 0 none s2 rfl (by omega) (by simp) fr ?_
  simpa [enum] using hq

end Go.Proofs.Ytkjmpjaahgficaa
