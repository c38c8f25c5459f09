/- Slices that a law builds itself: what append and the cuts of QueuePlays do to them, over the clean machine; two lists that are the same. -/
import Derived.Test.YtkjmpjaahgficaaQuP
namespace Go.Proofs.Ytkjmpjaahgficaa
open Go Go.CM

variable {R : LV → LState → Prop} {st st' : LState} {x y : LV} {vs new : List LV}

/-- A slice of the law's own: none, one of no room, or one with all the room of its object. -/
def SI (st : LState) (x : LV) (vs : List LV) : Prop :=
  (x = .nils ∧ vs = []) ∨ (∃ o, x = .sl o 0 0 (.ex 0) ∧ vs = [] ∧ st[o]? = some (.cells .rw [])) ∨ ∃ o rest, x = .sl o 0 vs.length (.rest 1) ∧ st[o]? = some (.cells .rw (vs ++ rest))

def ownS : LV → Nat → Prop
  | .sl o _ _ _, j => o = j
  | _, _ => False

theorem SI.fr {S : Nat → Prop} (h : SI st x vs) (hf : Fr st st' S) (hs : ∀ j, ownS x j → ¬ S j) : SI st' x vs := by
  rcases h with h | ⟨o, rfl, h2, h3⟩ | ⟨o, rest, rfl, h3⟩
  · exact .inl h
  · exact .inr (.inl ⟨o, rfl, h2, hf.get h3 (hs o rfl)⟩)
  · exact .inr (.inr ⟨o, rest, rfl, hf.get h3 (hs o rfl)⟩)

theorem SI.lt (h : SI st x vs) : ∀ j, ownS x j → j < st.length := by
  rcases h with ⟨rfl, _⟩ | ⟨o, rfl, h2, h3⟩ | ⟨o, rest, rfl, h3⟩ <;> intro j hj <;> simp only [ownS] at hj
  · subst hj; exact get_lt h3
  · subst hj; exact get_lt h3

theorem SI.lenSl (h : SI st x vs) : lenSl x = some (.int .i64 vs.length) := by
  rcases h with ⟨rfl, rfl⟩ | ⟨o, rfl, rfl, h3⟩ | ⟨o, rest, rfl, h3⟩ <;> rfl

theorem SI.at {i : Nat} {v : LV} {kk : IntKind} (h : SI st x vs) (hv : vs[i]? = some v) : ∃ p, ixSl 1 x (.int kk i) = some p ∧ ld1 st p = some v := by
  rcases h with ⟨rfl, rfl⟩ | ⟨o, rfl, rfl, h3⟩ | ⟨o, rest, rfl, h3⟩
  · simp at hv
  · simp at hv
  · have hlt := (List.getElem?_eq_some_iff.1 hv).1
    refine ⟨_, ixSl_of (by omega) (by omega), ?_⟩
    rw [ld1_of h3, Nat.zero_add, Nat.mul_one, Int.toNat_natCast, List.getElem?_append_left hlt]; exact hv

/-- append -/
theorem SI.append {k : Nat} (h : SI st x vs) (hx : lsrc st 1 y = some (k, new)) (hn : new.length = k) (h1 : new.all LV.one = true) (hr : vs.length + k ≤ 2000) :
    ∃ x' st', lappend st 1 8 x y = some (x', st') ∧ SI st' x' (vs ++ new) ∧ Fr st st' (ownS x) ∧ ∀ j, ownS x' j → ownS x j ∨ st.length ≤ j := by
  rcases Nat.eq_zero_or_pos k with hk | hk
  · subst hk
    have hnew : new = [] := List.eq_nil_of_length_eq_zero hn
    subst hnew
    refine ⟨x, st, ?_, by simpa using h, Fr.refl, fun j e => .inl e⟩
    rcases h with ⟨rfl, rfl⟩ | ⟨o, rfl, rfl, h3⟩ | ⟨o, rest, rfl, h3⟩ <;> simp [lappend, hx]
  · have hk0 : ¬ k = 0 := by omega
    rcases h with ⟨rfl, rfl⟩ | ⟨o, rfl, rfl, h3⟩ | ⟨o, rest, rfl, h3⟩
    · refine ⟨.sl st.length 0 k (.rest 1), st ++ [.cells .rw new], ?_, .inr (.inr ⟨st.length, [], by simp [hn], by simp⟩), Fr.app, fun j e => .inr (by simp only [ownS] at e; omega)⟩
      have : room47 k 8 = true := by simp [room47]; simp at hr; omega
      simp only [lappend, hx, hk0, if_false, this, if_true]
    · refine ⟨.sl st.length 0 k (.rest 1), st ++ [.cells .rw new], ?_, .inr (.inr ⟨st.length, [], by simp [hn], by simp⟩), Fr.app, fun j e => .inr (by simp only [ownS] at e; omega)⟩
      have h47 : room47 k 8 = true := by simp [room47]; simp at hr; omega
      have hle : ¬ k ≤ 0 := by omega
      simp only [lappend, hx, hk0, if_false, h3, Nat.zero_add, hle, h47, Nat.zero_mul, Nat.le_refl, Nat.zero_le, and_self, if_true, List.drop_nil, List.take_nil, List.nil_append, List.length_nil]
    · have hsp : splice (vs ++ rest) (0 + vs.length * 1) new = vs ++ new ++ rest.drop new.length := by
        rw [Nat.zero_add, Nat.mul_one]; exact splice_app
      by_cases hfit : 0 + (vs.length + k) * 1 ≤ (vs ++ rest).length
      · refine ⟨.sl o 0 (vs.length + k) (.rest 1), st.set o (.cells .rw (splice (vs ++ rest) (0 + vs.length * 1) new)), ?_, .inr (.inr ⟨o, rest.drop new.length, by simp [hn], ?_⟩), Fr.set rfl, fun j e => .inl e⟩
        · simp only [lappend, hx, hk0, if_false, h3, h1, and_self, if_true, hfit]
        · rw [get_set h3, hsp]
      · refine ⟨.sl st.length 0 (vs.length + k) (.rest 1), st.set o .dead ++ [.cells .rw (((vs ++ rest).drop 0).take (vs.length * 1) ++ new)], ?_, .inr (.inr ⟨st.length, [], by simp [hn], ?_⟩), ?_, fun j e => .inr (by simp only [ownS] at e; omega)⟩
        · have h47 : room47 (vs.length + k) 8 = true := by simp [room47]; omega
          have hle : 0 + vs.length * 1 ≤ (vs ++ rest).length := by simp
          simp only [lappend, hx, hk0, if_false, h3, h1, and_self, if_true, hfit, h47, hle]
        · rw [List.drop_zero, Nat.mul_one, List.take_left, List.append_nil]
          have : st.length = (st.set o LObj.dead).length := by simp
          rw [this, get_app_new]
        · exact (Fr.set (S := fun j => o = j) rfl).trans Fr.app fun _ _ h => h

/-- append of one value that stands in a new object -/
theorem SI.push {v : LV} {K : LV → LState → Prop} (h : SI st x vs) (hv : v.one = true) (hr : vs.length < 1999)
    (hk : ∀ st' x', SI st' x' (vs ++ [v]) → Fr st st' (ownS x) → (∀ j, ownS x' j → ownS x j ∨ st.length ≤ j) → K x' st') :
    bd2 (slNew st 1 (lfill (fun i => some (i * 1, 1)) (List.replicate 1 [LV.int IntKind.i64 0]).flatten [(0, v)])) fun w s => bd2 (lappend s 1 8 x w) K := by
  have hfill : lfill (fun i => some (i * 1, 1)) (List.replicate 1 [LV.int IntKind.i64 0]).flatten [(0, v)] = some [v] := by
    cases v <;> first | rfl | cases hv
  rw [hfill]
  simp only [slNew_some, bd2_some]
  have h2 := h.fr (S := fun _ => False) (Fr.app (y := .cells .rw [v])) fun _ _ h => h
  obtain ⟨x', s', e1, e2, e3, e4⟩ := h2.append (y := .sl st.length 0 1 (.ex 1)) (k := 1) (new := [v]) (by simp [lsrc]) rfl (by simp [hv]) (by omega)
  rw [e1, bd2_some]
  refine hk s' x' e2 (Fr.app.trans e3 fun _ _ h => h) fun j e => ?_
  rcases e4 j e with e | e
  · exact .inl e
  · right; simp at e; omega

/-- x[:a], x[b:] of such a slice, and what append takes out of them -/
theorem SI.head {a : Nat} (h : SI st x vs) (ha : a < vs.length) : ∃ y, (ob3 none (some (.int .i64 a)) none fun l h m => slRoom st 1 x l h m) = some y ∧
    ∀ st', (∀ j, ownS x j → st'[j]? = st[j]?) → (ob3 none (some (.int .i64 a)) none fun l h m => slRoom st' 1 x l h m) = some y ∧ lsrc st' 1 y = some (a, vs.take a) := by
  rcases h with ⟨rfl, rfl⟩ | ⟨o, rfl, rfl, h3⟩ | ⟨o, rest, rfl, h3⟩
  · simp at ha
  · simp at ha
  · have e : ∀ s : LState, (ob3 none (some (.int .i64 (a : Int))) none fun l h m => slRoom s 1 (.sl o 0 vs.length (.rest 1)) l h m) = some (.sl o 0 a (.rest 1)) := by
      intro s
      simp only [ob3, optNat, slRoom, slSl, lslice, Int.natCast_nonneg, if_true, Int.toNat_natCast, Option.getD_some, Option.getD_none]
      rw [if_pos (Nat.le_of_lt ha), if_pos ⟨trivial, by omega, by omega, by omega⟩]
    refine ⟨_, e st, fun s hs => ⟨e s, ?_⟩⟩
    simp only [lsrc, hs o rfl, h3, List.drop_zero, Nat.mul_one, Nat.zero_add]
    rw [if_pos (by simp; omega), List.take_append_of_le_length (by omega)]

theorem SI.rest {b : Nat} (h : SI st x vs) (hb : 0 < b) (hl : b ≤ vs.length) : ∃ y, (ob3 (some (.int .i64 b)) none none fun l h m => slRoom st 1 x l h m) = some y ∧
    ∀ st', (∀ j, ownS x j → st'[j]? = st[j]?) → (ob3 (some (.int .i64 b)) none none fun l h m => slRoom st' 1 x l h m) = some y ∧ lsrc st' 1 y = some (vs.length - b, vs.drop b) := by
  rcases h with ⟨rfl, rfl⟩ | ⟨o, rfl, rfl, h3⟩ | ⟨o, rest, rfl, h3⟩
  · simp at hl; omega
  · simp at hl; omega
  · have hb0 : ¬ b = 0 := by omega
    have e : ∀ s : LState, (ob3 (some (.int .i64 (b : Int))) none none fun l h m => slRoom s 1 (.sl o 0 vs.length (.rest 1)) l h m) = some (if b < vs.length then .sl o (0 + b * 1) (vs.length - b) (.rest 1) else .emp) := by
      intro s
      simp only [ob3, optNat, slRoom, slSl, lslice, Int.natCast_nonneg, if_true, Int.toNat_natCast, Option.getD_some, Option.getD_none]
      rw [if_pos ⟨trivial, by omega, by omega, by omega⟩, if_neg hb0]
      split <;> rfl
    refine ⟨_, e st, fun s hs => ⟨e s, ?_⟩⟩
    split
    · simp only [lsrc, hs o rfl, h3, Nat.mul_one, Nat.zero_add]
      rw [if_pos (by simp; omega)]
      rw [List.drop_append_of_le_length (by omega), List.take_append_of_le_length (by simp), List.take_of_length_le (by simp)]
    · simp only [lsrc]
      rw [List.drop_eq_nil_of_le (by omega)]
      congr 2; omega

theorem empty_new {K : LV → LState → Prop} (h : SI (st ++ [.cells .rw []]) (.sl st.length 0 0 (.ex 0)) [] → K (.sl st.length 0 0 (.ex 0)) (st ++ [.cells .rw []])) :
    bd2 (slNew st 0 (lfill (fun i => some (i * 1, 1)) (List.replicate 0 [LV.int IntKind.i64 0]).flatten [])) K := by
  rw [show lfill (fun i => some (i * 1, 1)) (List.replicate 0 [LV.int IntKind.i64 0]).flatten [] = some [] from rfl]
  simp only [slNew_some, bd2_some]
  exact h (.inr (.inl ⟨_, rfl, rfl, by simp⟩))

/-- append([]int{}, x[1:]...) -/
theorem SI.cut1 {v : LV} {K : LV → LState → Prop} (h : SI st x (v :: vs)) (h1 : vs.all LV.one = true) (hr : vs.length ≤ 1000)
    (hk : ∀ st' x', SI st' x' vs → Fr st st' (fun _ => False) → (∀ j, ownS x' j → st.length ≤ j) → K x' st') :
    bd2 (slNew st 0 (lfill (fun i => some (i * 1, 1)) (List.replicate 0 [LV.int IntKind.i64 0]).flatten [])) fun w s =>
      bd (ob3 (some (LV.int IntKind.i64 1)) none none fun l h m => slRoom s 1 x l h m) fun z => bd2 (lappend s 1 8 w z) K := by
  refine empty_new fun he => ?_
  obtain ⟨y, _, hy⟩ := h.rest (b := 1) (by omega) (by simp)
  obtain ⟨e1, e2⟩ := hy (st ++ [.cells .rw []]) fun j hj => by rw [List.getElem?_append_left (h.lt j hj)]
  have e1' : (ob3 (some (LV.int IntKind.i64 1)) none none fun l h m => slRoom (st ++ [LObj.cells .rw []]) 1 x l h m) = some y := e1
  rw [e1', bd_some]
  obtain ⟨x', s', g1, g2, g3, g4⟩ := he.append e2 (by simp) (by simpa using h1) (by simp; omega)
  rw [g1, bd2_some]
  have hfr : Fr st s' (fun _ => False) := Fr.app.trans g3 fun j hj e => by simp only [ownS] at e; omega
  refine hk s' x' (by simpa using g2) hfr fun j e => ?_
  rcases g4 j e with e | e
  · simp only [ownS] at e; omega
  · simp at e; omega

/-- append(append([]int{}, x[:a]...), x[a+1:]...) -/
theorem SI.cut2 {v : LV} {pre suf : List LV} {K : LV → LState → Prop} (h : SI st x (pre ++ v :: suf)) (h1 : pre.all LV.one = true) (h2 : suf.all LV.one = true) (hr : pre.length + suf.length ≤ 1000)
    (hk : ∀ st' x', SI st' x' (pre ++ suf) → Fr st st' (fun _ => False) → (∀ j, ownS x' j → st.length ≤ j) → K x' st') :
    bd (ob3 none (some (LV.int IntKind.i64 pre.length)) none fun l h m => slRoom st 1 x l h m) fun v24 =>
      bd (lint .add .i64 pre.length 1) fun v25 =>
        bd (ob3 (some v25) none none fun l h m => slRoom st 1 x l h m) fun v26 =>
          bd2 (slNew st 0 (lfill (fun i => some (i * 1, 1)) (List.replicate 0 [LV.int IntKind.i64 0]).flatten [])) fun v27 st28 =>
            (ob3 (some v25) none none fun l h m => slRoom st28 1 x l h m) = some v26 ∧
              (ob3 none (some (LV.int IntKind.i64 pre.length)) none fun l h m => slRoom st28 1 x l h m) = some v24 ∧
                bd2 (lappend st28 1 8 v27 v24) fun v29 st30 =>
                  (ob3 (some v25) none none fun l h m => slRoom st30 1 x l h m) = some v26 ∧ bd2 (lappend st30 1 8 v29 v26) K := by
  obtain ⟨y, ey, hy⟩ := h.head (a := pre.length) (by simp)
  obtain ⟨z, ez, hz⟩ := h.rest (b := pre.length + 1) (by omega) (by simp)
  have hw : lint .add .i64 pre.length 1 = some (.int .i64 ((pre.length + 1 : Nat) : Int)) := by
    rw [lint_add, wrap_i64 (by omega) (by omega)]; simp
  rw [ey, bd_some, hw, bd_some, ez, bd_some]
  refine empty_new fun he => ?_
  have k1 : ∀ j, ownS x j → (st ++ [LObj.cells .rw []])[j]? = st[j]? := fun j hj => by rw [List.getElem?_append_left (h.lt j hj)]
  refine ⟨(hz _ k1).1, (hy _ k1).1, ?_⟩
  have e2 := (hy _ k1).2
  rw [List.take_left] at e2
  obtain ⟨x1, s1, g1, g2, g3, g4⟩ := he.append e2 rfl h1 (by simp; omega)
  rw [g1, bd2_some]
  have f1 : Fr st s1 (fun _ => False) := Fr.app.trans g3 fun j hj e => by simp only [ownS] at e; omega
  have o1 : ∀ j, ownS x1 j → st.length ≤ j := fun j e => by
    rcases g4 j e with e | e
    · simp only [ownS] at e; omega
    · simp at e; omega
  have k2 : ∀ j, ownS x j → s1[j]? = st[j]? := fun j hj => f1.same j (h.lt j hj) fun h => h
  refine ⟨(hz _ k2).1, ?_⟩
  have e3 := (hz _ k2).2
  have hd : (pre ++ v :: suf).drop (pre.length + 1) = suf := by
    rw [← List.drop_drop, List.drop_left]; rfl
  rw [hd, show (pre ++ v :: suf).length - (pre.length + 1) = suf.length by simp; omega] at e3
  rw [List.nil_append] at g2
  obtain ⟨x2, s2, g5, g6, g7, g8⟩ := g2.append e3 rfl h2 (by omega)
  rw [g5, bd2_some]
  refine hk s2 x2 g6 (f1.trans g7 fun j hj e => by have := o1 j e; omega) fun j e => ?_
  rcases g8 j e with e | e
  · exact o1 j e
  · have := f1.len; omega

/-- Two lists that are the same. -/
def RdI (st : LState) (x : LV) (l : List Int) : Prop := lenSl x = some (i64 l.length) ∧ ∀ (i : Nat) (v : Int), l[i]? = some v → ∃ p, ixSl 1 x (i64 i) = some p ∧ ld1 st p = some (i64 v)

theorem SI.rd {l : List Int} (h : SI st x (l.map i64)) : RdI st x l :=
  ⟨by rw [h.lenSl]; simp, fun i v hv => h.at (by simp [hv])⟩

theorem own_rd {g : Option Nat} {n : Nat} {l : List Int} (h : Own st g 1 n (l.map i64)) (hn : n = l.length) : RdI st (osl g 1 n) l := by
  refine ⟨by rw [h.lenSl, hn], fun i v hv => ?_⟩
  have hlt := (List.getElem?_eq_some_iff.1 hv).1
  obtain ⟨o, rfl, hix⟩ := h.ix (i := (i : Int)) (kk := .i64) (by omega) (by omega)
  refine ⟨_, hix, h.ld ?_⟩
  simp [hv]

theorem same_loop {l : List Int} (hx : RdI st x l) (hy : RdI st y l) (hl : l.length ≤ 1000) (hR : R (.bool true) st) : ∀ (n i : Nat), n = l.length - i → i ≤ l.length → LT Try.prog [.tmp 4] (pointN Try.f18 1) R
    [x, y, .junk, .junk, .junk, i64 i, .junk, .junk, .junk, .junk, .junk, .junk, .junk, .junk, .junk, .junk, .junk, .junk, .junk, .junk, .junk, .junk, .junk, .junk, .junk, .junk] st := by
  intro n
  induction n with
  | zero =>
    intro i hn hi
    apply p18_1
    simp only [w18_1, hx.1, bd_some, bInt_int, lint_lss, bsel_dec]
    exact ⟨fun h => by omega, fun _ => hR⟩
  | succ n ih =>
    intro i hn hi
    apply p18_1
    have hlt : i < l.length := by omega
    have hget : l[i]? = some l[i] := List.getElem?_eq_getElem hlt
    obtain ⟨p, e1, e2⟩ := hx.2 i _ hget
    obtain ⟨p', e3, e4⟩ := hy.2 i _ hget
    have hw : IntKind.i64.wrap ((i : Int) + 1) = ((i + 1 : Nat) : Int) := by rw [wrap_i64 (by omega) (by omega)]; simp
    simp only [w18_1, hx.1, bd_some, bInt_int, lint_lss, bsel_dec, e1, e2, e3, e4, lint_neq, bne_self_eq_false, bsel_false, lint_add, hw]
    exact ⟨fun _ => ih (i + 1) (by omega) (by omega), fun h => by omega⟩

theorem same_spec {l : List Int} (hx : RdI st x l) (hy : RdI st y l) (hl : l.length ≤ 1000) (hR : R (.bool true) st) : LCalls Try.prog 18 [x, y] st R := by
  apply c18
  simp only [w18, hx.1, hy.1, bd_some, bInt_int, lint_neq, bne_self_eq_false, bsel_false]
  exact same_loop hx hy hl hR _ 0 rfl (by omega)

end Go.Proofs.Ytkjmpjaahgficaa
