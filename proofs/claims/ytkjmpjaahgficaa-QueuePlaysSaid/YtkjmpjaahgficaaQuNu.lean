/- QueueNumbers, over the clean machine. -/
import Derived.Test.YtkjmpjaahgficaaQuP
import Derived.Test.YtkjmpjaahgficaaQuW6
import Derived.Test.YtkjmpjaahgficaaQuN
namespace Go.Proofs.Ytkjmpjaahgficaa
open Go Go.CM

variable {R : LV → LState → Prop}

/-- The rows of what is done. -/
def arows (l : List (Int × Int)) : List (List LV) := l.map fun a => [.int .u8 a.1, i64 a.2]

theorem lmaxs_two {k : IntKind} {a b : Int} : lmaxs [.int k a, .int k b] = some (.int k (if b > a then b else a)) := rfl

theorem idx_cases (n : Int) : ∀ (items : List (LV × Int)) (k : Nat), idxFrom n items k = -1 ∧ (∀ p ∈ items, p.2 ≠ n) ∨ ∃ pre x suf, items = pre ++ (x, n) :: suf ∧ ∀ p ∈ pre, p.2 ≠ n
  | [], k => .inl ⟨rfl, by simp⟩
  | p :: r, k => by
    by_cases e : p.2 = n
    · exact .inr ⟨[], p.1, r, by rw [← e]; rfl, by simp⟩
    · rcases idx_cases n r (k + 1) with ⟨h1, h2⟩ | ⟨pre, x, suf, h1, h2⟩
      · left
        simp only [idxFrom, if_neg e]
        exact ⟨h1, fun p' h => by rcases List.mem_cons.1 h with e' | h; · rw [e']; exact e
                                  · exact h2 p' h⟩
      · refine .inr ⟨p :: pre, x, suf, by rw [h1]; rfl, fun p' h => ?_⟩
        rcases List.mem_cons.1 h with e' | h
        · rw [e']; exact e
        · exact h2 p' h

/-- Numbers that rise, none past the last. -/
structure Good (items : List (LV × Int)) (last : Int) : Prop where
  one : ∀ p ∈ items, p.1.one = true
  rng : ∀ p ∈ items, 1 ≤ p.2 ∧ p.2 ≤ last
  up : items.Pairwise fun a b => a.2 < b.2

theorem Good.sub {items items' : List (LV × Int)} {last : Int} (h : Good items last) (hs : items'.Sublist items) : Good items' last :=
  ⟨fun p hp => h.one p (hs.subset hp), fun p hp => h.rng p (hs.subset hp), h.up.sublist hs⟩

theorem Good.push {items : List (LV × Int)} {last : Int} (h : Good items last) (h0 : 0 ≤ last) {x : LV} (hx : x.one = true) : Good (items ++ [(x, last + 1)]) (last + 1) := by
  refine ⟨fun p hp => ?_, fun p hp => ?_, ?_⟩
  · rcases List.mem_append.1 hp with hp | hp
    · exact h.one p hp
    · simp at hp; subst hp; exact hx
  · rcases List.mem_append.1 hp with hp | hp
    · have := h.rng p hp; omega
    · simp at hp; subst hp; simp; omega
  · rw [List.pairwise_append]
    refine ⟨h.up, by simp, fun a ha b hb => ?_⟩
    simp at hb; subst hb
    have := h.rng a ha
    simp; omega

/-- What holds at each round's begin. -/
structure NInv (st0 st : LState) (q : Nat) (last : Int) : Prop where
  ex : ∃ f items, QAt st q f items 20 last ∧ Good items last ∧ items.length ≤ 20 ∧ (∀ j, f = some j → st0.length ≤ j)
  fr : Fr st0 st (fun _ => False)
  ql : st0.length ≤ q

theorem NInv.mk' {st0 st st' : LState} {q : Nat} {last' : Int} {f f' : Option Nat} {items' : List (LV × Int)} (h : Fr st0 st (fun _ => False)) (ql : st0.length ≤ q) (hf0 : ∀ j, f = some j → st0.length ≤ j)
    (hq : QAt st' q f' items' 20 last') (hg : Good items' last') (hl : items'.length ≤ 20) (hfr : Fr st st' (ownQ q f)) (hf : ∀ j, f' = some j → f = some j ∨ st.length ≤ j) : NInv st0 st' q last' := by
  refine ⟨⟨f', items', hq, hg, hl, fun j e => ?_⟩, h.trans hfr (fun j hj ho => ?_), ql⟩
  · rcases hf j e with e' | e'
    · exact hf0 j e'
    · have := h.len; omega
  · rcases ho with rfl | e
    · omega
    · have := hf0 j e; omega

section
variable {st0 : LState} {x0 : LV} {acts : List (Int × Int)} {q : Nat}

/-- The inner loop: the numbers. -/
theorem inner {last : Int} {i : Nat} (hi : i < 200) (hnext : ∀ st' x9 x10, NInv st0 st' q last → LT Try.prog [.tmp 2] (pointN Try.f6 1) R [x0, .junk, .junk, .ptr q 0, .junk, i64 last, i64 (i + 1 : Nat), .junk, .junk, x9, x10, .junk, .junk, .junk, .junk, .junk, .junk, .junk, .junk, .junk, .junk, .junk, .junk, .junk, .junk, .junk, .junk, .junk, .junk, .junk, .junk, .junk, .junk, .junk, .junk, .junk, .junk, .junk, .junk, .junk, .junk, .junk, .junk, .junk, .junk, .junk, .junk, .junk, .junk, .junk, .junk, .junk, .junk, .junk, .junk, .junk, .junk, .junk, .junk, .junk, .junk, .junk, .junk, .junk, .junk, .junk, .junk, .junk, .junk, .junk, .junk, .junk, .junk, .junk, .junk, .junk, .junk, .junk, .junk, .junk, .junk, .junk, .junk, .junk, .junk, .junk, .junk, .junk, .junk, .junk, .junk, .junk, .junk, .junk, .junk, .junk, .junk, .junk, .junk, .junk, .junk, .junk, .junk, .junk, .junk, .junk, .junk, .junk, .junk] st') {g : Option Nat} {items : List (LV × Int)} (hl : items.length ≤ 20) (hg : Good items last) (hl2 : last ≤ 1000)
    {st : LState} (ho : Own st g 1 items.length (nums items)) (hN : NInv st0 st q last) : ∀ (n k : Nat), n = items.length - k → k ≤ items.length → LT Try.prog [.tmp 2] (pointN Try.f6 5) R [x0, .junk, .junk, .ptr q 0, .junk, i64 last, i64 (i : Nat), .junk, .junk, osl g 1 items.length, i64 (k : Nat), .junk, .junk, .junk, .junk, .junk, .junk, .junk, .junk, .junk, .junk, .junk, .junk, .junk, .junk, .junk, .junk, .junk, .junk, .junk, .junk, .junk, .junk, .junk, .junk, .junk, .junk, .junk, .junk, .junk, .junk, .junk, .junk, .junk, .junk, .junk, .junk, .junk, .junk, .junk, .junk, .junk, .junk, .junk, .junk, .junk, .junk, .junk, .junk, .junk, .junk, .junk, .junk, .junk, .junk, .junk, .junk, .junk, .junk, .junk, .junk, .junk, .junk, .junk, .junk, .junk, .junk, .junk, .junk, .junk, .junk, .junk, .junk, .junk, .junk, .junk, .junk, .junk, .junk, .junk, .junk, .junk, .junk, .junk, .junk, .junk, .junk, .junk, .junk, .junk, .junk, .junk, .junk, .junk, .junk, .junk, .junk, .junk, .junk] st := by
  intro n
  induction n with
  | zero =>
    intro k hn hk
    apply p6_5
    have hw : IntKind.i64.wrap ((i : Int) + 1) = ((i + 1 : Nat) : Int) := by rw [wrap_i64 (by omega) (by omega)]; simp
    simp only [w6_5, ho.lenSl, bd_some, bInt_int, lint_lss, bsel_dec, lint_add, hw]
    exact ⟨fun h => by omega, fun _ => hnext _ _ _ hN⟩
  | succ n ih =>
    intro k hn hk
    apply p6_5
    have hkl : k < items.length := by omega
    have hlt : (k : Int) < items.length := by omega
    obtain ⟨o, e, hix⟩ := ho.ix (i := (k : Int)) (kk := .i64) (by omega) hlt
    have hget : items[k]? = some items[k] := List.getElem?_eq_getElem hkl
    have hld : ∀ j (p : LV × Int), items[j]? = some p → ld1 st (.ptr o (j * 1)) = some (i64 p.2) := by
      intro j p hp
      rw [Nat.mul_one]
      rw [e] at ho
      exact ho.ld (by simp [nums, hp])
    have hr := hg.rng items[k] (List.getElem_mem hkl)
    have hw : IntKind.i64.wrap ((k : Int) + 1) = ((k + 1 : Nat) : Int) := by rw [wrap_i64 (by omega) (by omega)]; simp
    simp only [w6_5, ho.lenSl, bd_some, bInt_int, lint_lss, bsel_dec, hix, Int.toNat_natCast, hld k _ hget, lint_gtr]
    refine ⟨fun _ => ⟨fun h => by omega, fun _ => ⟨fun h => by omega, fun _ => ⟨fun hk0 => ?_, fun _ => ?_⟩⟩⟩, fun h => absurd hlt h⟩
    · have hw1 : IntKind.i64.wrap ((k : Int) - 1) = ((k - 1 : Nat) : Int) := by rw [wrap_i64 (by omega) (by omega)]; omega
      have hget1 : items[k - 1]? = some items[k - 1] := List.getElem?_eq_getElem (by omega)
      obtain ⟨o', e', hix1⟩ := ho.ix (i := ((k - 1 : Nat) : Int)) (kk := .i64) (by omega) (by omega)
      have hoo : o' = o := by rw [e] at e'; exact (Option.some.inj e').symm
      subst hoo
      have hup : items[k - 1].2 < items[k].2 := List.pairwise_iff_getElem.1 hg.up (k - 1) k (by omega) hkl (by omega)
      simp only [lint_sub, hw1, bd_some, hix1, hix, Int.toNat_natCast, hld k _ hget, hld (k - 1) _ hget1, bInt_int, lint_geq, bsel_dec, lint_add, hw]
      exact ⟨fun h => by omega, fun _ => ih (k + 1) (by omega) (by omega)⟩
    · simp only [lint_add, hw, bd_some]
      exact ih (k + 1) (by omega) (by omega)

/-- What comes behind each thing done. -/
theorem tail {last : Int} {i : Nat} (hi : i < 200) (hl2 : last ≤ 1000) {st : LState} (hN : NInv st0 st q last) (hnext : ∀ st' x9 x10, NInv st0 st' q last → LT Try.prog [.tmp 2] (pointN Try.f6 1) R [x0, .junk, .junk, .ptr q 0, .junk, i64 last, i64 (i + 1 : Nat), .junk, .junk, x9, x10, .junk, .junk, .junk, .junk, .junk, .junk, .junk, .junk, .junk, .junk, .junk, .junk, .junk, .junk, .junk, .junk, .junk, .junk, .junk, .junk, .junk, .junk, .junk, .junk, .junk, .junk, .junk, .junk, .junk, .junk, .junk, .junk, .junk, .junk, .junk, .junk, .junk, .junk, .junk, .junk, .junk, .junk, .junk, .junk, .junk, .junk, .junk, .junk, .junk, .junk, .junk, .junk, .junk, .junk, .junk, .junk, .junk, .junk, .junk, .junk, .junk, .junk, .junk, .junk, .junk, .junk, .junk, .junk, .junk, .junk, .junk, .junk, .junk, .junk, .junk, .junk, .junk, .junk, .junk, .junk, .junk, .junk, .junk, .junk, .junk, .junk, .junk, .junk, .junk, .junk, .junk, .junk, .junk, .junk, .junk, .junk, .junk, .junk] st') :
    LCalls Try.prog 21 [.ptr q 0] st fun v s => LT Try.prog [.tmp 2] (pointN Try.f6 5) R [x0, .junk, .junk, .ptr q 0, .junk, i64 last, i64 (i : Nat), .junk, .junk, v, i64 0, .junk, .junk, .junk, .junk, .junk, .junk, .junk, .junk, .junk, .junk, .junk, .junk, .junk, .junk, .junk, .junk, .junk, .junk, .junk, .junk, .junk, .junk, .junk, .junk, .junk, .junk, .junk, .junk, .junk, .junk, .junk, .junk, .junk, .junk, .junk, .junk, .junk, .junk, .junk, .junk, .junk, .junk, .junk, .junk, .junk, .junk, .junk, .junk, .junk, .junk, .junk, .junk, .junk, .junk, .junk, .junk, .junk, .junk, .junk, .junk, .junk, .junk, .junk, .junk, .junk, .junk, .junk, .junk, .junk, .junk, .junk, .junk, .junk, .junk, .junk, .junk, .junk, .junk, .junk, .junk, .junk, .junk, .junk, .junk, .junk, .junk, .junk, .junk, .junk, .junk, .junk, .junk, .junk, .junk, .junk, .junk, .junk, .junk] s := by
  obtain ⟨f, items, hq, hg, hl, hf⟩ := hN.ex
  refine numbers_spec (by omega) hg.one hq fun st' g ho fr hgg => ?_
  have hN' : NInv st0 st' q last := ⟨⟨f, items, hq.fr fr fun _ _ h => h, hg, hl, hf⟩, hN.fr.trans fr fun _ _ h => h, hN.ql⟩
  exact inner hi hnext hl hg hl2 ho hN' _ 0 rfl (by omega)

theorem outer (hs : SlA st0 2 x0 (arows acts)) (hl : acts.length ≤ 200) (hR : ∀ st', R (.bool true) st') : ∀ (n i : Nat) (last : Int) (x9 x10 : LV) (st : LState), n = acts.length - i → i ≤ acts.length → 0 ≤ last → last ≤ i → NInv st0 st q last →
    LT Try.prog [.tmp 2] (pointN Try.f6 1) R [x0, .junk, .junk, .ptr q 0, .junk, i64 last, i64 (i : Nat), .junk, .junk, x9, x10, .junk, .junk, .junk, .junk, .junk, .junk, .junk, .junk, .junk, .junk, .junk, .junk, .junk, .junk, .junk, .junk, .junk, .junk, .junk, .junk, .junk, .junk, .junk, .junk, .junk, .junk, .junk, .junk, .junk, .junk, .junk, .junk, .junk, .junk, .junk, .junk, .junk, .junk, .junk, .junk, .junk, .junk, .junk, .junk, .junk, .junk, .junk, .junk, .junk, .junk, .junk, .junk, .junk, .junk, .junk, .junk, .junk, .junk, .junk, .junk, .junk, .junk, .junk, .junk, .junk, .junk, .junk, .junk, .junk, .junk, .junk, .junk, .junk, .junk, .junk, .junk, .junk, .junk, .junk, .junk, .junk, .junk, .junk, .junk, .junk, .junk, .junk, .junk, .junk, .junk, .junk, .junk, .junk, .junk, .junk, .junk, .junk, .junk] st := by
  intro n
  induction n with
  | zero =>
    intro i last x9 x10 st hn hi h0 h1 hN
    apply p6_1
    have hsl := hs.fr hN.fr fun _ _ h => h
    simp only [w6_1, hsl.lenSl, arows, List.length_map, bd_some, bInt_int, lint_lss, bsel_dec]
    refine ⟨fun h => by omega, fun _ => ?_⟩
    obtain ⟨f, items, hq, hg, hl, hf⟩ := hN.ex
    refine len_spec hq ?_
    simp only [bInt_int, lint_leq, bd_some]
    rw [decide_eq_true (by omega)]
    exact hR _
  | succ n ih =>
    intro i last x9 x10 st hn hi h0 h1 hN
    apply p6_1
    have hil : i < acts.length := by omega
    have hsl := hs.fr hN.fr fun _ _ h => h
    have hget : (arows acts)[i]? = some [.int .u8 acts[i].1, i64 acts[i].2] := by
      simp [arows, List.getElem?_eq_getElem hil]
    obtain ⟨o, e1, _, e2⟩ := hsl.at hget (kk := .i64)
    have hk := e2 0 _ rfl
    have hn2 := e2 1 _ rfl
    rw [Nat.add_zero] at hk
    simp only [w6_1, hsl.lenSl, arows, List.length_map, bd_some, bInt_int, lint_lss, bsel_dec, e1, fAddr_ptr, Nat.add_zero, hk, hn2]
    rw [show lint .rem .u8 acts[i].1 4 = some (.int .u8 (acts[i].1.tmod 4)) from rfl]
    simp only [bd_some, bInt_int, lint_eql, bsel_bool]
    have next : ∀ last', 0 ≤ last' → last' ≤ ((i + 1 : Nat) : Int) → ∀ st' x9 x10, NInv st0 st' q last' → LT Try.prog [.tmp 2] (pointN Try.f6 1) R [x0, .junk, .junk, .ptr q 0, .junk, i64 last', i64 (i + 1 : Nat), .junk, .junk, x9, x10, .junk, .junk, .junk, .junk, .junk, .junk, .junk, .junk, .junk, .junk, .junk, .junk, .junk, .junk, .junk, .junk, .junk, .junk, .junk, .junk, .junk, .junk, .junk, .junk, .junk, .junk, .junk, .junk, .junk, .junk, .junk, .junk, .junk, .junk, .junk, .junk, .junk, .junk, .junk, .junk, .junk, .junk, .junk, .junk, .junk, .junk, .junk, .junk, .junk, .junk, .junk, .junk, .junk, .junk, .junk, .junk, .junk, .junk, .junk, .junk, .junk, .junk, .junk, .junk, .junk, .junk, .junk, .junk, .junk, .junk, .junk, .junk, .junk, .junk, .junk, .junk, .junk, .junk, .junk, .junk, .junk, .junk, .junk, .junk, .junk, .junk, .junk, .junk, .junk, .junk, .junk, .junk, .junk, .junk, .junk, .junk, .junk, .junk] st' := fun last' a b st' x9 x10 hN' => ih (i + 1) last' x9 x10 st' (by omega) (by omega) a b hN'
    obtain ⟨f, items, hq, hg, hlen, hf⟩ := hN.ex
    refine ⟨fun _ => ⟨fun _ => ?_, fun _ => ⟨fun _ => ?_, fun _ => ⟨fun _ => ?_, fun _ => ?_⟩⟩⟩, fun h => by omega⟩
    · -- Put
      rcases Nat.lt_or_ge items.length 20 with hlt | hge
      · refine put_spec hq (by omega) (by omega) h0 (by omega) fun st' f' hq' fr' hf' => ?_
        have hw : IntKind.i64.wrap (last + 1) = last + 1 := wrap_i64 (by omega) (by omega)
        simp only [lextract_tup, List.getElem?_cons_zero, List.getElem?_cons_succ, bd_some, bInt_int, lint_eql, beq_self_eq_true, bsel_true, lint_add, hw, lint_neq, bne_self_eq_false, bsel_false, lmaxs_two]
        rw [if_pos (by omega)]
        have hN' : NInv st0 st' q (last + 1) := NInv.mk' hN.fr hN.ql hf hq' (hg.push h0 rfl) (by simp; omega) fr' hf'
        exact tail (by omega) (by omega) hN' (next (last + 1) (by omega) (by omega))
      · refine put_full hq (by omega) ?_
        simp only [lextract_tup, List.getElem?_cons_zero, List.getElem?_cons_succ, bd_some, bInt_int, lint_eql]
        rw [show ((10 : Int) == 0) = false from rfl]
        simp only [bsel_false, lmaxs_two, bd_some]
        rw [if_neg (by omega)]
        exact tail (by omega) (by omega) hN (next last h0 (by omega))
    · -- Take
      cases items with
      | nil => exact take_none hq (tail (by omega) (by omega) hN (next last h0 (by omega)))
      | cons p items =>
        obtain ⟨x, m⟩ := p
        refine take_spec hq (fun p hp => hg.one p (List.mem_cons_of_mem _ hp)) fun st' hq' fr' => ?_
        have hN' : NInv st0 st' q last := NInv.mk' hN.fr hN.ql hf hq' (hg.sub (List.sublist_cons_self _ _)) (by simp at hlen; omega) fr' fun j e => .inl e
        exact tail (by omega) (by omega) hN' (next last h0 (by omega))
    · -- Drop
      rcases idx_cases acts[i].2 items 0 with ⟨e, _⟩ | ⟨pre, x, suf, e, hp⟩
      · refine drop_no (by omega) hq (by rw [e]; omega) fun st' fr' => ?_
        have hN' : NInv st0 st' q last := NInv.mk' hN.fr hN.ql hf (hq.fr fr' fun _ _ h => h) hg hlen (fr'.mono fun _ _ h => h.elim) fun j e => .inl e
        exact tail (by omega) (by omega) hN' (next last h0 (by omega))
      · subst e
        refine drop_spec (by omega) hq hp (fun p hp => hg.one p (by simp [hp])) fun st' hq' fr' => ?_
        have hN' : NInv st0 st' q last := NInv.mk' hN.fr hN.ql hf hq' (hg.sub (List.Sublist.append_left (List.sublist_cons_self _ _) _)) (by simp at hlen ⊢; omega) fr' fun j e => .inl e
        exact tail (by omega) (by omega) hN' (next last h0 (by omega))
    · -- Clear
      refine clear_spec (by omega) hg.one hq fun st' g _ hq' fr' _ => ?_
      have hN' : NInv st0 st' q last := NInv.mk' hN.fr hN.ql hf hq' ⟨by simp, by simp, List.Pairwise.nil⟩ (by simp) fr' fun j e => by simp at e
      exact tail (by omega) (by omega) hN' (next last h0 (by omega))

end

/-- QueueNumbers -/
theorem numbers_law {st : LState} {x0 : LV} {acts : List (Int × Int)} (hs : SlA st 2 x0 (arows acts)) (hR : ∀ st', R (.bool true) st') : LCalls Try.prog 6 [x0] st R := by
  apply c6
  simp only [w6, hs.lenSl, arows, List.length_map, bd_some, bInt_int, lint_gtr, bsel_dec]
  refine ⟨fun _ => awake_spec fun _ _ => hR _, fun hl => ?_⟩
  refine awake_spec fun s1 f1 => ?_
  simp only [lun_not, Bool.not_true, bd_some, bsel_false]
  refine new_spec (by omega) (by omega) fun s2 q hq f2 hql => ?_
  simp only [lextract_tup, List.getElem?_cons_zero, List.getElem?_cons_succ, bd_some]
  have fr : Fr st s2 (fun _ => False) := f1.trans f2 fun _ _ h => h
  exact outer hs (by omega) hR _ 0 0 _ _ s2 rfl (by omega) (by omega) (by omega) ⟨⟨none, [], hq, ⟨by simp, by simp, List.Pairwise.nil⟩, by simp, by simp⟩, fr, by have := f1.len; omega⟩

end Go.Proofs.Ytkjmpjaahgficaa
