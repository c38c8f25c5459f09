/- The queue's Numbers and Clear, and two lists that are the same, over the clean machine. -/
import Derived.Test.YtkjmpjaahgficaaQuS
import Derived.Test.YtkjmpjaahgficaaCm33
namespace Go.Proofs.Ytkjmpjaahgficaa
open Go Go.CM

variable {R : LV → LState → Prop} {st : LState} {q : Nat} {f : Option Nat} {items : List (LV × Int)} {limit last : Int}

def nums (items : List (LV × Int)) : List LV := items.map fun p => i64 p.2
def xsOf (items : List (LV × Int)) : List LV := items.map fun p => p.1

/-- A new object of two cells, and one cell of it, behind a slice of our own. -/
theorem push_cell {a b x : LV} {g : Option Nat} {n : Nat} {cs : List LV} {K : LV → LState → Prop} {i : Nat} (hab : [a, b].all LV.one = true) (hi : [a, b][i]? = some x) (hx : x.one = true) (ho : Own st g 1 n cs) (hn : n < 1000)
    (h : ∀ st' g', Own st' g' 1 (n + 1) (cs ++ [x]) → Fr st st' (fun j => g = some j) → (∀ j, g' = some j → g = some j ∨ st.length ≤ j) → K (osl g' 1 (n + 1)) st') :
    nw st [LV.int IntKind.i64 0, LV.int IntKind.i64 0] fun v3 st4 =>
      bd2 (lmk (stV st4 2 v3 (.agg [a, b]))) fun _ st6 =>
        bd (fAddr i v3) fun v7 =>
          bd (ld1 st6 v7) fun v8 =>
            bd2 (slNew st6 1 (lfill (fun i => some (i * 1, 1)) (List.replicate 1 [LV.int IntKind.i64 0]).flatten [(0, v8)])) fun v9 st10 =>
              bd2 (lappend st10 1 8 (osl g 1 n) v9) K := by
  rw [nw_eq, stV_agg (n := 2) get_app_new (by simp) hab rfl]
  simp only [lmk_some, bd2_some, fAddr_ptr, bd_some, Nat.zero_add]
  rw [ld1_of (get_set get_app_new), show splice [LV.int IntKind.i64 0, LV.int IntKind.i64 0] 0 [a, b] = [a, b] from rfl, hi, bd_some]
  have hfill : lfill (fun i => some (i * 1, 1)) (List.replicate 1 [LV.int IntKind.i64 0]).flatten [(0, x)] = some [x] := by
    cases x <;> first | rfl | cases hx
  rw [hfill]
  simp only [slNew_some, bd2_some]
  generalize hs : (st ++ [LObj.cells .rw [LV.int IntKind.i64 0, LV.int IntKind.i64 0]]).set st.length (.cells .rw [a, b]) = s6
  have f6 : Fr st s6 (fun _ => False) := by
    subst hs
    exact Fr.app.trans (Fr.set (S := fun j => j = st.length) rfl) fun j hj e => by omega
  have o6 := (ho.fr f6 fun _ _ h => h).fr (S := fun _ => False) (Fr.app (y := .cells .rw [x])) fun _ _ h => h
  obtain ⟨s3, g3, ha, o3, fr3, hg3, _⟩ := o6.append (bytes := 8) (x := .sl s6.length 0 1 (.ex 1)) (k := 1) (new := [x]) (by simp [lsrc]) (by omega) rfl (by simp [hx]) (by simp [room47]; omega)
  rw [ha, bd2_some]
  have f7 : Fr st (s6 ++ [LObj.cells .rw [x]]) (fun _ => False) := f6.trans Fr.app fun _ _ h => h
  refine h s3 g3 o3 ((f7.mono fun _ _ h => h.elim).trans fr3 fun _ _ h => h) fun j e => ?_
  rcases hg3 j e with e' | e'
  · exact .inl e'
  · right; have := f7.len; omega

theorem row_at {pre suf : List (LV × Int)} {p : LV × Int} {o : Nat} (ho : Own st (some o) 2 (pre ++ p :: suf).length (flat (pre ++ p :: suf))) : ldA st (.ptr o ((pre.length : Int).toNat * 2)) 2 = some (.agg [p.1, i64 p.2]) := by
  rw [ho.ldA (by rw [flat_len]; simp; omega), Int.toNat_natCast, flat_at]

theorem numbers_loop (hl : items.length ≤ 1000) (h1 : ∀ p ∈ items, p.1.one = true) : ∀ (suf pre : List (LV × Int)) (st : LState) (g : Option Nat), items = pre ++ suf → Own st f 2 items.length (flat items) → Own st g 1 pre.length (nums pre) →
    (∀ j, f = some j → g ≠ some j ∧ j < st.length) → (∀ st' g', Own st' g' 1 items.length (nums items) → Fr st st' (fun j => g = some j) → (∀ j, g' = some j → g = some j ∨ st.length ≤ j) → R (osl g' 1 items.length) st') →
    LT Try.prog [.tmp 2] (pointN Try.f21 1) R [.junk, .junk, .junk, osl g 1 pre.length, .junk, .junk, .junk, .junk, .junk, .junk, .junk, osl f 2 items.length, i64 items.length, i64 pre.length, .junk, .junk, .junk, .junk, .junk, .junk, .junk, .junk, .junk, .junk] st := by
  intro suf
  induction suf with
  | nil =>
    intro pre st g he ho hg hfg h
    apply p21_1
    have e : pre = items := by simp [he]
    subst e
    simp only [w21_1, bInt_int, lint_lss, bd_some, bsel_dec]
    exact ⟨fun h' => by omega, fun _ => h st g hg Fr.refl fun j e => .inl e⟩
  | cons p suf ih =>
    intro pre st g he ho hg hfg h
    apply p21_1
    have hlt : (pre.length : Int) < items.length := by subst he; simp; omega
    have hpl : pre.length < 1000 := by omega
    simp only [w21_1, bInt_int, lint_lss, bd_some, bsel_dec]
    refine ⟨fun _ => ?_, fun h' => absurd hlt h'⟩
    obtain ⟨o, rfl, hix⟩ := ho.ix (kk := .i64) (by omega) hlt
    simp only [hix, bd_some]
    have hrow : ldA st (.ptr o ((pre.length : Int).toNat * 2)) 2 = some (.agg [p.1, i64 p.2]) := by
      subst he; exact row_at ho
    rw [hrow, bd_some]
    have hp := h1 p (by subst he; simp)
    refine push_cell (x := i64 p.2) (by rw [List.all_cons, hp]; rfl) rfl rfl hg hpl fun st' g' hg' hfr hgg => ?_
    have hw : IntKind.i64.wrap ((pre.length : Int) + 1) = ((pre ++ [p]).length : Nat) := by
      rw [wrap_i64 (by omega) (by omega)]; simp
    simp only [lint_add, bd_some, hw]
    have hn : pre.length + 1 = (pre ++ [p]).length := by simp
    rw [hn] at hg' ⊢
    refine ih (pre ++ [p]) st' g' (by simp [he]) (ho.fr hfr fun o' e => (hfg o' e).1) (by simpa [nums] using hg') (fun j e => ⟨fun e' => ?_, Nat.lt_of_lt_of_le (hfg j e).2 hfr.len⟩) fun s2 g2 h2 fr2 hg2 => ?_
    · rcases hgg j e' with e2 | e2
      · exact (hfg j e).1 e2
      · have := (hfg j e).2; omega
    · refine h s2 g2 h2 (hfr.trans fr2 fun j hj e => ?_) fun j e => ?_
      · rcases hgg j e with e2 | e2
        · exact e2
        · omega
      · rcases hg2 j e with e2 | e2
        · exact hgg j e2
        · right; have := hfr.len; omega

/-- (*Queue[int]).Numbers -/
theorem numbers_spec (hl : items.length ≤ 1000) (h1 : ∀ p ∈ items, p.1.one = true) (hq : QAt st q f items limit last)
    (h : ∀ st' g, Own st' g 1 items.length (nums items) → Fr st st' (fun _ => False) → (∀ j, g = some j → st.length ≤ j) → R (osl g 1 items.length) st') : LCalls Try.prog 21 [.ptr q 0] st R := by
  apply c21
  simp only [w21, eqPtr_pn, eqB_some, eqOut_neq, Bool.not_false, bd_some, bsel_true, lnilCheck_ptr, fAddr_ptr, Nat.zero_add, ld1_of hq.hdr, List.getElem?_cons_zero, hq.own.lenSl]
  refine numbers_loop hl h1 items [] st none rfl hq.own Own.nil (fun j e => ⟨by simp, ?_⟩) fun st' g hg fr hgg => h st' g hg (fr.mono fun _ _ h => by simp at h) fun j e => ?_
  · have := hq.own; rw [e] at this; exact this.lt
  · rcases hgg j e with e' | e'
    · simp at e'
    · exact e'

theorem lclear_osl {n : Nat} {cs : List LV} (ho : Own st f 2 n cs) : ∃ st', lclear st [LV.int IntKind.i64 0, LV.int IntKind.i64 0] (osl f 2 n) = some st' ∧ Fr st st' (fun j => f = some j) := by
  cases f with
  | none => exact ⟨st, rfl, Fr.refl⟩
  | some o =>
    obtain ⟨hc, rest, h2⟩ := ho
    cases n with
    | zero => exact ⟨st, rfl, Fr.refl⟩
    | succ n =>
      refine ⟨st.set o (.cells .rw (splice (cs ++ rest) 0 (List.replicate (n + 1) [LV.int IntKind.i64 0, LV.int IntKind.i64 0]).flatten)), ?_, Fr.set rfl⟩
      simp only [osl, lclear, h2]
      rw [if_pos ⟨by simp [hc], rfl⟩]

theorem clear_loop (hl : items.length ≤ 1000) (h1 : ∀ p ∈ items, p.1.one = true) (hne : f ≠ some q) : ∀ (suf pre : List (LV × Int)) (st : LState) (g : Option Nat), items = pre ++ suf → QAt st q f items limit last → Own st g 1 pre.length (xsOf pre) →
    (∀ j, ownQ q f j → g ≠ some j ∧ j < st.length) → (∀ st' g', Own st' g' 1 items.length (xsOf items) → QAt st' q none [] limit last → Fr st st' (fun j => g = some j ∨ ownQ q f j) → (∀ j, g' = some j → g = some j ∨ st.length ≤ j) → R (osl g' 1 items.length) st') →
    LT Try.prog [.tmp 2] (pointN Try.f17 1) R [.ptr q 0, .junk, .junk, osl g 1 pre.length, .junk, .junk, .junk, .junk, .junk, .junk, .junk, osl f 2 items.length, i64 items.length, i64 pre.length, .junk, .junk, .junk, .junk, .junk, .junk, .junk, .junk, .junk, .junk, .junk, .junk, .junk, .junk, .junk, .junk, .junk] st := by
  intro suf
  induction suf with
  | nil =>
    intro pre st g he hq hg hfg h
    apply p17_1
    have e : pre = items := by simp [he]
    subst e
    simp only [w17_1, bInt_int, lint_lss, bd_some, bsel_dec]
    refine ⟨fun h' => by omega, fun _ => ?_⟩
    simp only [lnilCheck_ptr, fAddr_ptr, Nat.zero_add, bd_some, ld1_of hq.hdr, List.getElem?_cons_zero]
    obtain ⟨s1, e1, fr1⟩ := lclear_osl hq.own
    rw [e1]
    simp only [lmk_some, bd2_some]
    have hd := fr1.get hq.hdr hq.ne
    rw [stV_of hd (by simp) rfl]
    simp only [lmk_some, bd2_some, List.set_cons_zero]
    have hgs : ∀ o, g = some o → ¬ ownQ q f o := fun o e ho => (hfg o ho).1 e
    refine h _ g ((hg.fr fr1 fun o e e' => hgs o e (.inr e')).fr (S := fun j => j = q) (Fr.set rfl) fun o e e' => hgs o e (.inl e')) ⟨get_set hd, Own.nil, by simp⟩ ?_ fun j e => .inl e
    exact (fr1.mono fun _ _ h => .inr (.inr h)).trans (Fr.set (S := fun j => j = q) rfl) fun _ _ h => .inr (.inl h)
  | cons p suf ih =>
    intro pre st g he hq hg hfg h
    apply p17_1
    have hlt : (pre.length : Int) < items.length := by subst he; simp; omega
    have hpl : pre.length < 1000 := by omega
    simp only [w17_1, bInt_int, lint_lss, bd_some, bsel_dec]
    refine ⟨fun _ => ?_, fun h' => absurd hlt h'⟩
    obtain ⟨o, e, hix⟩ := hq.own.ix (kk := .i64) (by omega) hlt
    simp only [hix, bd_some]
    have hrow : ldA st (.ptr o ((pre.length : Int).toNat * 2)) 2 = some (.agg [p.1, i64 p.2]) := by
      have := hq.own
      rw [e] at this
      subst he; exact row_at this
    rw [hrow, bd_some]
    have hp := h1 p (by subst he; simp)
    refine push_cell (x := p.1) (by rw [List.all_cons, hp]; rfl) rfl hp hg hpl fun st' g' hg' hfr hgg => ?_
    have hw : IntKind.i64.wrap ((pre.length : Int) + 1) = ((pre ++ [p]).length : Nat) := by
      rw [wrap_i64 (by omega) (by omega)]; simp
    simp only [lint_add, bd_some, hw]
    have hn : pre.length + 1 = (pre ++ [p]).length := by simp
    rw [hn] at hg' ⊢
    refine ih (pre ++ [p]) st' g' (by simp [he]) (hq.fr hfr fun j hj e => (hfg j hj).1 e) (by simpa [xsOf] using hg') (fun j hj => ⟨fun e' => ?_, Nat.lt_of_lt_of_le (hfg j hj).2 hfr.len⟩) fun s2 g2 h2 hq2 fr2 hg2 => ?_
    · rcases hgg j e' with e2 | e2
      · exact (hfg j hj).1 e2
      · have := (hfg j hj).2; omega
    · refine h s2 g2 h2 hq2 ((hfr.mono fun _ _ h => .inl h).trans fr2 fun j hj e => ?_) fun j e => ?_
      · rcases e with e | e
        · rcases hgg j e with e2 | e2
          · exact .inl e2
          · omega
        · exact .inr e
      · rcases hg2 j e with e2 | e2
        · exact hgg j e2
        · right; have := hfr.len; omega

/-- (*Queue[int]).Clear -/
theorem clear_spec (hl : items.length ≤ 1000) (h1 : ∀ p ∈ items, p.1.one = true) (hq : QAt st q f items limit last)
    (h : ∀ st' g, Own st' g 1 items.length (xsOf items) → QAt st' q none [] limit last → Fr st st' (ownQ q f) → (∀ j, g = some j → st.length ≤ j) → R (osl g 1 items.length) st') : LCalls Try.prog 17 [.ptr q 0] st R := by
  apply c17
  simp only [w17, eqPtr_pn, eqB_some, eqOut_neq, Bool.not_false, bd_some, bsel_true, lnilCheck_ptr, fAddr_ptr, Nat.zero_add, ld1_of hq.hdr, List.getElem?_cons_zero, hq.own.lenSl]
  refine clear_loop hl h1 hq.ne items [] st none rfl hq Own.nil (fun j hj => ⟨by simp, ?_⟩) fun st' g hg hq' fr hgg => h st' g hg hq' (fr.mono fun _ _ h => by simpa using h) fun j e => ?_
  · rcases hj with e | e
    · rw [e]; exact get_lt hq.hdr
    · have := hq.own; rw [e] at this; exact this.lt
  · rcases hgg j e with e' | e'
    · simp at e'
    · exact e'

end Go.Proofs.Ytkjmpjaahgficaa
