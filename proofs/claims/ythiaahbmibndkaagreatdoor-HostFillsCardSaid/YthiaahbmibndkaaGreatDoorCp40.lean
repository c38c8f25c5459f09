/- The clean machine, part 40: less may be told of values and objects. -/
import Derived.Test.YthiaahbmibndkaaGreatDoorCp39
namespace Go.CP

/-- A value, told less of: known, or a text, or nothing. -/
inductive WkV : LV → LV → Prop
  | same (x : LV) : WkV x x
  | junk (x : LV) : WkV x .junk
  | txt (s : List UInt8) : WkV (.str s) .txt
  | agg {xs ys : List LV} (h : xs.length = ys.length) (hp : ∀ (i : Nat) (x y : LV), xs[i]? = some x → ys[i]? = some y → WkV x y) : WkV (.agg xs) (.agg ys)

def WkL (xs ys : List LV) : Prop := xs.length = ys.length ∧ ∀ (i : Nat) (x y : LV), xs[i]? = some x → ys[i]? = some y → WkV x y

theorem Rps.of_wk {β : Lay} {xs ys : List LV} {vs : List Value} (hl : xs.length = ys.length) (hp : ∀ (i : Nat) (x y : LV), xs[i]? = some x → ys[i]? = some y → ∀ v, Rp β x v → Rp β y v) (h : Rps β xs vs) : Rps β ys vs := by
  refine Rps.of_get (by rw [h.length, hl]) fun i y hy => ?_
  have hi : i < xs.length := by rw [hl]; exact (List.getElem?_eq_some_iff.1 hy).1
  obtain ⟨u, hu, hr⟩ := h.get (List.getElem?_eq_getElem hi)
  exact ⟨u, hu, hp i _ y (List.getElem?_eq_getElem hi) hy u hr⟩

theorem Rp.wk {β : Lay} {x y : LV} (h : WkV x y) : ∀ {v : Value}, Rp β x v → Rp β y v := by
  induction h with
  | same x => exact id
  | junk x => exact fun _ => trivial
  | txt s => exact fun e => ⟨_, e⟩
  | agg hl hp ih =>
    intro v hv
    obtain ⟨vs, e, hr⟩ := hv
    exact ⟨vs, e, Rps.of_wk hl (fun i x y h1 h2 v => ih i x y h1 h2 (v := v)) hr⟩

theorem Rps.wk {β : Lay} {xs ys : List LV} {vs : List Value} (h : WkL xs ys) (hr : Rps β xs vs) : Rps β ys vs := Rps.of_wk h.1 (fun i x y h1 h2 _ => Rp.wk (h.2 i x y h1 h2)) hr

theorem WkL.refl (xs : List LV) : WkL xs xs := ⟨rfl, fun i x y h1 h2 => by rw [h1] at h2; cases h2; exact .same x⟩
theorem WkL.nil : WkL [] [] := WkL.refl []
theorem WkL.cons {x y : LV} {xs ys : List LV} (h : WkV x y) (hs : WkL xs ys) : WkL (x :: xs) (y :: ys) := by
  refine ⟨by simp [hs.1], fun i a b h1 h2 => ?_⟩
  cases i with
  | zero => simp at h1 h2; subst h1; subst h2; exact h
  | succ i => exact hs.2 i a b (by simpa using h1) (by simpa using h2)

/-- An object, told less of. -/
def WkO : LObj → LObj → Prop
  | _, .dead => True
  | .cells m l, .cells m' l' => m = m' ∧ WkL l l'
  | x, y => x = y

def WkS (st st' : LState) : Prop := st.length = st'.length ∧ ∀ (i : Nat) (x y : LObj), st[i]? = some x → st'[i]? = some y → WkO x y

theorem WkO.refl (x : LObj) : WkO x x := by
  cases x <;> first | trivial | exact ⟨rfl, WkL.refl _⟩ | rfl

theorem WkS.refl (st : LState) : WkS st st := ⟨rfl, fun i x y h1 h2 => by rw [h1] at h2; cases h2; exact WkO.refl x⟩

theorem WkS.set {st : LState} {o : Nat} {x y : LObj} (ho : st[o]? = some x) (h : WkO x y) : WkS st (st.set o y) := by
  refine ⟨by simp, fun i a b h1 h2 => ?_⟩
  rw [List.getElem?_set] at h2
  by_cases e : o = i
  · subst e
    rw [ho] at h1; cases h1
    simp [(List.getElem?_eq_some_iff.1 ho).1] at h2
    subst h2; exact h
  · simp only [e, if_false] at h2
    rw [h1] at h2; cases h2; exact WkO.refl _

section
variable {w0 w : World} {β : Lay} {st st' : LState} {P : Program}

theorem OR.wk {N : Nat} {o : Nat} {x y : LObj} (h : WkO x y) (hx : OR N β w o x) : OR N β w o y := by
  cases y with
  | dead => trivial
  | cells m' l' =>
    cases x with
    | cells m l =>
      obtain ⟨rfl, hl⟩ := h
      obtain ⟨b, hb, c, e, fz, h1, h2, h3, h4, h5⟩ := hx
      refine ⟨b, hb, c, e, fz, h1, h2, by have := hl.1; omega, fun i y hy => ?_, h5⟩
      have hi : i < l.length := by rw [hl.1]; exact (List.getElem?_eq_some_iff.1 hy).1
      obtain ⟨u, hu, hr⟩ := h4 i _ (List.getElem?_eq_getElem hi)
      exact ⟨u, hu, Rp.wk (hl.2 i _ y (List.getElem?_eq_getElem hi) hy) hr⟩
    | map => cases h
    | iter => cases h
    | dead => cases h
  | map => cases x <;> first | (cases h; exact hx) | cases h
  | iter => cases x <;> first | (cases h; exact hx) | cases h

theorem WkO.rw {x y : LObj} (h : WkO x y) (hy : y.rw = true) : x.rw = true := by
  cases y with
  | dead => cases hy
  | cells m' l' =>
    cases x with
    | cells m l => obtain ⟨rfl, _⟩ := h; exact hy
    | map => cases h
    | iter => cases h
    | dead => cases h
  | map => cases x <;> first | (cases h; exact hy) | cases h
  | iter => cases x <;> first | (cases h; exact hy) | cases h

theorem WkO.live {x y : LObj} (h : WkO x y) (hy : y.live = true) : x.live = true := by
  cases y with
  | dead => cases hy
  | cells m' l' => cases x <;> first | rfl | cases h
  | map => cases x <;> first | rfl | cases h
  | iter => cases x <;> first | rfl | cases h

theorem Rel.wk (h : Rel w0 β st w) (hw : WkS st st') : Rel w0 β st' w := by
  have get : ∀ {i : Nat} {y : LObj}, st'[i]? = some y → ∃ x, st[i]? = some x ∧ WkO x y := fun {i y} hy => by
    have hi : i < st.length := by rw [hw.1]; exact (List.getElem?_eq_some_iff.1 hy).1
    exact ⟨_, List.getElem?_eq_getElem hi, hw.2 i _ y (List.getElem?_eq_getElem hi) hy⟩
  refine ⟨h.below, fun o ho => h.dom o (by have := hw.1; omega), fun o y hy => ?_, fun o o' y y' b b' hy hr hy' hl hne hb hb' => ?_⟩
  · obtain ⟨x, hx, hxy⟩ := get hy
    exact OR.wk hxy (h.obj o x hx)
  · obtain ⟨x, hx, hxy⟩ := get hy
    obtain ⟨x', hx', hxy'⟩ := get hy'
    exact h.sep o o' x x' b b' hx (hxy.rw hr) hx' (hxy'.live hl) hne hb hb'

theorem LT.wk {rs : List ResultVar} {k : List Item} {t t' : List LV} {R : LV → LState → Prop} (ht : WkL t t') (hw : WkS st st') (h : LT P rs k R t' st') : LT P rs k R t st :=
  fun w0 β w a fn h1 h2 => h w0 β w a fn (h1.wk hw) (h2.wk ht)

theorem LCalls.wkS {f : FuncId} {xs ys : List LV} {R : LV → LState → Prop} (hx : WkL xs ys) (hw : WkS st st') (h : LCalls P f ys st' R) : LCalls P f xs st R := by
  rcases h with h | h
  · exact .inl ⟨h.1, fun w0 β w vs h1 h2 => h.2 w0 β w vs (h1.wk hw) (h2.wk hx)⟩
  · exact .inr fun w0 β w vs h1 h2 => h w0 β w vs (h1.wk hw) (h2.wk hx)

end
end Go.CP
