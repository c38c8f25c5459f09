/- The clean machine, part 40: less may be told of values and objects. -/
/- The clean machine, part 41: arguments as values that name no object: what was there when a law began will never be written again. -/
import Derived.Test.YtknegckgmklnhaaGreatDoorCp33
namespace Go.CP

/-- A value, told less of: known, or a text, or nothing. -/
inductive WkV : LV → LV → Prop
  | same (x : LV) : WkV x x
  | junk (x : LV) : WkV x .junk
  | txt (s : List UInt8) : WkV (.str s) .txt
  | agg {xs ys : List LV} (h : xs.length = ys.length) (hp : ∀ (i : Nat) (x y : LV), xs[i]? = some x → ys[i]? = some y → WkV x y) : WkV (.agg xs) (.agg ys)

def WkL (xs ys : List LV) : Prop := xs.length = ys.length ∧ ∀ (i : Nat) (x y : LV), xs[i]? = some x → ys[i]? = some y → WkV x y

theorem Rps.of_wk {β : Lay} {xs ys : List LV} {vs : List Value} (hl : xs.length = ys.length) (hp : ∀ (i : Nat) (x y : LV), xs[i]? = some x → ys[i]? = some y → ∀ v, Rp β x v → Rp β y v) (h : Rps β xs vs) : Rps β ys vs := by
  refine Rps.of_get (by rw [h.length, hl]) fun i y hy => ?_
  have hi : i < xs.length := by rw [hl]; exact (List.getElem?_eq_some_iff.1 hy).1
  obtain ⟨u, hu, hr⟩ := h.get (List.getElem?_eq_getElem hi)
  exact ⟨u, hu, hp i _ y (List.getElem?_eq_getElem hi) hy u hr⟩

theorem Rp.wk {β : Lay} {x y : LV} (h : WkV x y) : ∀ {v : Value}, Rp β x v → Rp β y v := by
  induction h with
  | same x => exact id
  | junk x => exact fun _ => trivial
  | txt s => exact fun e => ⟨_, e⟩
  | agg hl hp ih =>
    intro v hv
    obtain ⟨vs, e, hr⟩ := hv
    exact ⟨vs, e, Rps.of_wk hl (fun i x y h1 h2 v => ih i x y h1 h2 (v := v)) hr⟩

theorem Rps.wk {β : Lay} {xs ys : List LV} {vs : List Value} (h : WkL xs ys) (hr : Rps β xs vs) : Rps β ys vs := Rps.of_wk h.1 (fun i x y h1 h2 _ => Rp.wk (h.2 i x y h1 h2)) hr

theorem WkL.refl (xs : List LV) : WkL xs xs := ⟨rfl, fun i x y h1 h2 => by rw [h1] at h2; cases h2; exact .same x⟩
theorem WkL.nil : WkL [] [] := WkL.refl []
theorem WkL.cons {x y : LV} {xs ys : List LV} (h : WkV x y) (hs : WkL xs ys) : WkL (x :: xs) (y :: ys) := by
  refine ⟨by simp [hs.1], fun i a b h1 h2 => ?_⟩
  cases i with
  | zero => simp at h1 h2; subst h1; subst h2; exact h
  | succ i => exact hs.2 i a b (by simpa using h1) (by simpa using h2)

/-- An object, told less of. -/
def WkO : LObj → LObj → Prop
  | _, .dead => True
  | .cells m l, .cells m' l' => m = m' ∧ WkL l l'
  | x, y => x = y

def WkS (st st' : LState) : Prop := st.length = st'.length ∧ ∀ (i : Nat) (x y : LObj), st[i]? = some x → st'[i]? = some y → WkO x y

theorem WkO.refl (x : LObj) : WkO x x := by
  cases x <;> first | trivial | exact ⟨rfl, WkL.refl _⟩ | rfl

theorem WkS.refl (st : LState) : WkS st st := ⟨rfl, fun i x y h1 h2 => by rw [h1] at h2; cases h2; exact WkO.refl x⟩

theorem WkS.set {st : LState} {o : Nat} {x y : LObj} (ho : st[o]? = some x) (h : WkO x y) : WkS st (st.set o y) := by
  refine ⟨by simp, fun i a b h1 h2 => ?_⟩
  rw [List.getElem?_set] at h2
  by_cases e : o = i
  · subst e
    rw [ho] at h1; cases h1
    simp [(List.getElem?_eq_some_iff.1 ho).1] at h2
    subst h2; exact h
  · simp only [e, if_false] at h2
    rw [h1] at h2; cases h2; exact WkO.refl _

section
variable {w0 w : World} {β : Lay} {st st' : LState} {P : Program}

theorem OR.wk {N : Nat} {o : Nat} {x y : LObj} (h : WkO x y) (hx : OR N β w o x) : OR N β w o y := by
  cases y with
  | dead => trivial
  | cells m' l' =>
    cases x with
    | cells m l =>
      obtain ⟨rfl, hl⟩ := h
      obtain ⟨b, hb, c, e, fz, h1, h2, h3, h4, h5⟩ := hx
      refine ⟨b, hb, c, e, fz, h1, h2, by have := hl.1; omega, fun i y hy => ?_, h5⟩
      have hi : i < l.length := by rw [hl.1]; exact (List.getElem?_eq_some_iff.1 hy).1
      obtain ⟨u, hu, hr⟩ := h4 i _ (List.getElem?_eq_getElem hi)
      exact ⟨u, hu, Rp.wk (hl.2 i _ y (List.getElem?_eq_getElem hi) hy) hr⟩
    | map => cases h
    | iter => cases h
    | fiter => cases h
    | dead => cases h
  | map => cases x <;> first | (cases h; exact hx) | cases h
  | iter => cases x <;> first | (cases h; exact hx) | cases h
  | fiter => cases x <;> first | (cases h; exact hx) | cases h

theorem WkO.rw {x y : LObj} (h : WkO x y) (hy : y.rw = true) : x.rw = true := by
  cases y with
  | dead => cases hy
  | cells m' l' =>
    cases x with
    | cells m l => obtain ⟨rfl, _⟩ := h; exact hy
    | map => cases h
    | iter => cases h
    | fiter => cases h
    | dead => cases h
  | map => cases x <;> first | (cases h; exact hy) | cases h
  | iter => cases x <;> first | (cases h; exact hy) | cases h
  | fiter => cases x <;> first | (cases h; exact hy) | cases h

theorem WkO.live {x y : LObj} (h : WkO x y) (hy : y.live = true) : x.live = true := by
  cases y with
  | dead => cases hy
  | cells m' l' => cases x <;> first | rfl | cases h
  | map => cases x <;> first | rfl | cases h
  | iter => cases x <;> first | rfl | cases h
  | fiter => cases x <;> first | rfl | cases h

theorem Rel.wk (h : Rel w0 β st w) (hw : WkS st st') : Rel w0 β st' w := by
  have get : ∀ {i : Nat} {y : LObj}, st'[i]? = some y → ∃ x, st[i]? = some x ∧ WkO x y := fun {i y} hy => by
    have hi : i < st.length := by rw [hw.1]; exact (List.getElem?_eq_some_iff.1 hy).1
    exact ⟨_, List.getElem?_eq_getElem hi, hw.2 i _ y (List.getElem?_eq_getElem hi) hy⟩
  refine ⟨h.below, fun o ho => h.dom o (by have := hw.1; omega), fun o y hy => ?_, fun o o' y y' b b' hy hr hy' hl hne hb hb' => ?_, h.base, h.froz, fun o y b hy hr hb => let ⟨x, hx, hxy⟩ := get hy; h.sepf o x b hx (hxy.rw hr) hb⟩
  · obtain ⟨x, hx, hxy⟩ := get hy
    exact OR.wk hxy (h.obj o x hx)
  · obtain ⟨x, hx, hxy⟩ := get hy
    obtain ⟨x', hx', hxy'⟩ := get hy'
    exact h.sep o o' x x' b b' hx (hxy.rw hr) hx' (hxy'.live hl) hne hb hb'

theorem LT.wk {rs : List ResultVar} {k : List Item} {t t' : List LV} {R : LV → LState → Prop} (ht : WkL t t') (hw : WkS st st') (h : LT P rs k R t' st') : LT P rs k R t st :=
  fun w0 β w a fn h1 h2 => h w0 β w a fn (h1.wk hw) (h2.wk ht)

theorem LCalls.wkS {f : FuncId} {xs ys : List LV} {R : LV → LState → Prop} (hx : WkL xs ys) (hw : WkS st st') (h : LCalls P f ys st' R) : LCalls P f xs st R := by
  rcases h with h | h
  · exact .inl ⟨h.1, fun w0 β w vs h1 h2 => h.2 w0 β w vs (h1.wk hw) (h2.wk hx)⟩
  · exact .inr fun w0 β w vs h1 h2 => h w0 β w vs (h1.wk hw) (h2.wk hx)

end
end Go.CP

namespace Go.CP
open Go.ChangeShapes Go.WideShapes Go.ChangeAt Go.RowKit

/-- All that is there is frozen. -/
def heapLay (w : World) : Lay := ⟨fun _ => none, fun b => w.heap[b]?, w.heap.size⟩

theorem Rel.heap (w : World) : Rel w (heapLay w) [] w where
  below := Bw.refl _ _
  dom := fun _ _ => rfl
  obj := fun _ _ h => by simp at h
  sep := fun _ _ _ _ _ _ h => by simp at h
  base := rfl
  froz := fun _ _ h => h
  sepf := fun _ _ _ h => by simp at h

section
variable {H : Type} {enc : TypeId × Value → H} {P : Program} {w0 w : World} {base : Nat} {sp : Nat → Bool} {held : Bool}

/-- Values of a type, n deep, that read as a datum. -/
def TypedD (P : Program) : Nat → TypeId → List LV → DataW H → Prop
  | 0, _, _, _ => False
  | n + 1, t, xs, d => match P.underlying t with
    | some .bool => ∃ b, xs = [.bool b]
    | some (.int k) => ∃ m, xs = [.int k m] ∧ (Lit.int k m).wf = true
    | some .string => ∃ s : List UInt8, xs = [.str s] ∧ s.length ≤ maxLen ∧ d = .lit (.string s)
    | some (.slice e) => ∃ (rows : List (List LV)) (elems : List (DataW H)), xs = [.isl rows.flatten rows.length none] ∧ elems.length = rows.length ∧ (rows = [] ∨ ∃ rest, d = .slice elems rest) ∧
        ∀ (i : Nat) (r : List LV) (di : DataW H), rows[i]? = some r → elems[i]? = some di → r.length = P.cellsOf e ∧ TypedD P n e r di
    | some (.struct fs) => xs.length = P.cellsOf t ∧ ∃ parts : List (DataW H), d = .agg parts ∧ parts.length = fs.size ∧
        ∀ (i : Nat) (f : Field) (di : DataW H), fs[i]? = some f → parts[i]? = some di → TypedD P n f.type ((xs.drop f.offset).take (P.cellsOf f.type)) di
    | _ => False

/-- Cells of a struct's fields, one behind the other. -/
theorem fields_deep {β : Lay} {cs : List Value} {Q : Field → List LV → Prop} : ∀ {fs : List Field} {off fin : Nat}, tile P off fs = some fin → cs.length = fin →
    (∀ f ∈ fs, ∃ xs, Rps β xs ((cs.drop f.offset).take (P.cellsOf f.type)) ∧ Q f xs) → (∀ f ∈ fs, f.offset + P.cellsOf f.type ≤ cs.length) →
    ∃ xs, Rps β xs (cs.drop off) ∧ ∀ f ∈ fs, off ≤ f.offset ∧ Q f ((xs.drop (f.offset - off)).take (P.cellsOf f.type))
  | [], off, fin, ht, hl, _, _ => by
    simp only [tile, Option.some.injEq] at ht
    subst ht
    exact ⟨[], by rw [List.drop_eq_nil_of_le (by omega)]; rfl, by simp⟩
  | f :: fs, off, fin, ht, hl, hf, hb => by
    simp only [tile] at ht
    split at ht
    · rename_i e
      obtain ⟨x1, p1, t1⟩ := hf f (by simp)
      obtain ⟨x2, p2, t2⟩ := fields_deep (β := β) (cs := cs) (Q := Q) ht hl (fun f' h' => hf f' (List.mem_cons_of_mem _ h')) (fun f' h' => hb f' (List.mem_cons_of_mem _ h'))
      have hbf := hb f (by simp)
      have hx1 : x1.length = P.cellsOf f.type := by
        have := p1.length
        simp at this; omega
      refine ⟨x1 ++ x2, ?_, ?_⟩
      · have := p1.append p2
        rw [e] at this
        have e3 : (cs.drop off).take (P.cellsOf f.type) ++ cs.drop (off + P.cellsOf f.type) = cs.drop off := by
          rw [← List.drop_drop]; exact List.take_append_drop _ _
        rwa [e3] at this
      · intro f' h'
        rcases List.mem_cons.1 h' with e' | h'
        · subst e'
          refine ⟨by omega, ?_⟩
          rw [e, Nat.sub_self, List.drop_zero, List.take_left' hx1]
          exact t1
        · obtain ⟨g1, g2⟩ := t2 f' h'
          refine ⟨by omega, ?_⟩
          rw [show f'.offset - off = P.cellsOf f.type + (f'.offset - (off + P.cellsOf f.type)) by omega, ← List.drop_drop, List.drop_left' hx1]
          exact g2
    · cases ht

theorem flat_get {α : Type} {c : Nat} (hc : 0 < c) : ∀ {ls : List (List α)} {q : Nat}, (∀ l ∈ ls, l.length = c) → q < ls.length * c → ∃ l, ls[q / c]? = some l ∧ ls.flatten[q]? = l[q % c]?
  | [], q, _, h => by simp at h
  | l :: ls, q, hl, hq => by
    have h0 := hl l (by simp)
    rcases Nat.lt_or_ge q c with k | k
    · refine ⟨l, by rw [Nat.div_eq_of_lt k]; rfl, ?_⟩
      rw [List.flatten_cons, List.getElem?_append_left (by omega), Nat.mod_eq_of_lt k]
    · obtain ⟨l', g1, g2⟩ := flat_get hc (ls := ls) (q := q - c) (fun l h => hl l (List.mem_cons_of_mem _ h)) (by
        simp only [List.length_cons, Nat.add_mul, Nat.one_mul] at hq; omega)
      have hd : q / c = (q - c) / c + 1 := by rw [Nat.div_eq_sub_div hc k]
      have hmd : q % c = (q - c) % c := Nat.mod_eq_sub_mod k
      refine ⟨l', by rw [hd]; simpa using g1, ?_⟩
      rw [List.flatten_cons, List.getElem?_append_right (by omega), h0, g2, hmd]

theorem flat_len {α : Type} {c : Nat} : ∀ {ls : List (List α)}, (∀ l ∈ ls, l.length = c) → ls.flatten.length = ls.length * c
  | [], _ => by simp
  | l :: ls, hl => by
    rw [List.flatten_cons, List.length_append, flat_len (ls := ls) (fun l h => hl l (List.mem_cons_of_mem _ h)), hl l (by simp), List.length_cons, Nat.add_mul, Nat.one_mul, Nat.add_comm]

theorem open_deep {S : List TypeId} (hS : S.all (okT P S) = true) : ∀ (fuel : Nat) {t : TypeId} {cs : List Value} {x : DataW H × List MemPlace}, t ∈ S → DataW.trod enc P w base sp held fuel t cs = some x →
    ∃ xs, Rps (heapLay w) xs cs ∧ TypedD P fuel t xs x.1
  | 0, t, cs, x, ht, h => by simp [DataW.trod] at h
  | n + 1, t, cs, x, ht, h => by
    have hok := List.all_eq_true.1 hS t ht
    unfold okT at hok
    split at hok
    · rename_i hu
      obtain ⟨b, rfl, rfl⟩ := DataW.trod_bool hu h
      exact ⟨[.bool b], Rps.one rfl, by unfold TypedD; rw [hu]; exact ⟨b, rfl⟩⟩
    · rename_i k hu
      obtain ⟨m, rfl, rfl, hw⟩ := DataW.trod_int hu h
      exact ⟨[.int k m], Rps.one rfl, by unfold TypedD; rw [hu]; exact ⟨m, rfl, hw⟩⟩
    · rename_i hu
      obtain ⟨s, rfl, rfl, hs⟩ := DataW.trod_string hu h
      exact ⟨[.str s.data.toList], Rps.one rfl, by unfold TypedD; rw [hu]; exact ⟨_, rfl, by simpa using hs, rfl⟩⟩
    · rename_i e hu
      simp only [Bool.and_eq_true, decide_eq_true_eq, List.contains_iff_mem] at hok
      obtain ⟨heS, hc⟩ := hok
      rcases DataW.trod_slice hu h with ⟨rfl, rfl⟩ | ⟨a, len, cap, elems, rest, m, hm, rfl, rfl, hba, hlc, hcap, hel, hels, _⟩
      · exact ⟨[.isl [] 0 none], Rps.one ⟨[], rfl, none, 0, rfl, Nat.le_refl _, fun _ e => (by cases e), .inl ⟨rfl, fun _ => rfl⟩⟩, by unfold TypedD; rw [hu]; exact ⟨[], [], rfl, rfl, .inl rfl, fun i r di h => (by simp at h)⟩⟩
      · cases hm
        have each : ∀ i, i < len → ∃ ci y, elems[i]? = some y ∧ w.cells? base (a.add (i * P.cellsOf e)) (P.cellsOf e) = some ci ∧ DataW.trod enc P w base sp held n e ci = some y := by
          intro i hi
          have h1 := hels i hi
          have h2 : ∃ y, elems[i]? = some y := ⟨elems[i]'(by omega), List.getElem?_eq_getElem (by omega)⟩
          obtain ⟨y, hy⟩ := h2
          rw [hy] at h1
          obtain ⟨ci, h3, h4⟩ := Option.bind_eq_some_iff.1 h1
          exact ⟨ci, y, hy, h3, h4⟩
        have rowsN : ∀ k, k ≤ len → ∃ (rows : List (List LV)) (vss : List (List Value)), rows.length = k ∧ vss.length = k ∧
            (∀ (i : Nat) (r : List LV) (v : List Value), rows[i]? = some r → vss[i]? = some v → Rps (heapLay w) r v) ∧ (∀ (i : Nat) (v : List Value), vss[i]? = some v → w.cells? base (a.add (i * P.cellsOf e)) (P.cellsOf e) = some v) ∧
            ∀ (i : Nat) (r : List LV), rows[i]? = some r → r.length = P.cellsOf e ∧ ∃ y, elems[i]? = some y ∧ TypedD P n e r y.1 := by
          intro k
          induction k with
          | zero => exact fun _ => ⟨[], [], rfl, rfl, by simp, by simp, by simp⟩
          | succ k ih =>
            intro hk
            obtain ⟨rows, vss, n1, n2, p1, c1, t1⟩ := ih (by omega)
            obtain ⟨ci, y, hy, g1, g2⟩ := each k (by omega)
            obtain ⟨xs, p2, t2⟩ := open_deep hS n heS g2
            have get : ∀ {α : Type} {l : List α} {z u : α} {i : Nat}, l.length = k → (l ++ [z])[i]? = some u → (i < k ∧ l[i]? = some u) ∨ (i = k ∧ u = z) := by
              intro α l z u i hl hi
              rcases Nat.lt_trichotomy i k with q | q | q
              · rw [List.getElem?_append_left (by omega)] at hi; exact .inl ⟨q, hi⟩
              · subst q; rw [← hl] at hi; simp at hi; exact .inr ⟨rfl, hi.symm⟩
              · rw [List.getElem?_eq_none (by simp; omega)] at hi; cases hi
            refine ⟨rows ++ [xs], vss ++ [ci], by simp [n1], by simp [n2], ?_, ?_, ?_⟩
            · intro i r v h1 h2
              rcases get n1 h1 with ⟨q, h1⟩ | ⟨q, rfl⟩
              · rcases get n2 h2 with ⟨_, h2⟩ | ⟨q2, _⟩
                · exact p1 i r v h1 h2
                · omega
              · rcases get n2 h2 with ⟨q2, _⟩ | ⟨_, rfl⟩
                · omega
                · exact p2
            · intro i v h2
              rcases get n2 h2 with ⟨q, h2⟩ | ⟨rfl, rfl⟩
              · exact c1 i v h2
              · exact g1
            · intro i r h1
              rcases get n1 h1 with ⟨q, h1⟩ | ⟨rfl, rfl⟩
              · exact t1 i r h1
              · refine ⟨?_, y, hy, t2⟩
                have := p2.length
                have := (World.cells?_some g1).2.1
                omega
        obtain ⟨rows, vss, n1, n2, p1, c1, t1⟩ := rowsN len (Nat.le_refl _)
        have hlenr : ∀ r ∈ rows, r.length = P.cellsOf e := fun r hr => by
          obtain ⟨i, hi⟩ := List.getElem?_of_mem hr
          exact (t1 i r hi).1
        have hlenv : ∀ v ∈ vss, v.length = P.cellsOf e := by
          intro v hv
          obtain ⟨i, hi⟩ := List.getElem?_of_mem hv
          exact (World.cells?_some (c1 i v hi)).2.1
        have hall := Rps.flatten (β := heapLay w) (by rw [n1, n2]) p1
        refine ⟨[.isl rows.flatten rows.length none], Rps.one ⟨vss.flatten, hall, some a, cap, by rw [n1], by omega, fun k hk => (by cases hk), ?_⟩, ?_⟩
        · rcases Nat.eq_zero_or_pos len with h0 | hpos
          · exact .inl ⟨by omega, fun e => by cases e⟩
          refine .inr ?_
          have cellAt : ∀ i j, i < len → j < P.cellsOf e → ∃ v u, vss[i]? = some v ∧ v[j]? = some u ∧ w.cell? ((a.add (i * P.cellsOf e)).add j) = some u := by
            intro i j hi hj
            have hv : vss[i]? = some (vss[i]'(by omega)) := List.getElem?_eq_getElem (by omega)
            obtain ⟨_, g2, g3⟩ := World.cells?_some (c1 i _ hv)
            have hu : (vss[i]'(by omega))[j]? = some ((vss[i]'(by omega))[j]'(by omega)) := List.getElem?_eq_getElem (by omega)
            exact ⟨_, _, hv, hu, by rw [g3 j hj]; exact hu⟩
          obtain ⟨v0, u0, _, _, hc0⟩ := cellAt 0 0 hpos hc
          have hspot : a.spot = none := by
            simp only [Nat.zero_mul, Addr.add, if_true] at hc0
            unfold World.cell? at hc0
            split at hc0
            · split at hc0
              · cases hc0
              · rename_i hs; simpa using hs
            · cases hc0
          obtain ⟨c, ty, fz, hheap⟩ : ∃ c ty fz, w.heap[a.block]? = some (.cells c ty fz) := by
            simp only [Nat.zero_mul, Addr.add, if_true] at hc0
            unfold World.cell? at hc0
            split at hc0
            · rename_i c ty fz hh; exact ⟨c, ty, fz, hh⟩
            · cases hc0
          have cellC : ∀ i j, i < len → j < P.cellsOf e → ∃ v u, vss[i]? = some v ∧ v[j]? = some u ∧ c[a.off + (i * P.cellsOf e + j)]? = some u := by
            intro i j hi hj
            obtain ⟨v, u, g1, g2, g3⟩ := cellAt i j hi hj
            refine ⟨v, u, g1, g2, ?_⟩
            have hblk : ((a.add (i * P.cellsOf e)).add j).block = a.block := by
              unfold Addr.add; split <;> split <;> rfl
            have hoff : ((a.add (i * P.cellsOf e)).add j).off = a.off + (i * P.cellsOf e + j) := by
              unfold Addr.add
              split <;> split <;> simp_all <;> omega
            unfold World.cell? at g3
            rw [hblk, hheap] at g3
            simp only at g3
            split at g3
            · cases g3
            · rw [hoff] at g3; exact g3
          refine ⟨a.block, a.off, by rw [← hspot], c, ty, fz, hheap, ?_, ?_⟩
          · rw [flat_len hlenv, n2]
            obtain ⟨v, u, _, _, g⟩ := cellC (len - 1) (P.cellsOf e - 1) (by omega) (by omega)
            have := (Array.getElem?_eq_some_iff.1 g).1
            have e1 : len * P.cellsOf e = (len - 1) * P.cellsOf e + P.cellsOf e := by
              rw [← Nat.succ_mul]; congr 1; omega
            omega
          · intro q u hu
            have hq : q < vss.length * P.cellsOf e := by
              rw [← flat_len hlenv]; exact (List.getElem?_eq_some_iff.1 hu).1
            obtain ⟨l, g1, g2⟩ := flat_get hc hlenv hq
            have hi : q / P.cellsOf e < len := by rw [Nat.div_lt_iff_lt_mul hc]; rw [← n2]; exact hq
            obtain ⟨v', u', k1, k2, k3⟩ := cellC (q / P.cellsOf e) (q % P.cellsOf e) hi (Nat.mod_lt _ hc)
            rw [g1] at k1; cases k1
            rw [g2, k2] at hu; cases hu
            rw [← k3]
            congr 2
            rw [Nat.mul_comm]; exact (Nat.div_add_mod q (P.cellsOf e)).symm
        · unfold TypedD
          rw [hu]
          refine ⟨rows, elems.map (·.1), rfl, by simp [hel, n1], .inr ⟨_, rfl⟩, fun i r di h1 h2 => ?_⟩
          obtain ⟨h3, y, h4, h5⟩ := t1 i r h1
          rw [List.getElem?_map, h4] at h2
          cases h2
          exact ⟨h3, h5⟩
    · rename_i fs hu
      simp only [Bool.and_eq_true, List.all_eq_true, List.contains_iff_mem, beq_iff_eq] at hok
      obtain ⟨hf, htile⟩ := hok
      obtain ⟨xs, m, hm, rfl, hl, hxl, hxs⟩ := DataW.trod_struct hu h
      cases hm
      have hb := (tile_le htile).2
      obtain ⟨ys, p1, t1⟩ := fields_deep (β := heapLay w) (Q := fun f ys => ∀ (i : Nat) (y : DataW H × List MemPlace), fs[i]? = some f → xs[i]? = some y → TypedD P n f.type ys y.1) htile hl (fun f hfm => by
        obtain ⟨i, hi, e'⟩ := List.getElem_of_mem hfm
        have hi' : fs[i]? = some f := by
          have : i < fs.size := by simpa using hi
          rw [Array.getElem?_eq_getElem this]
          have : fs.toList[i] = fs[i] := by simp
          rw [← this, e']
        have h1 := hxs i f hi'
        have h2 : xs[i]? = some (xs[i]'(by rw [hxl]; simpa using hi)) := List.getElem?_eq_getElem _
        rw [h2] at h1
        obtain ⟨zs, q1, q2⟩ := open_deep hS n (hf f hfm) h1
        refine ⟨zs, q1, fun j y hj hy => ?_⟩
        obtain ⟨zs', q1', q2'⟩ := open_deep hS n (hf f hfm) (by rw [hxs j f hj, hy] : DataW.trod enc P w base sp held n f.type _ = some y)
        have e2 : xs[j]? = xs[i]? := by rw [← hxs j f hj, ← hxs i f hi']
        rw [hy, h2] at e2
        cases e2
        exact q2) (fun f hfm => by rw [hl]; exact hb f hfm)
      refine ⟨ys, by simpa using p1, ?_⟩
      unfold TypedD
      rw [hu]
      refine ⟨?_, xs.map (·.1), rfl, by simp [hxl], fun i f di hi hdi => ?_⟩
      · have := p1.length
        simp at this
        omega
      · rw [List.getElem?_map] at hdi
        obtain ⟨y, hy, rfl⟩ := Option.map_eq_some_iff.1 hdi
        have := (t1 f (Array.mem_toList_iff.2 (Array.mem_of_getElem? hi))).2 i y hi hy
        simpa using this
    · cases hok

end
end Go.CP

