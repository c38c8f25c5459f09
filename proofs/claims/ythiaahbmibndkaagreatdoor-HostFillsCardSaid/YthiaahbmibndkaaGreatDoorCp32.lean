/- The clean machine, part 32: the last step of a law's row, for arguments of numbers, texts, slices and structs of these. -/
import Derived.Test.YthiaahbmibndkaaGreatDoorCp31
namespace Go.CP
open Go.ChangeShapes Go.WideShapes Go.ChangeAt Go.RowKit

def isStructT (P : Program) (t : TypeId) : Bool := match P.underlying t with
  | some (.struct _) => true
  | _ => false

/-- An argument of a type. -/
def TypedA (P : Program) (st : LState) (t : TypeId) (x : LV) : Prop := ∃ n cs, x = (if isStructT P t = true then .agg cs else x) ∧ (isStructT P t = false → cs = [x]) ∧ Typed P st n t cs

def TypedAs (P : Program) (st : LState) : List TypeId → List LV → Prop
  | [], xs => xs = []
  | t :: ts, xs => ∃ x xs', xs = x :: xs' ∧ TypedA P st t x ∧ TypedAs P st ts xs'

section
variable {H : Type} {enc : TypeId × Value → H} {P : Program} {w0 w : World} {base : Nat} {sp : Nat → Bool} {held : Bool}

theorem TypedA.more {st ext : LState} {t : TypeId} {x : LV} (h : TypedA P st t x) : TypedA P (st ++ ext) t x :=
  let ⟨n, cs, h1, h2, h3⟩ := h; ⟨n, cs, h1, h2, h3.more⟩

theorem open_args {S : List TypeId} (hS : S.all (okT P S) = true) : ∀ {ts : List TypeId} {vs : List Value} {ds : List (DataW H)} {ps : List MemPlace} {β : Lay} {st : LState}, (∀ t ∈ ts, t ∈ S) →
    DataW.TrodAll enc P w base sp held ts vs ds ps → (∀ (j : Nat) t v, ts[j]? = some t → vs[j]? = some v → Value.okWide P w .any 0 t v) → Rel w0 β st w → allRo st →
    ∃ β' ext xs, Rel w0 β' (st ++ ext) w ∧ allRo (st ++ ext) ∧ β.le β' ∧ Rps β' xs vs ∧ TypedAs P (st ++ ext) ts xs
  | [], vs, ds, ps, β, st, _, h, _, hr, ha => by
    obtain ⟨rfl, rfl, _⟩ : vs = [] ∧ ds = [] ∧ ps = [] := by
      cases vs <;> cases ds <;> simp_all [DataW.TrodAll]
    exact ⟨β, [], [], by simpa using hr, by simpa using ha, Lay.le.refl _, rfl, rfl⟩
  | t :: ts, vs, ds, ps, β, st, hts, h, hv, hr, ha => by
    obtain ⟨v, vs', d, ds', p, q, rfl, rfl, rfl, ⟨fuel, h1⟩, h2⟩ := trodAll_cons h
    have hval := hv 0 t v rfl rfl
    obtain ⟨β1, e1, cs, r1, a1, l1, p1, t1⟩ := open_cells hS fuel (hts t (by simp)) h1 hr ha
    obtain ⟨β2, e2, xs, r2, a2, l2, p2, t2⟩ := open_args hS (fun t ht => hts t (List.mem_cons_of_mem _ ht)) h2 (fun j t v a b => hv (j + 1) t v (by simpa using a) (by simpa using b)) r1 a1
    have hok := List.all_eq_true.1 hS t (hts t (by simp))
    have one : ∀ {u : Value}, v = u → u.cells.toList = [u] → isStructT P t = false → ∃ x, Rp β1 x v ∧ TypedA P (st ++ e1) t x := by
      intro u e hu hs
      subst e
      rw [hu] at p1
      obtain ⟨y, us, rfl, hy, e'⟩ : ∃ y us, cs = y :: us ∧ Rp β1 y v ∧ us = [] := by
        cases cs with
        | nil => simp only [Rps] at p1; cases p1
        | cons y us =>
          obtain ⟨v', us', e1, e2, e3⟩ := p1
          simp only [List.cons.injEq] at e1
          obtain ⟨rfl, rfl⟩ := e1
          cases us with
          | nil => exact ⟨y, [], rfl, e2, rfl⟩
          | cons z zs => obtain ⟨_, _, e4, _⟩ := e3; cases e4
      subst e'
      exact ⟨y, hy, fuel, [y], by simp [hs], fun _ => rfl, t1⟩
    have arg : ∃ x, Rp β1 x v ∧ TypedA P (st ++ e1) t x := by
      unfold okT at hok
      split at hok
      · rename_i hu
        obtain ⟨b, rfl⟩ := okWide_bool hu hval
        exact one rfl rfl (by simp [isStructT, hu])
      · rename_i k hu
        obtain ⟨b, rfl⟩ := okWide_int hu hval
        exact one rfl rfl (by simp [isStructT, hu])
      · rename_i hu
        obtain ⟨b, rfl⟩ := okWide_string hu hval
        exact one rfl rfl (by simp [isStructT, hu])
      · rename_i e hu
        obtain ⟨a, l, c, rfl⟩ := okWide_slice hu hval
        exact one rfl rfl (by simp [isStructT, hu])
      · rename_i fs hu
        obtain ⟨us, rfl, _⟩ := okWide_struct hu hval
        exact ⟨.agg cs, ⟨us.toList, rfl, p1⟩, fuel, cs, by simp [isStructT, hu], by simp [isStructT, hu], t1⟩
      · cases hok
    obtain ⟨x, hx, tx⟩ := arg
    refine ⟨β2, e1 ++ e2, x :: xs, by simpa using r2, by simpa using a2, l1.trans l2, ⟨v, vs', rfl, hx.mono l2, p2⟩, x, xs, rfl, ?_, by simpa using t2⟩
    have := tx.more (ext := e2)
    simpa using this

/-- Arguments read as they did. -/
theorem trodAll_below (hl : laidOutB P = true) {W W' : World} (hb : Below W.heap.size W W') : ∀ {ts : List TypeId} {vs : List Value} {ds : List (DataW H)} {ps : List MemPlace}, (ts.all fun t => P.readableRec t && decide (t < P.types.size)) = true →
    DataW.TrodAll enc P W 0 (fun _ => true) true ts vs ds ps → (∀ x ∈ ps, x.block < W.heap.size) → DataW.TrodAll enc P W' 0 (fun b => decide (b < W.heap.size)) true ts vs ds ps
  | [], vs, ds, ps, _, h, _ => by
    cases vs <;> cases ds <;> simp_all [DataW.TrodAll]
  | t :: ts, vs, ds, ps, hr, h, hlt => by
    obtain ⟨v, vs', d, ds', p, q, rfl, rfl, rfl, h1, h2⟩ := trodAll_cons h
    simp only [List.all_cons, Bool.and_eq_true, decide_eq_true_eq] at hr
    exact ⟨p, q, Below.trod hl hr.1.1 hr.1.2 h1 hb (fun x hx => hlt x (List.mem_append.2 (.inl hx))), trodAll_below hl hb hr.2 h2 (fun x hx => hlt x (List.mem_append.2 (.inr hx))), rfl⟩

theorem trodAll_len : ∀ {ts : List TypeId} {vs : List Value} {ds : List (DataW H)} {ps : List MemPlace}, DataW.TrodAll enc P w base sp held ts vs ds ps → ds.length = ts.length
  | [], vs, ds, ps, h => by cases vs <;> cases ds <;> simp_all [DataW.TrodAll]
  | t :: ts, vs, ds, ps, h => by
    obtain ⟨v, vs', d, ds', p, q, rfl, rfl, rfl, h1, h2⟩ := trodAll_cons h
    simp [trodAll_len h2]

/-- A law's row: its walk, of arguments as they are. -/
theorem law_step {f : FuncId} {F : Func} {s : ChangeSpec} {apart fresh handsOn : Bool} {W : World} {args : Array Value} {ds gs : List (DataW H)} {before : List MemPlace} (S : List TypeId) (tb : TypeId)
    (hS : S.all (okT P S) = true) (hts : F.params.toList.all S.contains = true) (hlaid : laidOutB P = true) (hrd : (F.params.toList.all fun t => P.readableRec t && decide (t < P.types.size)) = true)
    (hres : F.resultTypes.toList = [tb]) (htb : P.underlying tb = some .bool) (hsz : F.resultTypes.size = 1) (hvs : s.vars = [])
    (hspec : ∀ ds : List (DataW H), ds.length = F.params.toList.length → (s.fn H ds).results = [.lit (.bool true)] ∧ (s.fn H ds).args = ds ∧ (s.fn H ds).vars = [])
    (hfn : P.funcs[f]? = some F) (hbody : F.body.isSome = true) (hname : (F.name == "runtime.NumGoroutine") = false)
    (hval : ∀ (j : Nat) t v, F.params[j]? = some t → args[j]? = some v → Value.okWide P W .any 0 t v)
    (hW : DataW.Whole enc P F.params.toList s.vars apart W args.toList ds gs before)
    (law : ∀ xs st, allRo st → TypedAs P st F.params.toList xs → LCalls P f xs st fun r _ => r = .bool true) :
    Calls P f args W fun e W' => ∃ v, e = .returned v ∧ s.post enc P F apart fresh handsOn false W args v W' := by
  have hW' := hW
  obtain ⟨p, q, hA, hV, rfl, hfz, hnd⟩ := hW
  rw [hvs] at hV
  obtain ⟨rfl, rfl⟩ := trodVars_none hV
  have hlen := trodAll_len hA
  obtain ⟨e1, e2, e3⟩ := hspec (ds ++ []) (by simpa using hlen)
  obtain ⟨β, st, xs, hr, ha, _, hp, ht⟩ := open_args (w0 := W) hS (fun t h => by simpa using List.all_eq_true.1 hts t h) hA (fun j t v a b => hval j t v (by simpa using a) (by simpa using b)) (Rel.init W) (by intro y hy; simp at hy)
  rw [List.nil_append] at hr ha ht
  obtain ⟨bc, hbc⟩ := Option.isSome_iff_exists.1 hbody
  have hcall := LCalls.law ⟨F, bc, hfn, hbc, hname⟩ (law xs st ha ht) hr hp
  refine hcall.mono fun e W' ⟨he, hb⟩ => ?_
  have hlt : ∀ x ∈ p, x.block < W.heap.size := fun x hx => hW'.lt x (List.mem_append.2 (.inl hx))
  refine ⟨_, he, ds, [], p ++ [], [], p, [], hW', ?_, ?_, ?_, hb.frame _, fun h => by cases h⟩
  · rw [e1, hres, hsz]
    exact trodAll_cons_mk (shut_bool htb _) trodAll_mk0
  · rw [e2, List.append_nil]
    exact trodAll_below hlaid hb hrd hA hlt
  · rw [hvs, e3]; rfl

end
end Go.CP
