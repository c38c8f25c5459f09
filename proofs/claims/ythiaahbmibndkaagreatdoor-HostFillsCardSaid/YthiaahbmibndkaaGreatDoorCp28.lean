/- The clean machine, part 28: from a logical call to a row's walk, and the row's last step behind a call of which only what lies below is known. -/
import Derived.Test.YthiaahbmibndkaaGreatDoorCp27
import Derived.ProofKit
import Derived.OpenShut
namespace Go.CP
open Go.ChangeShapes Go.WideShapes Go.ChangeAt Go.RowKit

theorem Rel.init (w : World) : Rel w (fun _ => none) [] w :=
  ⟨Bw.refl _ _, fun _ _ => rfl, fun _ _ h => by simp at h, fun _ _ _ _ _ _ h => by simp at h⟩

/-- A function with a body is no function without one. -/
theorem LCalls.body {P : Program} {f : FuncId} {xs : List LV} {st : LState} {R : LV → LState → Prop} (hb : Callable P f) (h : LCalls P f xs st R) :
    Callable P f ∧ ∀ w0 β w vs, Rel w0 β st w → Rps β xs vs → Calls P f ⟨vs⟩ w (Back w0 R β) := by
  rcases h with h | h
  · exact h
  · refine ⟨hb, fun w0 β w vs h1 h2 => ?_⟩
    obtain ⟨u, w', h3, _⟩ := h w0 β w vs h1 h2
    obtain ⟨fn, body, e1, e2, e3⟩ := hb
    have : (callFunc f ⟨vs⟩).run P w = .ok (.enter f ⟨vs⟩) w := by
      simp only [callFunc, Sem.run_bind, Sem.run_pure, Result.andThen_ok, run_program, e1, e3, e2, Option.isNone_some, Bool.false_eq_true, if_false]
    rw [this] at h3
    cases h3

/-- A law's walk, from its logical call. -/
theorem LCalls.law {P : Program} {f : FuncId} {xs : List LV} {st : LState} {β : Lay} {w : World} {vs : List Value} (hb : Callable P f) (h : LCalls P f xs st fun r _ => r = .bool true) (hr : Rel w β st w) (hx : Rps β xs vs) :
    Calls P f ⟨vs⟩ w fun e w' => e = .returned (.bool true) ∧ Below w.heap.size w w' :=
  ((h.body hb).2 w β w vs hr hx).mono fun e w' ⟨β', r, st', v, h1, h2, h3, h4, _⟩ => by
    subst h1
    simp only [Rp] at h3
    subst h3
    exact ⟨h2, h4.below.toBelow⟩

/-- The row's last step: arguments that read as they did. -/
theorem post_of_below {H : Type} {enc : TypeId × Value → H} {P : Program} {f : Func} {s : ChangeSpec} {apart fresh handsOn : Bool} {W W' : World} {args : Array Value} {v : Value} {ds gs : List (DataW H)} {before pa pv : List MemPlace}
    (hW : DataW.Whole enc P f.params.toList s.vars apart W args.toList ds gs before)
    (hres : ∀ (b : Nat) (sp : Nat → Bool) (hd : Bool), DataW.TrodAll enc P W' b sp hd f.resultTypes.toList (v.resultList f.resultTypes.size) (s.fn H (ds ++ gs)).results [])
    (hargs : ∀ sp : Nat → Bool, (∀ p ∈ before, sp p.block = true) → DataW.TrodAll enc P W' 0 sp true f.params.toList args.toList (s.fn H (ds ++ gs)).args pa)
    (hvars : ∀ sp : Nat → Bool, (∀ p ∈ before, sp p.block = true) → DataW.TrodVars enc P W' sp s.vars (s.fn H (ds ++ gs)).vars pv)
    (hb : Below W.heap.size W W') : s.post enc P f apart fresh handsOn false W args v W' := by
  have hold : ∀ p ∈ before, (fun b => decide (b < W.heap.size)) p.block = true := fun p hp => by simpa using hW.lt p hp
  exact ⟨ds, gs, before, [], pa, pv, hW, hres _ _ _, hargs _ hold, hvars _ hold, hb.frame _, fun h => by cases h⟩

end Go.CP
