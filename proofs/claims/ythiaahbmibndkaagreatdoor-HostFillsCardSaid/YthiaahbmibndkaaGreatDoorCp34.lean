/- The clean machine, part 34: a run from the empty store, in the midst of another run: what was known of the store is forgotten. -/
import Derived.Test.YthiaahbmibndkaaGreatDoorCp30
namespace Go.CP

mutual
/-- A value that names no object. -/
def LV.plain : LV → Bool
  | .ptr _ _ | .sl _ _ _ _ | .map _ => false
  | .iface _ v => LV.plain v
  | .agg cs => LV.plains cs
  | .tup cs => LV.plains cs
  | .fn _ a b => LV.plains a && LV.plains b
  | _ => true
def LV.plains : List LV → Bool
  | [] => true
  | a :: as => LV.plain a && LV.plains as
end

mutual
theorem Rp.plain {β β' : Lay} : ∀ {v : LV} {u : Value}, v.plain = true → Rp β v u → Rp β' v u
  | .bool _, _, _, e => e
  | .int .., _, _, e => e
  | .flt .., _, _, e => e
  | .cplx .., _, _, e => e
  | .str _, _, _, e => e
  | .nilp, _, _, e => e
  | .ptr o k, _, h, _ => by simp [LV.plain] at h
  | .nils, _, _, e => e
  | .sl o k l c, _, h, _ => by simp [LV.plain] at h
  | .nilm, _, _, e => e
  | .map o, _, h, _ => by simp [LV.plain] at h
  | .nilf, _, _, e => e
  | .fn _ a b, _, h, ⟨vs, us, e, r, s⟩ => by
    simp only [LV.plain, Bool.and_eq_true] at h
    exact ⟨vs, us, e, Rps.plain h.1 r, Rps.plain h.2 s⟩
  | .nili, _, _, e => e
  | .iface _ v, _, h, ⟨u, e, r⟩ => ⟨u, e, Rp.plain (by simpa [LV.plain] using h) r⟩
  | .agg cs, _, h, ⟨vs, e, r⟩ => ⟨vs, e, Rps.plain (by simpa [LV.plain] using h) r⟩
  | .tup cs, _, h, ⟨vs, e, r⟩ => ⟨vs, e, Rps.plain (by simpa [LV.plain] using h) r⟩
  | .glob _ _, _, _, e => e
  | .emp, _, _, e => e
  | .txt, _, _, e => e
  | .junk, _, _, _ => trivial
theorem Rps.plain {β β' : Lay} : ∀ {v : List LV} {u : List Value}, LV.plains v = true → Rps β v u → Rps β' v u
  | [], _, _, e => e
  | _ :: _, _, h, ⟨v, us, e, r, s⟩ => by
    simp only [LV.plains, Bool.and_eq_true] at h
    exact ⟨v, us, e, Rp.plain h.1 r, Rps.plain h.2 s⟩
end

/-- What lies below stays as it was: so does what is known of it. -/
theorem Rel.below_kept {w0 w w' : World} {β : Lay} {st : LState} (h : Rel w0 β st w) (hb : Bw w.heap.size w w') : Rel w0 β st w' := by
  refine ⟨h.below.trans (hb.mono h.below.size), h.dom, fun o x hx => (h.obj o x hx).same fun b hb' hl => ?_, h.sep⟩
  obtain ⟨b', e, hlt⟩ := (h.obj o x hx).live hl
  rw [hb'] at e; cases e
  exact hb.block _ hlt

theorem LCalls.forget {P : Program} {f : FuncId} {xs : List LV} {st : LState} {v : LV} {R : LV → LState → Prop} (h : LCalls P f xs [] fun r _ => r = v) (hx : LV.plains xs = true) (hv : v.plain = true)
    (hR : R v st) : LCalls P f xs st R := by
  have h0 : ∀ w : World, Rel w (fun _ => none) [] w := fun w => ⟨Bw.refl _ _, fun _ _ => rfl, fun _ _ h => by simp at h, fun _ _ _ _ _ _ h => by simp at h⟩
  rcases h with h | h
  · refine .inl ⟨h.1, fun w0 β w vs h1 h2 => ?_⟩
    refine (h.2 w _ w vs (h0 w) (h2.plain hx)).mono ?_
    rintro e w' ⟨β', r, st', u, rfl, rfl, h4, h5, _⟩
    exact ⟨β, r, st, u, hR, rfl, h4.plain hv, h1.below_kept h5.below, Lay.le.refl _⟩
  · refine .inr fun w0 β w vs h1 h2 => ?_
    obtain ⟨u, w', h3, β', r, st', rfl, h5, h6, _⟩ := h w _ w vs (h0 w) (h2.plain hx)
    exact ⟨u, w', h3, β, r, st, hR, h5.plain hv, h1.below_kept h6.below, Lay.le.refl _⟩

/-- A run of the kernel's, in the midst of another run. -/
theorem lrun_forget {P : Program} (hm : P.follows .mixedOrders = true) {m n : Nat} {f : FuncId} {xs : List LV} {st : LState} {v : LV} {R : LV → LState → Prop} (h : (lrun P m n f xs []).map (·.1) = some v) (hx : LV.plains xs = true) (hv : v.plain = true)
    (hR : R v st) : LCalls P f xs st R := by
  simp only [Option.map_eq_some_iff] at h
  obtain ⟨⟨r, s⟩, h1, h2⟩ := h
  simp only at h2
  subst h2
  exact LCalls.forget (lrun_ok hm n _ _ _ _ _ h1 _ rfl) hx hv hR

end Go.CP
