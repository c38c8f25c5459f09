/- The clean machine, part 35: functions without a Go body: what they answer. -/
import Derived.Test.YtkjmpjaahgficaaDoorCm34
import Derived.Lib.Bytealg
namespace Go.CM

theorem LExt.of_extern {P : Program} {f : FuncId} {fn : Func} {e : Array Value → Sem Value} {xs : List LV} {st : LState} {R : LV → LState → Prop} (hf : P.funcs[f]? = some fn) (hname : (fn.name == "runtime.NumGoroutine") = false)
    (hb : fn.body.isNone = true) (hn : Extern.findNext fn = none) (he : Extern.find fn = some e)
    (h : ∀ w0 β w vs, Rel w0 β st w → Rps β xs vs → ∃ u w', (e ⟨vs⟩).run P w = .ok u w' ∧ ∃ β' r st', R r st' ∧ Rp β' r u ∧ Rel w0 β' st' w' ∧ β.le β') : LCalls P f xs st R := by
  refine .inr fun w0 β w vs h1 h2 => ?_
  obtain ⟨u, w', h3, h4⟩ := h w0 β w vs h1 h2
  exact ⟨u, w', by rw [run_callFunc_extern hf hname hb hn he, h3]; rfl, h4⟩

/-- internal/bytealg.CountString -/
theorem count_call {P : Program} {f : FuncId} {fn : Func} {s : List UInt8} {c : Int} {st : LState} {R : LV → LState → Prop} (hf : P.funcs[f]? = some fn) (hname : (fn.name == "runtime.NumGoroutine") = false)
    (hb : fn.body.isNone = true) (hn : Extern.findNext fn = none) (he : Extern.find fn = some Extern.BytealgCount.count) (hR : R (.int .i64 (Lib.countByte s c.toNat.toUInt8 : Nat)) st) : LCalls P f [.str s, .int .u8 c] st R := by
  refine LExt.of_extern hf hname hb hn he fun w0 β w vs h1 h2 => ?_
  obtain ⟨v, us, rfl, r1, v2, us2, rfl, r2, rfl⟩ := h2
  simp only [Rp] at r1 r2
  subst r1; subst r2
  exact ⟨_, w, Lib.run_countString _ _ _, β, _, st, hR, rfl, h1, Lay.le.refl _⟩

/-- internal/bytealg.IndexByteString -/
theorem indexByte_call {P : Program} {f : FuncId} {fn : Func} {s : List UInt8} {c : Int} {st : LState} {R : LV → LState → Prop} (hf : P.funcs[f]? = some fn) (hname : (fn.name == "runtime.NumGoroutine") = false)
    (hb : fn.body.isNone = true) (hn : Extern.findNext fn = none) (he : Extern.find fn = some Extern.BytealgIndexByte.indexByte) (hR : R (.int .i64 (Lib.indexByte s c.toNat.toUInt8)) st) : LCalls P f [.str s, .int .u8 c] st R := by
  refine LExt.of_extern hf hname hb hn he fun w0 β w vs h1 h2 => ?_
  obtain ⟨v, us, rfl, r1, v2, us2, rfl, r2, rfl⟩ := h2
  simp only [Rp] at r1 r2
  subst r1; subst r2
  exact ⟨_, w, Lib.run_indexByteString _ _ _, β, _, st, hR, rfl, h1, Lay.le.refl _⟩

/-- Who answers where there is no Go body: cn, ib: the numbers of the two functions. -/
def extO (cn ib : Nat) : Ora := fun f xs st => match xs with
  | [.str s, .int .u8 c] => (match f == cn with
    | true => some (.int .i64 (Lib.countByte s c.toNat.toUInt8 : Nat), st)
    | false => match f == ib with
      | true => some (.int .i64 (Lib.indexByte s c.toNat.toUInt8), st)
      | false => none)
  | _ => none

theorem extO_ok {P : Program} {cn ib : Nat} {fc fi : Func} (c1 : P.funcs[cn]? = some fc) (c2 : (fc.name == "runtime.NumGoroutine") = false) (c3 : fc.body.isNone = true) (c4 : Extern.findNext fc = none) (c5 : Extern.find fc = some Extern.BytealgCount.count)
    (i1 : P.funcs[ib]? = some fi) (i2 : (fi.name == "runtime.NumGoroutine") = false) (i3 : fi.body.isNone = true) (i4 : Extern.findNext fi = none) (i5 : Extern.find fi = some Extern.BytealgIndexByte.indexByte) : OraOk P (extO cn ib) := by
  intro f xs st v st' h K hK
  unfold extO at h
  split at h
  · rename_i s c
    split at h
    · rename_i e
      cases h
      have : f = cn := by simpa using e
      subst this
      exact count_call c1 c2 c3 c4 c5 hK
    · split at h
      · rename_i e
        cases h
        have : f = ib := by simpa using e
        subst this
        exact indexByte_call i1 i2 i3 i4 i5 hK
      · cases h
  · cases h

theorem lrunX_forget {P : Program} (hm : P.follows .mixedOrders = true) {X : Ora} (hX : OraOk P X) {m n : Nat} {f : FuncId} {xs : List LV} {st : LState} {v : LV} {R : LV → LState → Prop} (h : (lrunX P X m n f xs []).map (·.1) = some v) (hx : LV.plains xs = true) (hv : v.plain = true)
    (hR : R v st) : LCalls P f xs st R := by
  simp only [Option.map_eq_some_iff] at h
  obtain ⟨⟨r, s⟩, h1, h2⟩ := h
  simp only at h2
  subst h2
  exact LCalls.forget (lrunX_ok hm hX n _ _ _ _ _ h1 _ rfl) hx hv hR

end Go.CM
