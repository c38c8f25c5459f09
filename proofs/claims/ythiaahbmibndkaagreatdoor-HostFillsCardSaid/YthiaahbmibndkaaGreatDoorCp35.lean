/- The clean machine, part 35: functions without a Go body: what they answer. -/
import Derived.Test.YthiaahbmibndkaaGreatDoorCp34
import Derived.Lib.Bytealg
import Derived.Lib.MakeNoZero
namespace Go.CP

theorem LExt.of_extern {P : Program} {f : FuncId} {fn : Func} {e : Array Value → Sem Value} {xs : List LV} {st : LState} {R : LV → LState → Prop} (hf : P.funcs[f]? = some fn) (hname : (fn.name == "runtime.NumGoroutine") = false)
    (hb : fn.body.isNone = true) (hn : Extern.findNext fn = none) (he : Extern.find fn = some e)
    (h : ∀ w0 β w vs, Rel w0 β st w → Rps β xs vs → ∃ u w', (e ⟨vs⟩).run P w = .ok u w' ∧ ∃ β' r st', R r st' ∧ Rp β' r u ∧ Rel w0 β' st' w' ∧ β.le β') : LCalls P f xs st R := by
  refine .inr fun w0 β w vs h1 h2 => ?_
  obtain ⟨u, w', h3, h4⟩ := h w0 β w vs h1 h2
  exact ⟨u, w', by rw [run_callFunc_extern hf hname hb hn he, h3]; rfl, h4⟩

/-- internal/bytealg.CountString -/
theorem count_call {P : Program} {f : FuncId} {fn : Func} {s : List UInt8} {c : Int} {st : LState} {R : LV → LState → Prop} (hf : P.funcs[f]? = some fn) (hname : (fn.name == "runtime.NumGoroutine") = false)
    (hb : fn.body.isNone = true) (hn : Extern.findNext fn = none) (he : Extern.find fn = some Extern.BytealgCount.count) (hR : R (.int .i64 (Lib.countByte s c.toNat.toUInt8 : Nat)) st) : LCalls P f [.str s, .int .u8 c] st R := by
  refine LExt.of_extern hf hname hb hn he fun w0 β w vs h1 h2 => ?_
  obtain ⟨v, us, rfl, r1, v2, us2, rfl, r2, rfl⟩ := h2
  simp only [Rp] at r1 r2
  subst r1; subst r2
  exact ⟨_, w, Lib.run_countString _ _ _, β, _, st, hR, rfl, h1, Lay.le.refl _⟩

/-- internal/bytealg.IndexByteString -/
theorem indexByte_call {P : Program} {f : FuncId} {fn : Func} {s : List UInt8} {c : Int} {st : LState} {R : LV → LState → Prop} (hf : P.funcs[f]? = some fn) (hname : (fn.name == "runtime.NumGoroutine") = false)
    (hb : fn.body.isNone = true) (hn : Extern.findNext fn = none) (he : Extern.find fn = some Extern.BytealgIndexByte.indexByte) (hR : R (.int .i64 (Lib.indexByte s c.toNat.toUInt8)) st) : LCalls P f [.str s, .int .u8 c] st R := by
  refine LExt.of_extern hf hname hb hn he fun w0 β w vs h1 h2 => ?_
  obtain ⟨v, us, rfl, r1, v2, us2, rfl, r2, rfl⟩ := h2
  simp only [Rp] at r1 r2
  subst r1; subst r2
  exact ⟨_, w, Lib.run_indexByteString _ _ _, β, _, st, hR, rfl, h1, Lay.le.refl _⟩

/-- internal/abi.NoEscape -/
theorem same_call {P : Program} {f : FuncId} {fn : Func} {x : LV} {st : LState} {R : LV → LState → Prop} (hf : P.funcs[f]? = some fn) (hname : (fn.name == "runtime.NumGoroutine") = false)
    (hb : fn.body.isNone = true) (hn : Extern.findNext fn = none) (he : Extern.find fn = some Extern.AbiNoEscape.same) (hR : R x st) : LCalls P f [x] st R := by
  refine LExt.of_extern hf hname hb hn he fun w0 β w vs h1 h2 => ?_
  obtain ⟨v, us, rfl, r1, rfl⟩ := h2
  exact ⟨_, w, rfl, β, _, st, hR, r1, h1, Lay.le.refl _⟩

/-- internal/bytealg.MakeNoZero: bytes of which nothing is known. -/
theorem noZero_call {P : Program} {f : FuncId} {fn : Func} {t e : TypeId} {ps : Array TypeId} {n : Nat} {st : LState} {R : LV → LState → Prop} (hf : P.funcs[f]? = some fn) (hname : (fn.name == "runtime.NumGoroutine") = false)
    (hb : fn.body.isNone = true) (hn : Extern.findNext fn = none) (he : Extern.find fn = some (Extern.BytealgMakeNoZero.makeNoZero ps #[t])) (ht : P.underlying t = some (.slice e)) (hn47 : n ≤ 2 ^ 47)
    (hR : R (.sl st.length 0 n (.rest 1)) (st ++ [.cells (.bt e) (List.replicate n .junk)])) : LCalls P f [.int .i64 n] st R := by
  refine LExt.of_extern hf hname hb hn he fun w0 β w vs h1 h2 => ?_
  obtain ⟨v, us, rfl, r1, rfl⟩ := h2
  simp only [Rp] at r1; subst r1
  obtain ⟨cs, hrun, hc, _⟩ := Lib.run_makeNoZero (P := P) w ps t e ht n (by omega)
  refine ⟨_, _, hrun, _, _, _, hR, ⟨_, Lay.put_same, ?_, ?_⟩, ((h1.draw).draw).alloc (m := .bt e) (l := List.replicate n .junk) (c := cs) (e := e) (fz := (0, 0)) (by simpa using hc) (fun i x hx => ?_) (by simp), Lay.le_put (h1.dom _ (Nat.le_refl _))⟩
  · simpa [CapI.cap] using hc
  · simp [CapI.cap]
  · have hi : i < n := by
      have := (List.getElem?_eq_some_iff.1 hx).1
      simpa using this
    rw [List.getElem?_replicate, if_pos hi] at hx
    cases hx
    exact ⟨cs[i]'(by omega), by simp, trivial⟩

/-- Functions without a Go body that are known. -/
inductive ExtK where
  | count
  | indexByte
  | same
  | noZero (e : TypeId)

def ExtOk (P : Program) (f : FuncId) (k : ExtK) : Prop := ∃ fn, P.funcs[f]? = some fn ∧ (fn.name == "runtime.NumGoroutine") = false ∧ fn.body.isNone = true ∧ Extern.findNext fn = none ∧ (match k with
  | .count => Extern.find fn = some Extern.BytealgCount.count
  | .indexByte => Extern.find fn = some Extern.BytealgIndexByte.indexByte
  | .same => Extern.find fn = some Extern.AbiNoEscape.same
  | .noZero e => ∃ ps t, Extern.find fn = some (Extern.BytealgMakeNoZero.makeNoZero ps #[t]) ∧ P.underlying t = some (.slice e))

def extAt : List (FuncId × ExtK) → FuncId → Option ExtK
  | [], _ => none
  | p :: r, f => match f == p.1 with
    | true => some p.2
    | false => extAt r f

/-- Who answers where there is no Go body. -/
def extT (tb : List (FuncId × ExtK)) : Ora := fun f xs st => match extAt tb f with
  | some .count => (match xs with
    | [.str s, .int .u8 c] => some (.int .i64 (Lib.countByte s c.toNat.toUInt8 : Nat), st)
    | _ => none)
  | some .indexByte => (match xs with
    | [.str s, .int .u8 c] => some (.int .i64 (Lib.indexByte s c.toNat.toUInt8), st)
    | _ => none)
  | some .same => (match xs with
    | [x] => some (x, st)
    | _ => none)
  | some (.noZero e) => (match xs with
    | [.int .i64 (.ofNat n)] => (match Nat.ble n (2 ^ 47) with
      | true => some (.sl st.length 0 n (.rest 1), st ++ [.cells (.bt e) (List.replicate n .junk)])
      | false => none)
    | _ => none)
  | none => none

theorem extAt_mem : ∀ {tb : List (FuncId × ExtK)} {f : FuncId} {k : ExtK}, extAt tb f = some k → (f, k) ∈ tb
  | [], _, _, h => by simp [extAt] at h
  | p :: r, f, k, h => by
    unfold extAt at h
    split at h
    · rename_i e
      cases h
      have : f = p.1 := by simpa using e
      rw [this]; exact List.mem_cons_self
    · exact List.mem_cons_of_mem _ (extAt_mem h)

theorem extT_ok {P : Program} {tb : List (FuncId × ExtK)} (h : ∀ p ∈ tb, ExtOk P p.1 p.2) : OraOk P (extT tb) := by
  intro f xs st v st' h1 K hK
  unfold extT at h1
  split at h1
  · rename_i e
    obtain ⟨fn, c1, c2, c3, c4, c5⟩ := h _ (extAt_mem e)
    split at h1
    · cases h1; exact count_call c1 c2 c3 c4 c5 hK
    · cases h1
  · rename_i e
    obtain ⟨fn, c1, c2, c3, c4, c5⟩ := h _ (extAt_mem e)
    split at h1
    · cases h1; exact indexByte_call c1 c2 c3 c4 c5 hK
    · cases h1
  · rename_i e
    obtain ⟨fn, c1, c2, c3, c4, c5⟩ := h _ (extAt_mem e)
    split at h1
    · cases h1; exact same_call c1 c2 c3 c4 c5 hK
    · cases h1
  · rename_i el e
    obtain ⟨fn, c1, c2, c3, c4, ps, t, c5, c6⟩ := h _ (extAt_mem e)
    split at h1
    · split at h1
      · rename_i hb
        cases h1
        exact noZero_call c1 c2 c3 c4 c5 c6 (Nat.le_of_ble_eq_true hb) hK
      · cases h1
    · cases h1
  · cases h1

theorem lrunX_forget {P : Program} (hm : P.follows .mixedOrders = true) {X : Ora} (hX : OraOk P X) {m n : Nat} {f : FuncId} {xs : List LV} {st : LState} {v : LV} {R : LV → LState → Prop} (h : (lrunX P X m n f xs []).map (·.1) = some v) (hx : LV.plains xs = true) (hv : v.plain = true)
    (hR : R v st) : LCalls P f xs st R := by
  simp only [Option.map_eq_some_iff] at h
  obtain ⟨⟨r, s⟩, h1, h2⟩ := h
  simp only at h2
  subst h2
  exact LCalls.forget (lrunX_ok hm hX n _ _ _ _ _ h1 _ rfl) hx hv hR

end Go.CP
