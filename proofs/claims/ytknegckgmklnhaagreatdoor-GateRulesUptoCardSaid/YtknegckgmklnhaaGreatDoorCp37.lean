/- The clean machine, part 37: deferred calls: what a frame leaves to be done at its end. -/
import Derived.Test.YtknegckgmklnhaaGreatDoorCp33
import Derived.Defers
import Derived.Recover
namespace Go.CP

/-- A deferred call: its function, with what. -/
abbrev LDef := FuncId × List LV

def DRel (P : Program) (β : Lay) (d : LDef) (dv : Deferred) : Prop :=
  ∃ fv cap vs, dv.target = .fn fv cap ∧ (∀ w, (invoke dv.target dv.args).run P w = .ok (.enter d.1 ⟨vs⟩) w) ∧ Rps β d.2 vs
def DRels (P : Program) (β : Lay) : List LDef → List Deferred → Prop
  | [], D => D = []
  | d :: r, D => ∃ dv D', D = dv :: D' ∧ DRel P β d dv ∧ DRels P β r D'

theorem DRel.mono {P : Program} {β β' : Lay} (hl : β.le β') {d : LDef} {dv : Deferred} (h : DRel P β d dv) : DRel P β' d dv :=
  let ⟨fv, cap, vs, h1, h2, h3⟩ := h; ⟨fv, cap, vs, h1, h2, h3.mono hl⟩
theorem DRels.mono {P : Program} {β β' : Lay} (hl : β.le β') : ∀ {ds : List LDef} {D : List Deferred}, DRels P β ds D → DRels P β' ds D
  | [], _, h => h
  | _ :: _, _, ⟨dv, D', e, h1, h2⟩ => ⟨dv, D', e, h1.mono hl, h2.mono hl⟩

/-- A deferred call, made while its frame returns. -/
def LCallsD (P : Program) (f : FuncId) (xs : List LV) (st : LState) (K : LState → Prop) : Prop :=
  ∀ w0 β w vs, Rel w0 β st w → Rps β xs vs → CallsD P f ⟨vs⟩ .returning w fun e u' w' => u' = .returning ∧ ∃ β' st' v, e = .returned v ∧ K st' ∧ Rel w0 β' st' w' ∧ β.le β'

/-- The deferred calls, the last one laid first. -/
def lleave (P : Program) : List LDef → LState → (LState → Prop) → Prop
  | [], st, K => K st
  | d :: r, st, K => LCallsD P d.1 d.2 st fun st' => lleave P r st' K

/-- How a frame ends, by its kind. -/
def leavesAs (P : Program) (κ : CallKind) (fr : Frame) (w : World) (e : Ending) : Prop := match κ with
  | .deferred => fr.kind = .deferred ∧ fr.going P w e
  | _ => fr.leaving P w e

def callersOk (κ : CallKind) (cs : List Frame) : Prop := match κ with
  | .deferred => ∃ c cs', cs = c :: cs' ∧ c.mode = .returning
  | _ => True

/-- A function of these results, of this kind of call; what is left of it to do, what was deferred, and R of its answer. -/
def LTg (P : Program) (κ : CallKind) (rs : List ResultVar) (k : List Item) (ds : List LDef) (R : LV → LState → Prop) (t : List LV) (st : LState) : Prop :=
  ∀ w0 β w a fn, Rel w0 β st w → Rps β t a.tmps.toList → DRels P β ds a.defers → fn.results.toList = rs → ∀ (b : Frame) (cs : List Frame), P.funcs[b.fn]? = some fn → b.kind = κ → callersOk κ cs →
    ∃ e w' fr, Back w0 R β e w' ∧ Comes P (lone (b.at a k) cs w) (lone fr cs w') e ∧ fr.fn = b.fn ∧ leavesAs P κ fr w' e

section
variable {P : Program} {κ : CallKind} {rs : List ResultVar} {R : LV → LState → Prop}

theorem LTg.move {k k' : List Item} {ds : List LDef} {t : List LV} {st : LState} (hs : ∀ (b : Frame) (a : Act) (cs : List Frame) (w : World), step P (lone (b.at a k) cs w) = .next (lone (b.at a k') cs w))
    (h : LTg P κ rs k' ds R t st) : LTg P κ rs k ds R t st :=
  fun w0 β w a fn h1 h2 h3 h4 b cs hf hk hc =>
    let ⟨e, w', fr, h5, h6, h7, h8⟩ := h w0 β w a fn h1 h2 h3 h4 b cs hf hk hc
    ⟨e, w', fr, h5, .of_steps (.one (hs b a cs w)) h6, h7, h8⟩

theorem LTg.cond {c : Operand} {x y : Code} {k : List Item} {ds : List LDef} {t : List LV} {st : LState} {b0 : Bool} (hv : ev t c = some (.bool b0)) (h : LTg P κ rs (.code (if b0 then x else y) :: k) ds R t st) :
    LTg P κ rs (.code (.cond c x y) :: k) ds R t st := by
  intro w0 β w a fn h1 h2 h3 h4 b cs hf hk hc
  have hr := ev_sound h2 hv
  simp only [Rp] at hr
  obtain ⟨e, w', fr, h5, h6, h7, h8⟩ := h w0 β w a fn h1 h2 h3 h4 b cs hf hk hc
  exact ⟨e, w', fr, h5, .of_steps (.one (step_cond hr)) h6, h7, h8⟩

/-- A piece of code that defers nothing, and what comes behind it. -/
theorem LTg.code {c : Code} {k : List Item} {ds : List LDef} {t : List LV} {st : LState}
    (h : ∀ (w0 : World) (β : Lay) (w : World) (a : Act), Rel w0 β st w → Rps β t a.tmps.toList →
      c.wp P (fun e a' w' => e = .normal ∧ ∃ β' t' st', LTg P κ rs k ds R t' st' ∧ Rel w0 β' st' w' ∧ Rps β' t' a'.tmps.toList ∧ a'.defers = a.defers ∧ β.le β') a w) : LTg P κ rs (.code c :: k) ds R t st := by
  intro w0 β w a fn h1 h2 h3 h4 b cs hf hk hc
  obtain ⟨e, a', w', ⟨he, β', t', st', k1, k2, k3, k4, k5⟩, harr⟩ := h w0 β w a h1 h2 b k cs
  subst he
  obtain ⟨e, w'', fr, h5, h6, h7, h8⟩ := k1 w0 β' w' a' fn k2 k3 (by rw [k4]; exact h3.mono k5) h4 b cs hf hk hc
  exact ⟨e, w'', fr, h5.le k5, .of_steps harr h6, h7, h8⟩

/-- A piece of code that defers one call more. -/
theorem LTg.codeD {c : Code} {k : List Item} {ds : List LDef} {t : List LV} {st : LState}
    (h : ∀ (w0 : World) (β : Lay) (w : World) (a : Act), Rel w0 β st w → Rps β t a.tmps.toList →
      c.wp P (fun e a' w' => e = .normal ∧ ∃ β' t' st' d dv, LTg P κ rs k (d :: ds) R t' st' ∧ Rel w0 β' st' w' ∧ Rps β' t' a'.tmps.toList ∧ a'.defers = dv :: a.defers ∧ DRel P β' d dv ∧ β.le β') a w) : LTg P κ rs (.code c :: k) ds R t st := by
  intro w0 β w a fn h1 h2 h3 h4 b cs hf hk hc
  obtain ⟨e, a', w', ⟨he, β', t', st', d, dv, k1, k2, k3, k4, kd, k5⟩, harr⟩ := h w0 β w a h1 h2 b k cs
  subst he
  obtain ⟨e, w'', fr, h5, h6, h7, h8⟩ := k1 w0 β' w' a' fn k2 k3 (by rw [k4]; exact ⟨dv, _, rfl, kd, h3.mono k5⟩) h4 b cs hf hk hc
  exact ⟨e, w'', fr, h5.le k5, .of_steps harr h6, h7, h8⟩

/-- 'recover()' where nobody panics: nil. -/
theorem step_recover {b : Frame} {a : Act} {k : List Item} {c : Frame} {cs : List Frame} {w : World} {ops : Array Oper} {i : Nat} {rest : List Nat} {o : Oper} {cl : Call} (hb : b.kind = .deferred) (hc : c.mode = .returning) (ho : ops[i]? = some o) (hg : o.guard = none)
    (hop : o.op = .call cl) (hcl : cl.callee = .builtin .recover) :
    step P (lone (b.at a (.inRegion ops (i :: rest) :: k)) (c :: cs) w) = .next (lone (b.at (a.put o.dst .nilIface) (.inRegion ops rest :: k)) (c :: cs) w) := by
  have hw : Region.wanted o (yielded ops a.tmps) = true := by simp [Region.wanted, hg]
  have hgo := stepG_op (P := P) (b := b) (k := k) (cs := c :: cs) (w := w) (rest := rest) ho hw
  have hfin : ∀ v, (b.at a (.inRegion ops (i :: rest) :: k)).finish v = b.at (a.put o.dst v) (.inRegion ops rest :: k) := by
    intro v; rw [Frame.finish_at, ho]; rfl
  have hr : (execOp a.eval o).run P w = .ok .recover w := by
    obtain ⟨bs, hcs⟩ := run_builtin (P := P) (w := w) (ρ := a.eval) hop hcl
    rw [hcs]
    rfl
  have hk : (b.at a (.inRegion ops (i :: rest) :: k)).kind = .deferred := hb
  have htr := tryRecover_deferred hk (c :: cs)
  have hrec : recoverD (c :: cs) = none := by simp [recoverD, hc]
  refine step_lone_go ?_
  rw [hgo, ← hfin]
  simp only [Frame.at] at htr ⊢
  simp [stepG.apply, hr, htr, hrec]

/-- A region that asks first whether someone panics. -/
theorem LTg.recover {id : Nat} {ops : Array Oper} {o : Oper} {cl : Call} {m : Nat} {k : List Item} {ds : List LDef} {t : List LV} {st : LState} (hm : ops.size = m + 1) (ho : ops[0]? = some o) (hg : o.guard = none) (hop : o.op = .call cl)
    (hcl : cl.callee = .builtin .recover) (h : levOps P ops (List.range' 1 m) (fun t st => LTg P .deferred rs k ds R t st) (lput t o.dst .nili) st) : LTg P .deferred rs (.code (.region id ops false) :: k) ds R t st := by
  intro w0 β w a fn h1 h2 h3 h4 b cs hf hk hc
  obtain ⟨c, cs', rfl, hcm⟩ := hc
  have s1 := step_region (P := P) (b := b) (a := a) (k := k) (cs := c :: cs') (w := w) (id := id) (ops := ops)
  rw [hm, List.range_eq_range', List.range'_succ] at s1
  have s2 := step_recover (P := P) (b := b) (a := a) (k := k) (cs := cs') (w := w) (rest := List.range' (0 + 1) m) hk hcm ho hg hop hcl
  have hput : Rps β (lput t o.dst .nili) (a.put o.dst .nilIface).tmps.toList := put_rel h2 rfl
  have hops := levOps_sound (dl := a.defers) (Q := fun e a' w' => e = .normal ∧ ∃ β' t' st', LTg P .deferred rs k ds R t' st' ∧ Rel w0 β' st' w' ∧ Rps β' t' a'.tmps.toList ∧ a'.defers = a.defers ∧ β.le β') h1 hput (put_defers' ..) h
    fun β' t' st' a' w' k1 k2 k3 k4 k5 => ⟨rfl, β', t', st', k1, k2, k3, k4, k5⟩
  obtain ⟨e, a', w', ⟨he, β', t', st', k1, k2, k3, k4, k5⟩, harr⟩ := wp_ops _ _ _ hops b k (c :: cs')
  subst he
  obtain ⟨e, w'', fr, h5, h6, h7, h8⟩ := k1 w0 β' w' a' fn k2 k3 (by rw [k4]; exact h3.mono k5) h4 b (c :: cs') hf hk ⟨c, cs', rfl, hcm⟩
  exact ⟨e, w'', fr, h5.le k5, .of_steps (.head s1 (.head s2 harr)) h6, h7, h8⟩

/-- The deferred calls, and the answer. -/
theorem leaves_of {fn : Func} {t : List LV} {tmps : Array Value} {w0 : World} {β0 : Lay} (hrs : fn.results.toList = rs) : ∀ {ds : List LDef} {D : List Deferred} {st : LState} {β : Lay} {w : World},
    Rel w0 β st w → Rps β t tmps.toList → DRels P β ds D → β0.le β → lleave P ds st (fun st' => lend P rs R t st') → Leaves P fn tmps (Back w0 R β0) D .returning w
  | [], D, st, β, w, h1, h2, h3, hl, h => by
    simp only [DRels] at h3
    subst h3
    simp only [lleave, lend] at h
    obtain ⟨vs, hvs, h⟩ := lendK_spec h
    rw [← hrs] at hvs
    obtain ⟨u, h5, h6⟩ := results_sound h1 h2 hvs
    exact ⟨u, h5, β, _, st, u, h, rfl, h6, h1, hl⟩
  | d :: r, D, st, β, w, h1, h2, h3, hl, h => by
    obtain ⟨dv, D', rfl, ⟨fv, cap, vs, e1, e2, e3⟩, h4⟩ := h3
    simp only [lleave] at h
    refine ⟨by simp, fv, cap, d.1, ⟨vs⟩, e1, e2 w, (h w0 β w vs h1 e3).mono ?_⟩
    rintro e u' w' ⟨rfl, β', st', v, rfl, k1, k2, k3⟩
    exact leaves_of hrs k2 (h2.mono k3) (h4.mono k3) (hl.trans k3) k1

theorem LTg.finish {k : List Item} {ds : List LDef} {t : List LV} {st : LState} (hs : ∀ (b : Frame) (a : Act) (cs : List Frame) (w : World), step P (lone (b.at a k) cs w) = .next (lone { b.at a k with mode := .returning } cs w))
    (h : lleave P ds st fun st' => lend P rs R t st') : LTg P .normal rs k ds R t st := by
  intro w0 β w a fn h1 h2 h3 h4 b cs hf hk _
  have hL := leaves_of (fn := fn) h4 h1 h2 h3 (Lay.le.refl _) h
  obtain ⟨e', w'', fr', hR, hst, hfn, hl⟩ := leaves_steps a.defers .returning w { b.at a k with mode := .returning } cs rfl rfl rfl hf hk hL
  exact ⟨e', w'', fr', hR, Comes.of_steps (.one (hs b a cs w)) hst, hfn, hl⟩

theorem LTg.finishD {k : List Item} {t : List LV} {st : LState} (hs : ∀ (b : Frame) (a : Act) (cs : List Frame) (w : World), step P (lone (b.at a k) cs w) = .next (lone { b.at a k with mode := .returning } cs w))
    (h : lend P rs R t st) : LTg P .deferred rs k [] R t st := by
  intro w0 β w a fn h1 h2 h3 h4 b cs hf hk _
  unfold lend at h
  obtain ⟨vs, hvs, h⟩ := lendK_spec h
  rw [← h4] at hvs
  obtain ⟨u, h5, h6⟩ := results_sound h1 h2 hvs
  exact ⟨.returned u, w, { b.at a k with mode := .returning }, ⟨β, _, st, u, h, rfl, h6, h1, Lay.le.refl _⟩, .one (hs b a cs w), rfl, hk, rfl, h3, fn, hf, h5⟩

/-- A call, by its body. -/
theorem LCalls.ofG {f : FuncId} {fn : Func} {c : Code} {xs : List LV} {st : LState}
    (hf : P.funcs[f]? = some fn) (hb : fn.body = some c) (hn : (fn.name == "runtime.NumGoroutine") = false) (hrs : fn.results.toList = rs)
    (h : LTg P .normal rs [.code c] [] R (xs ++ List.replicate (fn.ntmps - xs.length) lundef) st) : LCalls P f xs st R := by
  refine .inl ⟨⟨fn, c, hf, hb, hn⟩, fun w0 β w vs h1 h2 cs => ?_⟩
  let b : Frame := { (default : Frame) with fn := f, kind := .normal }
  have henter : Frame.enter P f ⟨vs⟩ .normal = b.at { tmps := (⟨vs⟩ : Array Value) ++ Array.replicate (fn.ntmps - vs.length) undef, defers := [] } [.code c] := by
    simp [Frame.enter, Frame.at, hf, hb, b]
  rw [henter]
  have htm : Rps β (xs ++ List.replicate (fn.ntmps - xs.length) lundef) ((⟨vs⟩ : Array Value) ++ Array.replicate (fn.ntmps - vs.length) undef).toList := by
    rw [show ((⟨vs⟩ : Array Value) ++ Array.replicate (fn.ntmps - vs.length) undef).toList = vs ++ List.replicate (fn.ntmps - xs.length) undef by simp [h2.length]]
    exact h2.append (Rps.replicate Rp.undef _)
  obtain ⟨e, w', fr, h5, h6, h7, h8⟩ := h w0 β w { tmps := (⟨vs⟩ : Array Value) ++ Array.replicate (fn.ntmps - vs.length) undef, defers := [] } fn h1 htm rfl hrs b cs hf rfl trivial
  exact ⟨e, w', fr, h5, h6, h7, h8⟩

/-- A deferred call, by its body. -/
theorem LCallsD.ofG {f : FuncId} {fn : Func} {c : Code} {xs : List LV} {st : LState} {K : LState → Prop}
    (hf : P.funcs[f]? = some fn) (hb : fn.body = some c) (hrs : fn.results.toList = rs)
    (h : LTg P .deferred rs [.code c] [] (fun _ st' => K st') (xs ++ List.replicate (fn.ntmps - xs.length) lundef) st) : LCallsD P f xs st K := by
  intro w0 β w vs h1 h2 c0 cs hu
  let b : Frame := { (default : Frame) with fn := f, kind := .deferred }
  have henter : Frame.enter P f ⟨vs⟩ .deferred = b.at { tmps := (⟨vs⟩ : Array Value) ++ Array.replicate (fn.ntmps - vs.length) undef, defers := [] } [.code c] := by
    simp [Frame.enter, Frame.at, hf, hb, b]
  have htm : Rps β (xs ++ List.replicate (fn.ntmps - xs.length) lundef) ((⟨vs⟩ : Array Value) ++ Array.replicate (fn.ntmps - vs.length) undef).toList := by
    rw [show ((⟨vs⟩ : Array Value) ++ Array.replicate (fn.ntmps - vs.length) undef).toList = vs ++ List.replicate (fn.ntmps - xs.length) undef by simp [h2.length]]
    exact h2.append (Rps.replicate Rp.undef _)
  have hc : ({ c0 with mode := .returning } : Frame) = c0 := by rw [← hu]
  obtain ⟨e, w', fr, ⟨β', r, st', v, k1, k2, k3, k4, k5⟩, h6, h7, h8, h9⟩ := h w0 β w { tmps := (⟨vs⟩ : Array Value) ++ Array.replicate (fn.ntmps - vs.length) undef, defers := [] } fn h1 htm rfl hrs b (c0 :: cs) hf rfl ⟨c0, cs, rfl, hu⟩
  refine ⟨e, .returning, w', fr, ⟨rfl, β', st', v, k2, k1, k4, k5⟩, ?_, h8, h9⟩
  rw [henter, hc]
  exact h6

end
end Go.CP

