/- The clean machine, part 23: code, loops, calls. -/
/- The clean machine, part 24: a function's run from any of its points to its end. -/
import Derived.Test.YtknegckgmklnhaaGreatDoorCp22
namespace Go.CP

def LX.then (x : LX) (next q : Prop) : Prop := match x with
  | .normal => next
  | _ => q

def LX.inBlock (x : LX) (id : Nat) (next q : Prop) : Prop := match x with
  | .exit i => cond (i == id) next q
  | _ => q

/-- Code over logical values: what must hold ahead of it for Q to hold behind it. -/
def lev (P : Program) : Code → (LX → List LV → LState → Prop) → List LV → LState → Prop
  | .skip, Q, t, st => Q .normal t st
  | .label _, Q, t, st => Q .normal t st
  | .region _ ops draw, Q, t, st => match draw with
    | false => levOps P ops (List.range ops.size) (Q .normal) t st
    | true => match drawOk ops (Region.before ops) with
      | true => levDraw P ops (Region.before ops) (rowsOf P ops) (Q .normal) ops.size 0 [] t st
      | false => False
  | .seq a b, Q, t, st => lev P a (fun x t st => x.then (lev P b Q t st) (Q x t st)) t st
  | .cond c a b, Q, t, st => bd (ev t c) fun v => bsel v (lev P a Q t st) (lev P b Q t st)
  | .block id c, Q, t, st => lev P c (fun x t st => x.inBlock id (Q .normal t st) (Q x t st)) t st
  | .loop c, Q, t, st => LLoop P c Q t st
  | .exit id, Q, t, st => Q (.exit id) t st
  | .ret, Q, t, st => Q .ret t st
  | _, _, _, _ => False

section
variable {P : Program}

theorem Post.mono {w0 : World} {Q Q' : LX → List LV → LState → Prop} {β : Lay} {e : Exit} {a : Act} {w : World} (h : Post w0 Q β e a w) (hq : ∀ x t st, Q x t st → Q' x t st) : Post w0 Q' β e a w :=
  let ⟨β', x, t, st, h1, h2⟩ := h; ⟨β', x, t, st, hq _ _ _ h1, h2⟩

theorem Post.le {w0 : World} {Q : LX → List LV → LState → Prop} {β β' : Lay} {e : Exit} {a : Act} {w : World} (h : Post w0 Q β' e a w) (hl : β.le β') : Post w0 Q β e a w :=
  let ⟨β'', x, t, st, h1, h2, h3, h4, h5, h6⟩ := h; ⟨β'', x, t, st, h1, h2, h3, h4, h5, hl.trans h6⟩

theorem LW.mono {c : Code} {Q Q' : LX → List LV → LState → Prop} {t : List LV} {st : LState} (h : LW P c Q t st) (hq : ∀ x t st, Q x t st → Q' x t st) : LW P c Q' t st :=
  fun w0 β w a h1 h2 h3 => wp_mono (h w0 β w a h1 h2 h3) fun _ _ _ hp => hp.mono hq

theorem LLoop.mono {c : Code} {Q Q' : LX → List LV → LState → Prop} {t : List LV} {st : LState} (h : LLoop P c Q t st) (hq : ∀ x t st, Q x t st → Q' x t st) : LLoop P c Q' t st :=
  fun w0 β w a h1 h2 h3 b k cs => let ⟨e, a', w', hp, harr⟩ := h w0 β w a h1 h2 h3 b k cs; ⟨e, a', w', hp.mono hq, harr⟩

theorem LCalls.mono {f : FuncId} {xs : List LV} {st : LState} {R R' : LV → LState → Prop} (h : LCalls P f xs st R) (hr : ∀ v st, R v st → R' v st) : LCalls P f xs st R' := by
  rcases h with h | h
  · exact .inl ⟨h.1, fun w0 β w vs h1 h2 => (h.2 w0 β w vs h1 h2).mono fun _ _ ⟨β', r, st', v, h3, h4⟩ => ⟨β', r, st', v, hr _ _ h3, h4⟩⟩
  · exact .inr fun w0 β w vs h1 h2 => let ⟨u, w', h3, β', r, st', h4, h5⟩ := h w0 β w vs h1 h2; ⟨u, w', h3, β', r, st', hr _ _ h4, h5⟩

/-- Behind code, in the model. -/
theorem wp_of_LW {c : Code} {Q : LX → List LV → LState → Prop} {t : List LV} {st : LState} {w0 : World} {β : Lay} {w : World} {a : Act} {R : Exit → Act → World → Prop} (h : LW P c Q t st)
    (h1 : Rel w0 β st w) (h2 : Rps β t a.tmps.toList) (h3 : a.defers = [])
    (hq : ∀ β' x t' st' e a' w', Q x t' st' → XRel x e → Rps β' t' a'.tmps.toList → a'.defers = [] → Rel w0 β' st' w' → β.le β' → R e a' w') : c.wp P R a w :=
  wp_mono (h w0 β w a h1 h2 h3) fun e a' w' ⟨β', x, t', st', k1, k2, k3, k4, k5, k6⟩ => hq β' x t' st' e a' w' k1 k2 k3 k4 k5 k6

theorem LW_loop {c : Code} {Q : LX → List LV → LState → Prop} {t : List LV} {st : LState} (h : LLoop P c Q t st) : LW P (.loop c) Q t st := by
  intro w0 β w a h1 h2 h3 b k cs
  obtain ⟨e, a', w', hp, harr⟩ := h w0 β w a h1 h2 h3 b k cs
  exact ⟨e, a', w', hp, .of_steps (.one step_loop) harr⟩

/-- One round of a loop, and the loop again. -/
theorem LLoop.unroll {c : Code} {Q : LX → List LV → LState → Prop} {t : List LV} {st : LState}
    (h : LW P c (fun x t st => x.then (LLoop P c Q t st) (Q x t st)) t st) : LLoop P c Q t st := by
  intro w0 β w a h1 h2 h3 b k cs
  obtain ⟨e, a', w', hp, harr⟩ := h w0 β w a h1 h2 h3 b (.inLoop c :: k) cs
  obtain ⟨β', x, t', st', k1, k2, k3, k4, k5, k6⟩ := hp
  cases x with
  | normal =>
    cases e <;> simp only [XRel] at k2
    obtain ⟨e2, a2, w2, hp2, harr2⟩ := k1 w0 β' w' a' k5 k3 k4 b k cs
    exact ⟨e2, a2, w2, hp2.le k6, .of_steps (Steps.trans harr (.one step_inLoop)) harr2⟩
  | exit i =>
    cases e <;> simp only [XRel] at k2
    exact ⟨Exit.exit _, a', w', ⟨β', .exit i, t', st', k1, k2, k3, k4, k5, k6⟩, .pass (x := .inLoop c) rfl (fun _ _ => .inl (by simp)) harr⟩
  | ret =>
    cases e <;> simp only [XRel] at k2
    exact ⟨Exit.ret, a', w', ⟨β', .ret, t', st', k1, trivial, k3, k4, k5, k6⟩, .pass (x := .inLoop c) rfl (fun _ _ => .inl (by simp)) harr⟩

theorem lev_sound : ∀ {c : Code} {Q : LX → List LV → LState → Prop} {t : List LV} {st : LState}, P.follows .mixedOrders = true → lev P c Q t st → LW P c Q t st
  | .skip, Q, t, st, _, h => fun w0 β w a h1 h2 h3 => wp_skip ⟨β, .normal, t, st, h, trivial, h2, h3, h1, Lay.le.refl _⟩
  | .label _, Q, t, st, _, h => fun w0 β w a h1 h2 h3 => wp_label ⟨β, .normal, t, st, h, trivial, h2, h3, h1, Lay.le.refl _⟩
  | .exit id, Q, t, st, _, h => fun w0 β w a h1 h2 h3 => wp_exit ⟨β, .exit id, t, st, h, rfl, h2, h3, h1, Lay.le.refl _⟩
  | .ret, Q, t, st, _, h => fun w0 β w a h1 h2 h3 => wp_ret ⟨β, .ret, t, st, h, trivial, h2, h3, h1, Lay.le.refl _⟩
  | .region id ops false, Q, t, st, _, h => fun w0 β w a h1 h2 h3 =>
    wp_region (levOps_sound h1 h2 h3 h fun β' t' st' a' w' k1 k2 k3 k4 k5 => ⟨β', .normal, t', st', k1, trivial, k3, k4, k2, k5⟩)
  | .region id ops true, Q, t, st, hm, h => fun w0 β w a h1 h2 h3 => by
    simp only [lev] at h
    split at h
    · rename_i hok
      refine wp_region_any hm (draw_any (ok_of hok) ops.size (T0 := t) (T := t) (TD := t) (D := Array.replicate ops.size false) (m := 0) (pend := []) (n := ops.size) (β := β) ?_ h (h1.draws (Nat.le_succ _)) h2 h3 ?_ ?_)
      · have hn : ∀ i, ¬ In (Array.replicate ops.size false) i := by
          intro i hi
          unfold In at hi
          simp [Array.getElem?_replicate] at hi
          split at hi <;> simp at hi
        have he : maskArr ops.size 0 = Array.replicate ops.size false := by apply Array.ext <;> simp [maskArr]
        rw [he]
        have hc : Closed ops (Array.replicate ops.size false) := ⟨by simp, fun i o hi => absurd hi (hn i)⟩
        have ha : Agr ops t t (Array.replicate ops.size false) t := ⟨rfl, fun i o d hi => absurd hi (hn i), fun _ _ => rfl⟩
        exact ⟨hc, hc, fun i hi => hi, ha, ha, fun i o hi => absurd hi (hn i), fun j o hj => absurd hj (hn j)⟩
      · unfold todo
        exact Nat.le_trans (List.length_filter_le _ _) (by simp)
      · intro β' t' st' a' w' k1 k2 k3 k4 k5
        exact ⟨β', .normal, t', st', k1, trivial, k3, k4, k2, k5⟩
    · exact h.elim
  | .seq x y, Q, t, st, hm, h => fun w0 β w a h1 h2 h3 => by
    simp only [lev] at h
    refine wp_seq (wp_of_LW (lev_sound hm h) h1 h2 h3 ?_)
    intro β' x t' st' e a' w' k1 k2 k3 k4 k5 k6
    cases x with
    | normal =>
      cases e <;> simp only [XRel] at k2
      exact wp_mono (lev_sound hm k1 w0 β' w' a' k5 k3 k4) fun _ _ _ hp => hp.le k6
    | exit i =>
      cases e <;> simp only [XRel] at k2
      exact ⟨β', .exit i, t', st', k1, k2, k3, k4, k5, k6⟩
    | ret =>
      cases e <;> simp only [XRel] at k2
      exact ⟨β', .ret, t', st', k1, trivial, k3, k4, k5, k6⟩
  | .cond c x y, Q, t, st, hm, h => fun w0 β w a h1 h2 h3 => by
    simp only [lev] at h
    unfold bd at h
    split at h
    · rename_i v hv
      have hr := ev_sound h2 hv
      unfold bsel at h
      split at h
      · simp only [Rp] at hr
        exact wp_cond hr (lev_sound hm h w0 β w a h1 h2 h3)
      · simp only [Rp] at hr
        exact wp_cond hr (lev_sound hm h w0 β w a h1 h2 h3)
      · exact h.elim
    · exact h.elim
  | .block id c, Q, t, st, hm, h => fun w0 β w a h1 h2 h3 => by
    simp only [lev] at h
    refine wp_block (wp_of_LW (lev_sound hm h) h1 h2 h3 ?_)
    intro β' x t' st' e a' w' k1 k2 k3 k4 k5 k6
    cases x with
    | normal =>
      cases e <;> simp only [XRel] at k2
      exact ⟨β', .normal, t', st', k1, trivial, k3, k4, k5, k6⟩
    | exit i =>
      cases e <;> simp only [XRel] at k2
      subst k2
      simp only [LX.inBlock] at k1
      simp only [Exit.inBlock]
      by_cases hi : i = id
      · subst hi
        simp only [beq_self_eq_true, cond_true] at k1
        rw [if_pos rfl]
        exact ⟨β', .normal, t', st', k1, trivial, k3, k4, k5, k6⟩
      · have : (i == id) = false := by simpa using hi
        simp only [this, cond_false] at k1
        rw [if_neg hi]
        exact ⟨β', .exit i, t', st', k1, rfl, k3, k4, k5, k6⟩
    | ret =>
      cases e <;> simp only [XRel] at k2
      exact ⟨β', .ret, t', st', k1, trivial, k3, k4, k5, k6⟩
  | .loop c, Q, t, st, _, h => LW_loop h
  | .rangeFunc .., _, _, _, _, h => h.elim
  | .scope _, _, _, _, _, h => h.elim
  | .goto _, _, _, _, _, h => h.elim
  | .refuse _, _, _, _, _, h => h.elim

/-- A loop: one round walked, and the loop again. -/
theorem loop_step {c : Code} {Q : LX → List LV → LState → Prop} {t : List LV} {st : LState} (hm : P.follows .mixedOrders = true)
    (h : lev P c (fun x t st => x.then (LLoop P c Q t st) (Q x t st)) t st) : LLoop P c Q t st := LLoop.unroll (lev_sound hm h)

/-! ### calls -/

def lres1 (P : Program) (t : List LV) (st : LState) : ResultVar → Option LV
  | .tmp i => some (t.getD i lundef)
  | .cell a ty => lload P st ty (t.getD a lundef)

def lresL (P : Program) (t : List LV) (st : LState) : List ResultVar → Option (List LV)
  | [] => some []
  | r :: rs => match lres1 P t st r, lresL P t st rs with
    | some v, some vs => some (v :: vs)
    | _, _ => none

/-- The results, one by one. -/
def lendK (P : Program) (t : List LV) (st : LState) : List ResultVar → (List LV → Prop) → Prop
  | [], K => K []
  | .tmp i :: rs, K => lendK P t st rs fun vs => K (t.getD i lundef :: vs)
  | .cell a ty :: rs, K => bd (lload P st ty (t.getD a lundef)) fun v => lendK P t st rs fun vs => K (v :: vs)

theorem lendK_spec {t : List LV} {st : LState} : ∀ {rs : List ResultVar} {K : List LV → Prop}, lendK P t st rs K → ∃ vs, lresL P t st rs = some vs ∧ K vs
  | [], K, h => ⟨[], rfl, h⟩
  | .tmp i :: rs, K, h => by
    simp only [lendK] at h
    obtain ⟨vs, h1, h2⟩ := lendK_spec h
    exact ⟨_, by simp [lresL, lres1, h1], h2⟩
  | .cell a ty :: rs, K, h => by
    simp only [lendK] at h
    unfold bd at h
    split at h
    · rename_i v hv
      obtain ⟨vs, h1, h2⟩ := lendK_spec h
      exact ⟨_, by simp only [lresL, lres1, h1, hv], h2⟩
    · exact h.elim

def lwrap : List LV → LV
  | [v] => v
  | vs => .tup vs

/-- What a body leaves, as a call's answer. -/
def lfin (P : Program) (rs : List ResultVar) (R : LV → LState → Prop) (x : LX) (t : List LV) (st : LState) : Prop := match x with
  | .exit _ => False
  | .normal => bd (lresL P t st rs) fun vs => R (lwrap vs) st
  | .ret => bd (lresL P t st rs) fun vs => R (lwrap vs) st

theorem lresL_sound {w0 : World} {β : Lay} {st : LState} {w : World} {t : List LV} {tmps : Array Value} (h : Rel w0 β st w) (ht : Rps β t tmps.toList) : ∀ {rs : List ResultVar} {vs : List LV}, lresL P t st rs = some vs →
    ∃ us : List Value, (rs.mapM (fun
      | .tmp t => pure (tmps.getD t undef)
      | .cell a t => do loadVar t (← asAddr (tmps.getD a undef))) : Sem (List Value)).run P w = .ok us w ∧ Rps β vs us
  | [], vs, hl => by simp [lresL] at hl; subst hl; exact ⟨[], rfl, rfl⟩
  | r :: rs, vs, hl => by
    simp only [lresL] at hl
    split at hl
    · rename_i v vs' h1 h2
      simp at hl; subst hl
      obtain ⟨us, h3, h4⟩ := lresL_sound h ht h2
      have hg : ∀ i, Rp β (t.getD i lundef) (tmps.getD i undef) := by
        intro i
        have := ht.getD i
        simpa [Array.getD_eq_getD_getElem?, List.getD_eq_getElem?_getD] using this
      cases r with
      | tmp i =>
        simp [lres1] at h1; subst h1
        refine ⟨tmps.getD i undef :: us, ?_, _, _, rfl, by simpa using hg i, h4⟩
        simp only [List.mapM_cons, Sem.run_bind, Sem.run_pure, Result.andThen_ok, h3]
      | cell a ty =>
        simp only [lres1] at h1
        obtain ⟨u, h5, h6⟩ := load_sound (P := P) h (hg a) h1
        refine ⟨u :: us, ?_, _, _, rfl, h6, h4⟩
        unfold Instr.loadAt at h5
        -- the address is one
        have hp : ∃ x, tmps.getD a undef = .pointer (some x) := by
          have hga := hg a
          unfold lload at h1
          split at h1
          · split at h1
            · unfold ldA at h1
              split at h1
              · rename_i o k e; rw [e] at hga; obtain ⟨b, _, e2⟩ := hga; exact ⟨_, e2⟩
              · rename_i g k e; rw [e] at hga; exact ⟨_, hga⟩
              · rename_i cs k e; rw [e] at hga; obtain ⟨_, b, _, _, e2, _⟩ := hga; exact ⟨_, e2⟩
              · simp at h1
            · unfold ld1 at h1
              split at h1
              · rename_i o k e; rw [e] at hga; obtain ⟨b, _, e2⟩ := hga; exact ⟨_, e2⟩
              · rename_i g k e; rw [e] at hga; exact ⟨_, hga⟩
              · rename_i cs k e; rw [e] at hga; obtain ⟨_, b, _, _, e2, _⟩ := hga; exact ⟨_, e2⟩
              · simp at h1
          · simp at h1
        obtain ⟨x, hx⟩ := hp
        rw [hx] at h5
        simp only [Instr.sureAddr, Sem.run_bind, Sem.run_pure, Result.andThen_ok] at h5
        have hadd : asAddr (tmps.getD a undef) = pure x := by rw [hx]; rfl
        simp only [List.mapM_cons, Sem.run_bind, hadd, Sem.run_pure, Result.andThen_ok, h5, h3]
    · simp at hl

theorem results_sound {w0 : World} {β : Lay} {st : LState} {w : World} {t : List LV} {tmps : Array Value} {fn : Func} {vs : List LV} (h : Rel w0 β st w) (ht : Rps β t tmps.toList) (hl : lresL P t st fn.results.toList = some vs) :
    ∃ u, (results fn tmps).run P w = .ok u w ∧ Rp β (lwrap vs) u := by
  obtain ⟨us, h1, h2⟩ := lresL_sound h ht hl
  unfold results
  rw [Array.mapM_eq_mapM_toList]
  refine ⟨if h : (us.toArray).size = 1 then us.toArray[0] else .tuple us.toArray, ?_, ?_⟩
  · simp only [Sem.run_bind, Sem.run_map, Sem.run_pure]
    erw [h1]
    rfl
  · have hlen := h2.length
    match vs, us, h2, hlen with
    | [], [], _, _ => exact ⟨[], rfl, rfl⟩
    | [v], [u], ⟨_, _, e, r, _⟩, _ => simp only [List.cons.injEq] at e; obtain ⟨rfl, _⟩ := e; exact r
    | v :: v' :: vs, u :: u' :: us, h2, _ => exact ⟨_, by simp, h2⟩
    | [], _ :: _, _, hl => simp at hl
    | [_], [], _, hl => simp at hl
    | [_], _ :: _ :: _, _, hl => simp at hl
    | _ :: _ :: _, [], _, hl => simp at hl
    | _ :: _ :: _, [_], _, hl => simp at hl

/-- A call, by its body. -/
theorem lcalls_of {f : FuncId} {fn : Func} {c : Code} {xs : List LV} {st : LState} {R : LV → LState → Prop} (hm : P.follows .mixedOrders = true)
    (hf : P.funcs[f]? = some fn) (hb : fn.body = some c) (hn : (fn.name == "runtime.NumGoroutine") = false)
    (h : lev P c (lfin P fn.results.toList R) (xs ++ List.replicate (fn.ntmps - xs.length) lundef) st) : LCalls P f xs st R := by
  refine .inl ⟨⟨fn, c, hf, hb, hn⟩, fun w0 β w vs h1 h2 => calls_of_wp hf hb ?_⟩
  refine wp_of_LW (lev_sound hm h) h1 ?_ rfl ?_
  · rw [show ((⟨vs⟩ : Array Value) ++ Array.replicate (fn.ntmps - (⟨vs⟩ : Array Value).size) undef).toList = vs ++ List.replicate (fn.ntmps - xs.length) undef by simp [h2.length]]
    exact h2.append (Rps.replicate Rp.undef _)
  · intro β' x t' st' e a' w' k1 k2 k3 k4 k5 k6
    cases x with
    | exit i => exact k1.elim
    | normal =>
      cases e <;> simp only [XRel] at k2
      simp only [lfin] at k1
      unfold bd at k1
      split at k1
      · rename_i vs' hvs
        obtain ⟨u, h3, h4⟩ := results_sound k5 k3 hvs
        exact ⟨k4, u, h3, β', _, st', u, k1, rfl, h4, k5, k6⟩
      · exact k1.elim
    | ret =>
      cases e <;> simp only [XRel] at k2
      simp only [lfin] at k1
      unfold bd at k1
      split at k1
      · rename_i vs' hvs
        obtain ⟨u, h3, h4⟩ := results_sound k5 k3 hvs
        exact ⟨k4, u, h3, β', _, st', u, k1, rfl, h4, k5, k6⟩
      · exact k1.elim

end
end Go.CP

namespace Go.CP

/-- Names that nobody reads any more. -/
def junk (g : List Nat) (t : List LV) : List LV := g.foldl (fun t i => t.set i .junk) t

/-- A function of these results, what is left of it to do, and R of its answer. -/
def LT (P : Program) (rs : List ResultVar) (k : List Item) (R : LV → LState → Prop) (t : List LV) (st : LState) : Prop :=
  ∀ w0 β w a fn, Rel w0 β st w → Rps β t a.tmps.toList → a.defers = [] → fn.results.toList = rs → ∀ (b : Frame) (cs : List Frame), P.funcs[b.fn]? = some fn → b.kind = .normal →
    ∃ e w' fr, Back w0 R β e w' ∧ Comes P (lone (b.at a k) cs w) (lone fr cs w') e ∧ fr.fn = b.fn ∧ fr.leaving P w' e

/-- The end. -/
def lend (P : Program) (rs : List ResultVar) (R : LV → LState → Prop) (t : List LV) (st : LState) : Prop := lendK P t st rs fun vs => R (lwrap vs) st

/-- The walk: g: what is nobody's at a loop's head and at a cut; cuts: blocks behind which the walk stops. -/
def levT (P : Program) (rs : List ResultVar) (R : LV → LState → Prop) (g cuts : List Nat) : Nat → List Item → List LV → LState → Prop
  | 0, k, t, st => LT P rs k R t st
  | n + 1, k, t, st => match k with
    | [] => lend P rs R t st
    | .code .skip :: k => levT P rs R g cuts n k t st
    | .code (.label _) :: k => levT P rs R g cuts n k t st
    | .code (.seq a b) :: k => levT P rs R g cuts n (.code a :: .code b :: k) t st
    | .code (.cond c a b) :: k => bd (ev t c) fun v => bsel v (levT P rs R g cuts n (.code a :: k) t st) (levT P rs R g cuts n (.code b :: k) t st)
    | .code (.block id c) :: k => levT P rs R g cuts n (.code c :: .inBlock id :: k) t st
    | .code (.loop c) :: k => LT P rs (.inLoop c :: k) R (junk g t) st
    | .inLoop c :: k => LT P rs (.inLoop c :: k) R (junk g t) st
    | .inBlock id :: k => match cuts.contains id with
      | true => LT P rs k R (junk g t) st
      | false => levT P rs R g cuts n k t st
    | .inScope _ :: k => levT P rs R g cuts n k t st
    | .code (.exit id) :: k => match exitTo id k with
      | some k' => match cuts.contains id with
        | true => LT P rs k' R (junk g t) st
        | false => levT P rs R g cuts n k' t st
      | none => False
    | .code .ret :: _ => lend P rs R t st
    | .code (.region _ ops draw) :: k => match draw with
      | false => levOps P ops (List.range ops.size) (fun t st => levT P rs R g cuts n k t st) t st
      | true => match drawOk ops (Region.before ops) with
        | true => levDraw P ops (Region.before ops) (rowsOf P ops) (fun t st => levT P rs R g cuts n k t st) ops.size 0 [] t st
        | false => False
    | _ => False

section
variable {P : Program} {rs : List ResultVar} {R : LV → LState → Prop}

theorem junk_rel {β : Lay} : ∀ {g : List Nat} {t : List LV} {us : List Value}, Rps β t us → Rps β (junk g t) us
  | [], t, us, h => h
  | i :: g, t, us, h => by
    have h1 : Rps β (t.set i .junk) us := by
      apply Rps.of_get
      · rw [h.length]; simp
      · intro j x hx
        rw [List.getElem?_set] at hx
        split at hx
        · rename_i e; subst e
          split at hx
          · rename_i hlt
            simp at hx; subst hx
            exact ⟨us[i]'(by rw [h.length]; exact hlt), by simp [h.length, hlt], trivial⟩
          · simp at hx
        · exact h.get hx
    exact junk_rel (g := g) h1

/-- What nobody reads may be forgotten. -/
theorem LT.forget {k : List Item} {g : List Nat} {t : List LV} {st : LState} (h : LT P rs k R (junk g t) st) : LT P rs k R t st :=
  fun w0 β w a fn h1 h2 h3 h4 b cs hf hk => h w0 β w a fn h1 (junk_rel h2) h3 h4 b cs hf hk

theorem Back.le {w0 : World} {R : LV → LState → Prop} {β β' : Lay} {e : Ending} {w : World} (h : Back w0 R β' e w) (hl : β.le β') : Back w0 R β e w :=
  let ⟨β'', r, st', v, h1, h2, h3, h4, h5⟩ := h; ⟨β'', r, st', v, h1, h2, h3, h4, hl.trans h5⟩

theorem LT.mono {R' : LV → LState → Prop} {k : List Item} {t : List LV} {st : LState} (h : LT P rs k R t st) (hr : ∀ v st, R v st → R' v st) : LT P rs k R' t st :=
  fun w0 β w a fn h1 h2 h3 h4 b cs hf hk =>
    let ⟨e, w', fr, ⟨β', r, st', v, k1, k2⟩, h6⟩ := h w0 β w a fn h1 h2 h3 h4 b cs hf hk
    ⟨e, w', fr, ⟨β', r, st', v, hr _ _ k1, k2⟩, h6⟩

/-- One step of the machine that turns nothing. -/
theorem LT.move {k k' : List Item} {t : List LV} {st : LState} (hs : ∀ (b : Frame) (a : Act) (cs : List Frame) (w : World), step P (lone (b.at a k) cs w) = .next (lone (b.at a k') cs w))
    (h : LT P rs k' R t st) : LT P rs k R t st :=
  fun w0 β w a fn h1 h2 h3 h4 b cs hf hk =>
    let ⟨e, w', fr, h5, h6, h7, h8⟩ := h w0 β w a fn h1 h2 h3 h4 b cs hf hk
    ⟨e, w', fr, h5, .of_steps (.one (hs b a cs w)) h6, h7, h8⟩

theorem step_inScope {b : Frame} {a : Act} {c : Code} {k : List Item} {cs : List Frame} {w : World} : step P (lone (b.at a (.inScope c :: k)) cs w) = .next (lone (b.at a k) cs w) :=
  step_lone_go (by simp [stepG, stepG.exec, Frame.at])

theorem LT.end_ {k : List Item} {t : List LV} {st : LState} (hs : ∀ (b : Frame) (a : Act) (cs : List Frame) (w : World), step P (lone (b.at a k) cs w) = .next (lone { b.at a k with mode := .returning } cs w))
    (h : lend P rs R t st) : LT P rs k R t st := by
  intro w0 β w a fn h1 h2 h3 h4 b cs hf hk
  unfold lend at h
  obtain ⟨vs, hvs, h⟩ := lendK_spec h
  · rw [← h4] at hvs
    obtain ⟨u, h5, h6⟩ := results_sound h1 h2 hvs
    exact ⟨.returned u, w, { b.at a k with mode := .returning }, ⟨β, _, st, u, h, rfl, h6, h1, Lay.le.refl _⟩, .one (hs b a cs w), rfl, rfl, h3, hk, fn, hf, h5⟩

/-- A piece of code, and what comes behind it. -/
theorem LT.code {c : Code} {k : List Item} {t : List LV} {st : LState}
    (h : ∀ (w0 : World) (β : Lay) (w : World) (a : Act), Rel w0 β st w → Rps β t a.tmps.toList → a.defers = [] →
      c.wp P (fun e a' w' => e = .normal ∧ ∃ β' t' st', LT P rs k R t' st' ∧ Rel w0 β' st' w' ∧ Rps β' t' a'.tmps.toList ∧ a'.defers = [] ∧ β.le β') a w) : LT P rs (.code c :: k) R t st := by
  intro w0 β w a fn h1 h2 h3 h4 b cs hf hk
  obtain ⟨e, a', w', ⟨he, β', t', st', k1, k2, k3, k4, k5⟩, harr⟩ := h w0 β w a h1 h2 h3 b k cs
  subst he
  obtain ⟨e, w'', fr, h5, h6, h7, h8⟩ := k1 w0 β' w' a' fn k2 k3 k4 h4 b cs hf hk
  exact ⟨e, w'', fr, h5.le k5, .of_steps harr h6, h7, h8⟩

theorem levT_sound (hm : P.follows .mixedOrders = true) {g cuts : List Nat} : ∀ (n : Nat) {k : List Item} {t : List LV} {st : LState}, levT P rs R g cuts n k t st → LT P rs k R t st
  | 0, k, t, st, h => h
  | n + 1, k, t, st, h => by
    unfold levT at h
    split at h
    · exact LT.end_ (fun b a cs w => step_end) h
    · exact LT.move (fun b a cs w => step_skip) (levT_sound hm n h)
    · exact LT.move (fun b a cs w => step_label) (levT_sound hm n h)
    · exact LT.move (fun b a cs w => step_seq) (levT_sound hm n h)
    · rename_i c x y k
      unfold bd at h
      split at h
      · rename_i v hv
        intro w0 β w a fn h1 h2 h3 h4 b cs hf hk
        have hr := ev_sound h2 hv
        unfold bsel at h
        split at h
        · simp only [Rp] at hr
          obtain ⟨e, w', fr, h5, h6, h7, h8⟩ := levT_sound hm n h w0 β w a fn h1 h2 h3 h4 b cs hf hk
          exact ⟨e, w', fr, h5, .of_steps (.one (step_cond hr)) h6, h7, h8⟩
        · simp only [Rp] at hr
          obtain ⟨e, w', fr, h5, h6, h7, h8⟩ := levT_sound hm n h w0 β w a fn h1 h2 h3 h4 b cs hf hk
          exact ⟨e, w', fr, h5, .of_steps (.one (step_cond hr)) h6, h7, h8⟩
        · exact h.elim
      · exact h.elim
    · exact LT.move (fun b a cs w => step_block) (levT_sound hm n h)
    · rename_i c k
      intro w0 β w a fn h1 h2 h3 h4 b cs hf hk
      -- both go on with the loop's body
      obtain ⟨e, w', fr, h5, h6, h7, h8⟩ := h.forget w0 β w a fn h1 h2 h3 h4 b cs hf hk
      refine ⟨e, w', fr, h5, ?_, h7, h8⟩
      have hs1 : step P (lone (b.at a (.code (.loop c) :: k)) cs w) = .next (lone (b.at a (.code c :: .inLoop c :: k)) cs w) := step_loop
      have hs2 : step P (lone (b.at a (.inLoop c :: k)) cs w) = .next (lone (b.at a (.code c :: .inLoop c :: k)) cs w) := step_inLoop
      cases e with
      | returned v =>
        obtain ⟨m, hm'⟩ := h6
        cases m with
        | zero =>
          simp only [runN] at hm'
          have hfr : fr = b.at a (.inLoop c :: k) := by
            simp only [lone, Stepped.next.injEq, Machine.mk.injEq] at hm'
            have := hm'.2.1
            simp only [Array.mk.injEq, List.cons.injEq, Goroutine.mk.injEq] at this
            exact this.1.1.symm
          have hl := h8.1
          rw [hfr] at hl; simp [Frame.at] at hl
        | succ m =>
          simp only [runN, hs2] at hm'
          exact ⟨m + 1, by simp only [runN, hs1]; exact hm'⟩
      | panicked ch => obtain ⟨_, r, _, v, _, he, _⟩ := h5; cases he
      | outgrown => obtain ⟨_, r, _, v, _, he, _⟩ := h5; cases he
    · exact h.forget
    · split at h
      · exact LT.move (fun b a cs w => step_inBlock) h.forget
      · exact LT.move (fun b a cs w => step_inBlock) (levT_sound hm n h)
    · exact LT.move (fun b a cs w => step_inScope) (levT_sound hm n h)
    · split at h
      · rename_i k' hx
        split at h
        · exact LT.move (fun b a cs w => step_exit hx) h.forget
        · exact LT.move (fun b a cs w => step_exit hx) (levT_sound hm n h)
      · exact h.elim
    · exact LT.end_ (fun b a cs w => step_ret) h
    · split at h
      · refine LT.code fun w0 β w a h1 h2 h3 => wp_region (levOps_sound h1 h2 h3 h fun β' t' st' a' w' k1 k2 k3 k4 k5 => ⟨rfl, β', t', st', levT_sound hm n k1, k2, k3, k4, k5⟩)
      · split at h
        · rename_i hok
          refine LT.code fun w0 β w a h1 h2 h3 => ?_
          refine wp_region_any hm (draw_any (ok_of hok) _ (T0 := t) (T := t) (TD := t) (D := Array.replicate _ false) (m := 0) (pend := []) (β := β) ?_ h (h1.draws (Nat.le_succ _)) h2 h3 ?_ ?_)
          · have hn : ∀ (N i : Nat), ¬ In (Array.replicate N false) i := by
              intro N i hi
              unfold In at hi
              simp [Array.getElem?_replicate] at hi
              split at hi <;> simp at hi
            have he : ∀ N, maskArr N 0 = Array.replicate N false := fun N => by apply Array.ext <;> simp [maskArr]
            rw [he]
            exact ⟨⟨by simp, fun i o hi => absurd hi (hn _ i)⟩, ⟨by simp, fun i o hi => absurd hi (hn _ i)⟩, fun i hi => hi, ⟨rfl, fun i o d hi => absurd hi (hn _ i), fun _ _ => rfl⟩, ⟨rfl, fun i o d hi => absurd hi (hn _ i), fun _ _ => rfl⟩,
              fun i o hi => absurd hi (hn _ i), fun j o hj => absurd hj (hn _ j)⟩
          · unfold todo
            exact Nat.le_trans (List.length_filter_le _ _) (by simp)
          · intro β' t' st' a' w' k1 k2 k3 k4 k5
            exact ⟨rfl, β', t', st', levT_sound hm n k1, k2, k3, k4, k5⟩
        · exact h.elim
    · exact h.elim

/-- A round of a loop. -/
theorem LT.round (hm : P.follows .mixedOrders = true) {g cuts : List Nat} (n : Nat) {c : Code} {k : List Item} {t : List LV} {st : LState} (h : levT P rs R g cuts n (.code c :: .inLoop c :: k) t st) :
    LT P rs (.inLoop c :: k) R t st := LT.move (fun b a cs w => step_inLoop) (levT_sound hm n h)

/-- A call, by its body. -/
theorem LCalls.of {f : FuncId} {fn : Func} {c : Code} {xs : List LV} {st : LState} (hm : P.follows .mixedOrders = true)
    (hf : P.funcs[f]? = some fn) (hb : fn.body = some c) (hn : (fn.name == "runtime.NumGoroutine") = false) (hrs : fn.results.toList = rs)
    (h : LT P rs [.code c] R (xs ++ List.replicate (fn.ntmps - xs.length) lundef) st) : LCalls P f xs st R := by
  refine .inl ⟨⟨fn, c, hf, hb, hn⟩, fun w0 β w vs h1 h2 cs => ?_⟩
  let b : Frame := { (default : Frame) with fn := f, kind := .normal }
  have henter : Frame.enter P f ⟨vs⟩ .normal = b.at { tmps := (⟨vs⟩ : Array Value) ++ Array.replicate (fn.ntmps - vs.length) undef, defers := [] } [.code c] := by
    simp [Frame.enter, Frame.at, hf, hb, b]
  rw [henter]
  have htm : Rps β (xs ++ List.replicate (fn.ntmps - xs.length) lundef) ((⟨vs⟩ : Array Value) ++ Array.replicate (fn.ntmps - vs.length) undef).toList := by
    rw [show ((⟨vs⟩ : Array Value) ++ Array.replicate (fn.ntmps - vs.length) undef).toList = vs ++ List.replicate (fn.ntmps - xs.length) undef by simp [h2.length]]
    exact h2.append (Rps.replicate Rp.undef _)
  obtain ⟨e, w', fr, h5, h6, h7, h8⟩ := h w0 β w { tmps := (⟨vs⟩ : Array Value) ++ Array.replicate (fn.ntmps - vs.length) undef, defers := [] } fn h1 htm rfl hrs b cs hf rfl
  exact ⟨e, w', fr, h5, h6, h7, h8⟩

end

/-- What is left to do at each loop's head of a code, and behind each block. -/
def todosOf : Code → List Item → List (List Item)
  | .seq a b, k => todosOf a (.code b :: k) ++ todosOf b k
  | .cond _ a b, k => todosOf a k ++ todosOf b k
  | .block id c, k => k :: todosOf c (.inBlock id :: k)
  | .loop c, k => (.inLoop c :: k) :: todosOf c (.inLoop c :: k)
  | _, _ => []

/-- The n-th of these points in a function's body. -/
def pointN (fn : Func) (n : Nat) : List Item := match fn.body with
  | some c => (todosOf c []).getD n []
  | none => []

/-- One step into a loop's round. -/
def stepIn : List Item → List Item
  | .inLoop c :: k => .code c :: .inLoop c :: k
  | k => k

/-- From one of a function's points on. -/
theorem LT.at {P : Program} {rs : List ResultVar} {R : LV → LState → Prop} (hm : P.follows .mixedOrders = true) {g cuts : List Nat} (n : Nat) {k : List Item} {t : List LV} {st : LState}
    (h : levT P rs R g cuts n (stepIn k) t st) : LT P rs k R t st := by
  unfold stepIn at h
  split at h
  · exact LT.round hm n h
  · exact levT_sound hm n h

def bodyOf (fn : Func) : Code := match fn.body with
  | some c => c
  | none => .skip

end Go.CP

