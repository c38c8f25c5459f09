/- The clean machine, part 24: a function's run from any of its points to its end. -/
import Derived.Test.YthiaahbmibndkaaGreatDoorCp23
namespace Go.CP

/-- Names that nobody reads any more. -/
def junk (g : List Nat) (t : List LV) : List LV := g.foldl (fun t i => t.set i .junk) t

/-- A function of these results, what is left of it to do, and R of its answer. -/
def LT (P : Program) (rs : List ResultVar) (k : List Item) (R : LV → LState → Prop) (t : List LV) (st : LState) : Prop :=
  ∀ w0 β w a fn, Rel w0 β st w → Rps β t a.tmps.toList → a.defers = [] → fn.results.toList = rs → ∀ (b : Frame) (cs : List Frame), P.funcs[b.fn]? = some fn → b.kind = .normal →
    ∃ e w' fr, Back w0 R β e w' ∧ Comes P (lone (b.at a k) cs w) (lone fr cs w') e ∧ fr.fn = b.fn ∧ fr.leaving P w' e

/-- The end. -/
def lend (P : Program) (rs : List ResultVar) (R : LV → LState → Prop) (t : List LV) (st : LState) : Prop := lendK P t st rs fun vs => R (lwrap vs) st

/-- The walk: g: what is nobody's at a loop's head and at a cut; cuts: blocks behind which the walk stops. -/
def levT (P : Program) (rs : List ResultVar) (R : LV → LState → Prop) (g cuts : List Nat) : Nat → List Item → List LV → LState → Prop
  | 0, k, t, st => LT P rs k R t st
  | n + 1, k, t, st => match k with
    | [] => lend P rs R t st
    | .code .skip :: k => levT P rs R g cuts n k t st
    | .code (.label _) :: k => levT P rs R g cuts n k t st
    | .code (.seq a b) :: k => levT P rs R g cuts n (.code a :: .code b :: k) t st
    | .code (.cond c a b) :: k => bd (ev t c) fun v => bsel v (levT P rs R g cuts n (.code a :: k) t st) (levT P rs R g cuts n (.code b :: k) t st)
    | .code (.block id c) :: k => levT P rs R g cuts n (.code c :: .inBlock id :: k) t st
    | .code (.loop c) :: k => LT P rs (.inLoop c :: k) R (junk g t) st
    | .inLoop c :: k => LT P rs (.inLoop c :: k) R (junk g t) st
    | .inBlock id :: k => match cuts.contains id with
      | true => LT P rs k R (junk g t) st
      | false => levT P rs R g cuts n k t st
    | .inScope _ :: k => levT P rs R g cuts n k t st
    | .code (.exit id) :: k => match exitTo id k with
      | some k' => match cuts.contains id with
        | true => LT P rs k' R (junk g t) st
        | false => levT P rs R g cuts n k' t st
      | none => False
    | .code .ret :: _ => lend P rs R t st
    | .code (.region _ ops draw) :: k => match draw with
      | false => levOps P ops (List.range ops.size) (fun t st => levT P rs R g cuts n k t st) t st
      | true => match drawOk ops (Region.before ops) with
        | true => levDraw P ops (Region.before ops) (rowsOf P ops) (fun t st => levT P rs R g cuts n k t st) ops.size 0 [] t st
        | false => False
    | _ => False

section
variable {P : Program} {rs : List ResultVar} {R : LV → LState → Prop}

theorem junk_rel {β : Lay} : ∀ {g : List Nat} {t : List LV} {us : List Value}, Rps β t us → Rps β (junk g t) us
  | [], t, us, h => h
  | i :: g, t, us, h => by
    have h1 : Rps β (t.set i .junk) us := by
      apply Rps.of_get
      · rw [h.length]; simp
      · intro j x hx
        rw [List.getElem?_set] at hx
        split at hx
        · rename_i e; subst e
          split at hx
          · rename_i hlt
            simp at hx; subst hx
            exact ⟨us[i]'(by rw [h.length]; exact hlt), by simp [h.length, hlt], trivial⟩
          · simp at hx
        · exact h.get hx
    exact junk_rel (g := g) h1

/-- What nobody reads may be forgotten. -/
theorem LT.forget {k : List Item} {g : List Nat} {t : List LV} {st : LState} (h : LT P rs k R (junk g t) st) : LT P rs k R t st :=
  fun w0 β w a fn h1 h2 h3 h4 b cs hf hk => h w0 β w a fn h1 (junk_rel h2) h3 h4 b cs hf hk

theorem Back.le {w0 : World} {R : LV → LState → Prop} {β β' : Lay} {e : Ending} {w : World} (h : Back w0 R β' e w) (hl : β.le β') : Back w0 R β e w :=
  let ⟨β'', r, st', v, h1, h2, h3, h4, h5⟩ := h; ⟨β'', r, st', v, h1, h2, h3, h4, hl.trans h5⟩

theorem LT.mono {R' : LV → LState → Prop} {k : List Item} {t : List LV} {st : LState} (h : LT P rs k R t st) (hr : ∀ v st, R v st → R' v st) : LT P rs k R' t st :=
  fun w0 β w a fn h1 h2 h3 h4 b cs hf hk =>
    let ⟨e, w', fr, ⟨β', r, st', v, k1, k2⟩, h6⟩ := h w0 β w a fn h1 h2 h3 h4 b cs hf hk
    ⟨e, w', fr, ⟨β', r, st', v, hr _ _ k1, k2⟩, h6⟩

/-- One step of the machine that turns nothing. -/
theorem LT.move {k k' : List Item} {t : List LV} {st : LState} (hs : ∀ (b : Frame) (a : Act) (cs : List Frame) (w : World), step P (lone (b.at a k) cs w) = .next (lone (b.at a k') cs w))
    (h : LT P rs k' R t st) : LT P rs k R t st :=
  fun w0 β w a fn h1 h2 h3 h4 b cs hf hk =>
    let ⟨e, w', fr, h5, h6, h7, h8⟩ := h w0 β w a fn h1 h2 h3 h4 b cs hf hk
    ⟨e, w', fr, h5, .of_steps (.one (hs b a cs w)) h6, h7, h8⟩

theorem step_inScope {b : Frame} {a : Act} {c : Code} {k : List Item} {cs : List Frame} {w : World} : step P (lone (b.at a (.inScope c :: k)) cs w) = .next (lone (b.at a k) cs w) :=
  step_lone_go (by simp [stepG, stepG.exec, Frame.at])

theorem LT.end_ {k : List Item} {t : List LV} {st : LState} (hs : ∀ (b : Frame) (a : Act) (cs : List Frame) (w : World), step P (lone (b.at a k) cs w) = .next (lone { b.at a k with mode := .returning } cs w))
    (h : lend P rs R t st) : LT P rs k R t st := by
  intro w0 β w a fn h1 h2 h3 h4 b cs hf hk
  unfold lend at h
  obtain ⟨vs, hvs, h⟩ := lendK_spec h
  · rw [← h4] at hvs
    obtain ⟨u, h5, h6⟩ := results_sound h1 h2 hvs
    exact ⟨.returned u, w, { b.at a k with mode := .returning }, ⟨β, _, st, u, h, rfl, h6, h1, Lay.le.refl _⟩, .one (hs b a cs w), rfl, rfl, h3, hk, fn, hf, h5⟩

/-- A piece of code, and what comes behind it. -/
theorem LT.code {c : Code} {k : List Item} {t : List LV} {st : LState}
    (h : ∀ (w0 : World) (β : Lay) (w : World) (a : Act), Rel w0 β st w → Rps β t a.tmps.toList → a.defers = [] →
      c.wp P (fun e a' w' => e = .normal ∧ ∃ β' t' st', LT P rs k R t' st' ∧ Rel w0 β' st' w' ∧ Rps β' t' a'.tmps.toList ∧ a'.defers = [] ∧ β.le β') a w) : LT P rs (.code c :: k) R t st := by
  intro w0 β w a fn h1 h2 h3 h4 b cs hf hk
  obtain ⟨e, a', w', ⟨he, β', t', st', k1, k2, k3, k4, k5⟩, harr⟩ := h w0 β w a h1 h2 h3 b k cs
  subst he
  obtain ⟨e, w'', fr, h5, h6, h7, h8⟩ := k1 w0 β' w' a' fn k2 k3 k4 h4 b cs hf hk
  exact ⟨e, w'', fr, h5.le k5, .of_steps harr h6, h7, h8⟩

theorem levT_sound (hm : P.follows .mixedOrders = true) {g cuts : List Nat} : ∀ (n : Nat) {k : List Item} {t : List LV} {st : LState}, levT P rs R g cuts n k t st → LT P rs k R t st
  | 0, k, t, st, h => h
  | n + 1, k, t, st, h => by
    unfold levT at h
    split at h
    · exact LT.end_ (fun b a cs w => step_end) h
    · exact LT.move (fun b a cs w => step_skip) (levT_sound hm n h)
    · exact LT.move (fun b a cs w => step_label) (levT_sound hm n h)
    · exact LT.move (fun b a cs w => step_seq) (levT_sound hm n h)
    · rename_i c x y k
      unfold bd at h
      split at h
      · rename_i v hv
        intro w0 β w a fn h1 h2 h3 h4 b cs hf hk
        have hr := ev_sound h2 hv
        unfold bsel at h
        split at h
        · simp only [Rp] at hr
          obtain ⟨e, w', fr, h5, h6, h7, h8⟩ := levT_sound hm n h w0 β w a fn h1 h2 h3 h4 b cs hf hk
          exact ⟨e, w', fr, h5, .of_steps (.one (step_cond hr)) h6, h7, h8⟩
        · simp only [Rp] at hr
          obtain ⟨e, w', fr, h5, h6, h7, h8⟩ := levT_sound hm n h w0 β w a fn h1 h2 h3 h4 b cs hf hk
          exact ⟨e, w', fr, h5, .of_steps (.one (step_cond hr)) h6, h7, h8⟩
        · exact h.elim
      · exact h.elim
    · exact LT.move (fun b a cs w => step_block) (levT_sound hm n h)
    · rename_i c k
      intro w0 β w a fn h1 h2 h3 h4 b cs hf hk
      -- both go on with the loop's body
      obtain ⟨e, w', fr, h5, h6, h7, h8⟩ := h.forget w0 β w a fn h1 h2 h3 h4 b cs hf hk
      refine ⟨e, w', fr, h5, ?_, h7, h8⟩
      have hs1 : step P (lone (b.at a (.code (.loop c) :: k)) cs w) = .next (lone (b.at a (.code c :: .inLoop c :: k)) cs w) := step_loop
      have hs2 : step P (lone (b.at a (.inLoop c :: k)) cs w) = .next (lone (b.at a (.code c :: .inLoop c :: k)) cs w) := step_inLoop
      cases e with
      | returned v =>
        obtain ⟨m, hm'⟩ := h6
        cases m with
        | zero =>
          simp only [runN] at hm'
          have hfr : fr = b.at a (.inLoop c :: k) := by
            simp only [lone, Stepped.next.injEq, Machine.mk.injEq] at hm'
            have := hm'.2.1
            simp only [Array.mk.injEq, List.cons.injEq, Goroutine.mk.injEq] at this
            exact this.1.1.symm
          have hl := h8.1
          rw [hfr] at hl; simp [Frame.at] at hl
        | succ m =>
          simp only [runN, hs2] at hm'
          exact ⟨m + 1, by simp only [runN, hs1]; exact hm'⟩
      | panicked ch => obtain ⟨_, r, _, v, _, he, _⟩ := h5; cases he
      | outgrown => obtain ⟨_, r, _, v, _, he, _⟩ := h5; cases he
    · exact h.forget
    · split at h
      · exact LT.move (fun b a cs w => step_inBlock) h.forget
      · exact LT.move (fun b a cs w => step_inBlock) (levT_sound hm n h)
    · exact LT.move (fun b a cs w => step_inScope) (levT_sound hm n h)
    · split at h
      · rename_i k' hx
        split at h
        · exact LT.move (fun b a cs w => step_exit hx) h.forget
        · exact LT.move (fun b a cs w => step_exit hx) (levT_sound hm n h)
      · exact h.elim
    · exact LT.end_ (fun b a cs w => step_ret) h
    · split at h
      · refine LT.code fun w0 β w a h1 h2 h3 => wp_region (levOps_sound h1 h2 h3 h fun β' t' st' a' w' k1 k2 k3 k4 k5 => ⟨rfl, β', t', st', levT_sound hm n k1, k2, k3, k4, k5⟩)
      · split at h
        · rename_i hok
          refine LT.code fun w0 β w a h1 h2 h3 => ?_
          refine wp_region_any hm (draw_any (ok_of hok) _ (T0 := t) (T := t) (TD := t) (D := Array.replicate _ false) (m := 0) (pend := []) (β := β) ?_ h (h1.draws (Nat.le_succ _)) h2 h3 ?_ ?_)
          · have hn : ∀ (N i : Nat), ¬ In (Array.replicate N false) i := by
              intro N i hi
              unfold In at hi
              simp [Array.getElem?_replicate] at hi
              split at hi <;> simp at hi
            have he : ∀ N, maskArr N 0 = Array.replicate N false := fun N => by apply Array.ext <;> simp [maskArr]
            rw [he]
            exact ⟨⟨by simp, fun i o hi => absurd hi (hn _ i)⟩, ⟨by simp, fun i o hi => absurd hi (hn _ i)⟩, fun i hi => hi, ⟨rfl, fun i o d hi => absurd hi (hn _ i), fun _ _ => rfl⟩, ⟨rfl, fun i o d hi => absurd hi (hn _ i), fun _ _ => rfl⟩,
              fun i o hi => absurd hi (hn _ i), fun j o hj => absurd hj (hn _ j)⟩
          · unfold todo
            exact Nat.le_trans (List.length_filter_le _ _) (by simp)
          · intro β' t' st' a' w' k1 k2 k3 k4 k5
            exact ⟨rfl, β', t', st', levT_sound hm n k1, k2, k3, k4, k5⟩
        · exact h.elim
    · exact h.elim

/-- A round of a loop. -/
theorem LT.round (hm : P.follows .mixedOrders = true) {g cuts : List Nat} (n : Nat) {c : Code} {k : List Item} {t : List LV} {st : LState} (h : levT P rs R g cuts n (.code c :: .inLoop c :: k) t st) :
    LT P rs (.inLoop c :: k) R t st := LT.move (fun b a cs w => step_inLoop) (levT_sound hm n h)

/-- A call, by its body. -/
theorem LCalls.of {f : FuncId} {fn : Func} {c : Code} {xs : List LV} {st : LState} (hm : P.follows .mixedOrders = true)
    (hf : P.funcs[f]? = some fn) (hb : fn.body = some c) (hn : (fn.name == "runtime.NumGoroutine") = false) (hrs : fn.results.toList = rs)
    (h : LT P rs [.code c] R (xs ++ List.replicate (fn.ntmps - xs.length) lundef) st) : LCalls P f xs st R := by
  refine .inl ⟨⟨fn, c, hf, hb, hn⟩, fun w0 β w vs h1 h2 cs => ?_⟩
  let b : Frame := { (default : Frame) with fn := f, kind := .normal }
  have henter : Frame.enter P f ⟨vs⟩ .normal = b.at { tmps := (⟨vs⟩ : Array Value) ++ Array.replicate (fn.ntmps - vs.length) undef, defers := [] } [.code c] := by
    simp [Frame.enter, Frame.at, hf, hb, b]
  rw [henter]
  have htm : Rps β (xs ++ List.replicate (fn.ntmps - xs.length) lundef) ((⟨vs⟩ : Array Value) ++ Array.replicate (fn.ntmps - vs.length) undef).toList := by
    rw [show ((⟨vs⟩ : Array Value) ++ Array.replicate (fn.ntmps - vs.length) undef).toList = vs ++ List.replicate (fn.ntmps - xs.length) undef by simp [h2.length]]
    exact h2.append (Rps.replicate Rp.undef _)
  obtain ⟨e, w', fr, h5, h6, h7, h8⟩ := h w0 β w { tmps := (⟨vs⟩ : Array Value) ++ Array.replicate (fn.ntmps - vs.length) undef, defers := [] } fn h1 htm rfl hrs b cs hf rfl
  exact ⟨e, w', fr, h5, h6, h7, h8⟩

end

/-- What is left to do at each loop's head of a code, and behind each block. -/
def todosOf : Code → List Item → List (List Item)
  | .seq a b, k => todosOf a (.code b :: k) ++ todosOf b k
  | .cond _ a b, k => todosOf a k ++ todosOf b k
  | .block id c, k => k :: todosOf c (.inBlock id :: k)
  | .loop c, k => (.inLoop c :: k) :: todosOf c (.inLoop c :: k)
  | _, _ => []

/-- The n-th of these points in a function's body. -/
def pointN (fn : Func) (n : Nat) : List Item := match fn.body with
  | some c => (todosOf c []).getD n []
  | none => []

/-- One step into a loop's round. -/
def stepIn : List Item → List Item
  | .inLoop c :: k => .code c :: .inLoop c :: k
  | k => k

/-- From one of a function's points on. -/
theorem LT.at {P : Program} {rs : List ResultVar} {R : LV → LState → Prop} (hm : P.follows .mixedOrders = true) {g cuts : List Nat} (n : Nat) {k : List Item} {t : List LV} {st : LState}
    (h : levT P rs R g cuts n (stepIn k) t st) : LT P rs k R t st := by
  unfold stepIn at h
  split at h
  · exact LT.round hm n h
  · exact levT_sound hm n h

def bodyOf (fn : Func) : Code := match fn.body with
  | some c => c
  | none => .skip

end Go.CP
