/- The clean machine, part 38: the run machine, with deferred calls. -/
/- Who answers in runs: functions without a Go body; the sorted keys of maps. -/
/- The example of layer 12, run by the kernel. -/
import Derived.Test.YtknegckgmklnhaaGreatDoorCp37
import Derived.Test.YtknegckgmklnhaaGreatDoorVaV6
namespace Go.CP

section
variable {β : Lay} {P : Program} {w w0 : World} {st : LState} {dl : List Deferred}

/-- Operations, and what comes behind them in the same region. -/
theorem levOps_then {ops : Array Oper} {Q : Exit → Act → World → Prop} {l2 : List Nat} : ∀ {l : List Nat} {K : List LV → LState → Prop} {t : List LV} {st : LState} {β : Lay} {a : Act} {w : World},
    Rel w0 β st w → Rps β t a.tmps.toList → a.defers = dl → levOps P ops l K t st →
    (∀ β' t' st' a' w', K t' st' → Rel w0 β' st' w' → Rps β' t' a'.tmps.toList → a'.defers = dl → β.le β' → wpOps P ops Q l2 a' w') → wpOps P ops Q (l ++ l2) a w
  | [], K, t, st, β, a, w, h, ht, hd, hk, hq => hq β t st a w hk h ht hd (Lay.le.refl _)
  | i :: rest, K, t, st, β, a, w, h, ht, hd, hk, hq => by
    rw [List.cons_append]
    simp only [wpOps]
    simp only [levOps, force_eq] at hk
    cases ho : ops[i]? with
    | none =>
      simp only [ho] at hk ⊢
      exact levOps_then h ht hd hk hq
    | some o =>
      simp only [ho] at hk ⊢
      -- the operation, done
      have go : ∀ {t' : List LV}, t' = t → levOp P o t' st (fun v st' => splitV (nestG ops i) v fun v => levOps P ops rest K (lput t' o.dst v) st') → Oper.wp P o a w (wpOps P ops Q (rest ++ l2)) Q := by
        intro t' e hk'
        subst e
        refine Oper.wp_mono ?_ (levOp_sound (Q := Q) h ht hk')
        intro a' w' ⟨β', v, st', u, h1, h2, h3, h4, h5⟩
        subst h5
        have h1 := splitV_spec h1
        exact levOps_then h3 (put_rel (ht.mono h4) h2) (by rw [put_defers']; exact hd) h1 (fun β'' t'' st'' a'' w'' k1 k2 k3 k4 k5 => hq β'' t'' st'' a'' w'' k1 k2 k3 k4 (h4.trans k5))
      -- the operation, passed by
      have skip : ∀ {t' : List LV}, t' = t → levOps P ops rest K (lput t' o.dst lundef) st → wpOps P ops Q (rest ++ l2) (a.put o.dst undef) w := by
        intro t' e hk'
        subst e
        exact levOps_then h (put_rel ht Rp.undef) (by rw [put_defers']; exact hd) hk' hq
      cases hg : o.guard with
      | none =>
        simp only [hg] at hk
        have hw : Region.wanted o (yielded ops a.tmps) = true := by simp [Region.wanted, hg]
        rw [if_pos hw]
        exact .inl (go rfl hk)
      | some jw =>
        obtain ⟨j, want⟩ := jw
        simp only [hg] at hk
        cases hdst : (ops[j]?).bind (·.dst) with
        | none => simp only [hdst] at hk
        | some d =>
          simp only [hdst] at hk
          rcases gsel_cases hk with ⟨hb, hk⟩ | ⟨hb, hk⟩ | ⟨hb, hk⟩
          · have hy := yielded_of ht hdst hb
            have hs := (getD_bool hb).2
            cases want
            · have hw : ¬ Region.wanted o (yielded ops a.tmps) = true := by simp [Region.wanted, hg, hy]
              rw [if_neg hw]
              exact skip hs hk
            · have hw : Region.wanted o (yielded ops a.tmps) = true := by simp [Region.wanted, hg, hy]
              rw [if_pos hw]
              exact .inl (go hs hk)
          · have hy := yielded_of ht hdst hb
            have hs := (getD_bool hb).2
            cases want
            · have hw : Region.wanted o (yielded ops a.tmps) = true := by simp [Region.wanted, hg, hy]
              rw [if_pos hw]
              exact .inl (go hs hk)
            · have hw : ¬ Region.wanted o (yielded ops a.tmps) = true := by simp [Region.wanted, hg, hy]
              rw [if_neg hw]
              exact skip hs hk
          · have hy := yielded_tup ht hdst hb
            have hw : ¬ Region.wanted o (yielded ops a.tmps) = true := by simp [Region.wanted, hg, hy]
            rw [if_neg hw]
            exact skip rfl hk


end

/-- What a region's last operation defers. -/
def deferLast (ops : Array Oper) : Option (Oper × Call) := match ops[ops.size - 1]? with
  | some o => match o.op, o.guard with
    | .defer c, none => some (o, c)
    | _, _ => none
  | none => none

def ldef (P : Program) (t : List LV) (c : Call) : Option LDef := match lcallee t c with
  | some d => match P.funcs[d.1]? with
    | some fn => match fn.body, fn.name == "runtime.NumGoroutine" with
      | some _, false => some d
      | _, _ => none
    | none => none
  | none => none

theorem ldef_sound {P : Program} {β : Lay} {t : List LV} {a : Act} {c : Call} {d : LDef} {o : Oper} {w : World} (ho : o.op = .defer c) (h : ldef P t c = some d) (ht : Rps β t a.tmps.toList) :
    ∃ dv, (execOp a.eval o).run P w = .ok (.defer dv) w ∧ DRel P β d dv := by
  unfold ldef at h
  split at h
  case h_2 => cases h
  rename_i d' hr
  split at h
  case h_2 => cases h
  rename_i fn hf
  split at h
  case h_2 => cases h
  rename_i body hbn hname
  cases h
  unfold lcallee at hr
  split at hr
  case h_2 => cases hr
  rename_i f hc
  split at hr
  case h_2 => cases hr
  rename_i v' xs' h1 h2
  unfold lclo at hr
  split at hr
  case h_2 => cases hr
  rename_i g first captured
  simp only [Option.some.injEq] at hr
  subst hr
  obtain ⟨vs, us, e, r1, r2⟩ := ev_sound ht h1
  have r3 := evs_sound ht h2
  refine ⟨{ target := .fn (.func g) ⟨us⟩, args := ⟨vs⟩ ++ c.args.map a.eval }, ?_, .func g, ⟨us⟩, vs ++ c.args.toList.map a.eval ++ us, rfl, fun w => ?_, (r1.append r3).append r2⟩
  · unfold execOp
    rw [ho]
    simp only [resolve, hc, Deferred.ofValue, e, Sem.run_bind, Sem.run_pure, Result.andThen_ok]
  · have hargs : ((⟨vs⟩ : Array Value) ++ c.args.map a.eval ++ ⟨us⟩) = ⟨vs ++ c.args.toList.map a.eval ++ us⟩ := by
      apply Array.ext'; simp
    simp only [invoke, hargs, callFunc, Sem.run_bind, Sem.run_pure, Result.andThen_ok, run_program, hf, hname, hbn, Option.isNone_some, Bool.false_eq_true, if_false]

/-- Who runs deferred calls. -/
abbrev OraD := FuncId → List LV → LState → Option LState
def OraDOk (P : Program) (D : OraD) : Prop := ∀ f xs st st', D f xs st = some st' → ∀ K : LState → Prop, K st' → LCallsD P f xs st K

def leaveR (D : OraD) : List LDef → LState → Option LState
  | [], st => some st
  | d :: r, st => match D d.1 d.2 st with
    | some st' => leaveR D r st'
    | none => none

theorem leaveR_sound {P : Program} {D : OraD} (hD : OraDOk P D) : ∀ {ds : List LDef} {st st' : LState} {K : LState → Prop}, leaveR D ds st = some st' → K st' → lleave P ds st K
  | [], st, st', K, h, hk => by
    simp only [leaveR, Option.some.injEq] at h
    subst h; exact hk
  | d :: r, st, st', K, h, hk => by
    simp only [leaveR] at h
    split at h
    · rename_i s1 h1
      exact hD _ _ _ _ h1 _ (leaveR_sound hD h hk)
    · cases h

/-- The end of a frame: its deferred calls, then its answer. -/
def endD (P : Program) (D : OraD) (dk : Bool) (rs : List ResultVar) (ds : List LDef) (t : List LV) (st : LState) : Option (LV × LState) := match dk with
  | true => match ds with
    | [] => endR P rs t st
    | _ => none
  | false => match leaveR D ds st with
    | some st' => endR P rs t st'
    | none => none

/-- Does a deferred call's region ask first whether someone panics? -/
def recFirst (dk : Bool) (ops : Array Oper) : Option Oper := match dk with
  | true => (match ops[0]? with
    | some o => (match o.op with
      | .call c => (match c.callee, o.guard with
        | .builtin .recover, none => some o
        | _, _ => none)
      | _ => none)
    | none => none)
  | false => none

theorem recFirst_spec {dk : Bool} {ops : Array Oper} {o : Oper} (h : recFirst dk ops = some o) : dk = true ∧ ops[0]? = some o ∧ o.guard = none ∧ ∃ c, o.op = .call c ∧ c.callee = .builtin .recover := by
  unfold recFirst at h
  split at h
  · split at h
    · rename_i o' ho
      split at h
      · rename_i c hc
        split at h
        · rename_i e1 e2
          cases h
          exact ⟨rfl, ho, e2, c, hc, e1⟩
        · cases h
      · cases h
    · cases h
  · cases h

def walkD (P : Program) (C : Ora) (D : OraD) (dk : Bool) (rs : List ResultVar) : Nat → List Item → List LDef → List LV → LState → Option (LV × LState)
  | 0, _, _, _, _ => none
  | n + 1, k, ds, t, st => match k with
    | [] => endD P D dk rs ds t st
    | .code c :: k => (match c with
      | .skip => walkD P C D dk rs n k ds t st
      | .label _ => walkD P C D dk rs n k ds t st
      | .seq a b => walkD P C D dk rs n (.code a :: .code b :: k) ds t st
      | .cond c a b => (match ev t c with
        | some (.bool true) => walkD P C D dk rs n (.code a :: k) ds t st
        | some (.bool false) => walkD P C D dk rs n (.code b :: k) ds t st
        | _ => none)
      | .block id c => walkD P C D dk rs n (.code c :: .inBlock id :: k) ds t st
      | .loop c => walkD P C D dk rs n (.code c :: .inLoop c :: k) ds t st
      | .scope c => walkD P C D dk rs n (.code c :: .inScope c :: k) ds t st
      | .goto l => (match gotoIn l k with
        | some k' => walkD P C D dk rs n k' ds t st
        | none => none)
      | .exit id => (match exitTo id k with
        | some k' => walkD P C D dk rs n k' ds t st
        | none => none)
      | .ret => endD P D dk rs ds t st
      | .region _ ops draw => (match draw with
        | false => (match deferLast ops with
          | none => (match recFirst dk ops with
            | some o => (match runOps P C ops (List.range' 1 (ops.size - 1)) (lput t o.dst .nili) st with
              | some (t, st) => walkD P C D dk rs n k ds t st
              | none => none)
            | none => (match runOps P C ops (List.range ops.size) t st with
              | some (t, st) => walkD P C D dk rs n k ds t st
              | none => none))
          | some (o, c) => (match runOps P C ops (List.range (ops.size - 1)) t st with
            | some (t, st) => (match ldef P t c with
              | some d => walkD P C D dk rs n k (d :: ds) (lput t o.dst lundef) st
              | none => none)
            | none => none))
        | true => match drawOk ops (Region.before ops) with
          | true => (match scheds (rowsOf P ops) ops.size 0 with
            | some ls => (match runDraw P C ops (Region.before ops) ls t st with
              | some (t, st) => walkD P C D dk rs n k ds t st
              | none => none)
            | none => none)
          | false => none)
      | _ => none)
    | .inLoop c :: k => walkD P C D dk rs n (.code c :: .inLoop c :: k) ds t st
    | .inBlock _ :: k => walkD P C D dk rs n k ds t st
    | .inScope _ :: k => walkD P C D dk rs n k ds t st
    | _ => none

def isIn (f : FuncId) : List FuncId → Bool
  | [] => false
  | g :: l => match Nat.beq f g with
    | true => true
    | false => isIn f l

/-- Both: a call, and a deferred one, run to their ends; own: the functions of whose calls X answers. -/
def lrunD (P : Program) (own : List FuncId) (X : Ora) (m : Nat) : Nat → Bool → Ora
  | 0 => fun _ _ _ _ => none
  | n + 1 => fun dk f xs st => match P.funcs[f]? with
    | none => none
    | some fn => match fn.body with
      | none => (match dk with
        | false => X f xs st
        | true => none)
      | some c => match fn.name == "runtime.NumGoroutine" with
        | true => none
        | false => match isIn f own with
          | true => (match dk with
            | false => X f xs st
            | true => none)
          | false => walkD P (lrunD P own X m n false) (fun f xs st => match lrunD P own X m n true f xs st with | some r => some r.2 | none => none) dk fn.results.toList m [.code c] [] (xs ++ List.replicate (fn.ntmps - xs.length) lundef) st

section
variable {P : Program} {C : Ora} {D : OraD}

def kindOf : Bool → CallKind
  | true => .deferred
  | false => .normal

theorem endD_sound (hD : OraDOk P D) {dk : Bool} {rs : List ResultVar} {R : LV → LState → Prop} {k : List Item} {ds : List LDef} {t : List LV} {st st' : LState} {v : LV}
    (hs : ∀ (b : Frame) (a : Act) (cs : List Frame) (w : World), step P (lone (b.at a k) cs w) = .next (lone { b.at a k with mode := .returning } cs w)) (h : endD P D dk rs ds t st = some (v, st')) (hR : R v st') : LTg P (kindOf dk) rs k ds R t st := by
  unfold endD at h
  split at h
  · split at h
    · exact LTg.finishD hs (endR_sound h hR)
    · cases h
  · split at h
    · rename_i s1 h1
      exact LTg.finish hs (leaveR_sound hD h1 (endR_sound h hR))
    · cases h

theorem walkD_sound (hm : P.follows .mixedOrders = true) (hC : OraOk P C) (hD : OraDOk P D) {dk : Bool} {rs : List ResultVar} {R : LV → LState → Prop} {v : LV} {st' : LState} (hR : R v st') : ∀ (n : Nat) {k : List Item} {ds : List LDef} {t : List LV} {st : LState},
    walkD P C D dk rs n k ds t st = some (v, st') → LTg P (kindOf dk) rs k ds R t st
  | 0, k, ds, t, st, h => by simp [walkD] at h
  | n + 1, k, ds, t, st, h => by
    have go : ∀ {k ds t st}, walkD P C D dk rs n k ds t st = some (v, st') → LTg P (kindOf dk) rs k ds R t st := fun h => walkD_sound hm hC hD hR n h
    unfold walkD at h
    split at h
    · exact endD_sound hD (fun b a cs w => step_end) h hR
    · split at h
      · exact LTg.move (fun b a cs w => step_skip) (go h)
      · exact LTg.move (fun b a cs w => step_label) (go h)
      · exact LTg.move (fun b a cs w => step_seq) (go h)
      · split at h
        · rename_i he
          exact LTg.cond he (go h)
        · rename_i he
          exact LTg.cond he (go h)
        · cases h
      · exact LTg.move (fun b a cs w => step_block) (go h)
      · exact LTg.move (fun b a cs w => step_loop) (go h)
      · exact LTg.move (fun b a cs w => step_scope') (go h)
      · split at h
        · rename_i hx
          exact LTg.move (fun b a cs w => step_goto' hx) (go h)
        · cases h
      · split at h
        · rename_i hx
          exact LTg.move (fun b a cs w => step_exit hx) (go h)
        · cases h
      · exact endD_sound hD (fun b a cs w => step_ret) h hR
      · rename_i id ops draw
        split at h
        · split at h
          · split at h
            · rename_i o hrf
              obtain ⟨rfl, ho, hg, c, hop, hcl⟩ := recFirst_spec hrf
              split at h
              · rename_i hr
                have hl := runOps_sound (K := fun t st => LTg P .deferred rs _ ds R t st) hC hr (go h)
                obtain ⟨m, hm'⟩ : ∃ m, ops.size = m + 1 := ⟨ops.size - 1, by have := (Array.getElem?_eq_some_iff.1 ho).1; omega⟩
                rw [hm', Nat.add_sub_cancel] at hl
                exact LTg.recover hm' ho hg hop hcl hl
              · cases h
            split at h
            · rename_i hr
              refine LTg.code fun w0 β w a h1 h2 => ?_
              have hl := runOps_sound (K := fun t st => LTg P (kindOf dk) rs _ ds R t st) hC hr (go h)
              exact wp_region (levOps_sound h1 h2 rfl hl fun β' t' st' a' w' k1 k2 k3 k4 k5 => ⟨rfl, β', t', st', k1, k2, k3, k4, k5⟩)
            · cases h
          · rename_i o c hd
            split at h
            · rename_i t1 s1 hr
              split at h
              · rename_i d hl
                have hk := go h
                refine LTg.codeD fun w0 β w a h1 h2 => ?_
                have hlv := runOps_sound (K := fun t st => t = t1 ∧ st = s1) hC hr ⟨rfl, rfl⟩
                refine wp_region ?_
                obtain ⟨m, hm'⟩ : ∃ m, ops.size = m + 1 := by
                  refine ⟨ops.size - 1, ?_⟩
                  unfold deferLast at hd
                  split at hd
                  · rename_i o' ho'
                    have := (Array.getElem?_eq_some_iff.1 ho').1
                    omega
                  · cases hd
                have ho : ops[m]? = some o ∧ o.op = .defer c ∧ o.guard = none := by
                  unfold deferLast at hd
                  rw [hm', Nat.add_sub_cancel] at hd
                  split at hd
                  · rename_i o' ho'
                    split at hd
                    · rename_i c' e1 e2
                      cases hd
                      exact ⟨ho', e1, e2⟩
                    · cases hd
                  · cases hd
                rw [hm', Nat.add_sub_cancel] at hlv
                rw [hm', List.range_succ]
                refine levOps_then h1 h2 rfl hlv fun β' t' st'' a' w' k1 k2 k3 k4 k5 => ?_
                obtain ⟨rfl, rfl⟩ := k1
                obtain ⟨dv, e1, e2⟩ := ldef_sound (w := w') ho.2.1 hl k3
                simp only [wpOps, ho.1]
                have hw : Region.wanted o (yielded ops a'.tmps) = true := by simp [Region.wanted, ho.2.2]
                rw [if_pos hw]
                refine .inl ?_
                unfold Oper.wp
                rw [e1]
                refine ⟨trivial, β', _, _, d, dv, hk, k2, ?_, ?_, e2, k5⟩
                · exact put_rel (a := { a' with defers := dv :: a'.defers }) k3 Rp.undef
                · rw [put_defers']; show dv :: a'.defers = dv :: a.defers; rw [k4]
              · cases h
            · cases h
        · split at h
          · rename_i hok
            split at h
            · rename_i ls hs
              split at h
              · rename_i t2 s2 hr
                -- the drawn region
                refine LTg.code fun w0 β w a h1 h2 => ?_
                have start : Inv P ops t t (maskArr ops.size 0) (Array.replicate ops.size false) t [] st := by
                  have hn : ∀ (N i : Nat), ¬ In (Array.replicate N false) i := by
                    intro N i hi
                    unfold In at hi
                    simp [Array.getElem?_replicate] at hi
                    split at hi <;> simp at hi
                  have he : ∀ N, maskArr N 0 = Array.replicate N false := fun N => by apply Array.ext <;> simp [maskArr]
                  rw [he]
                  exact ⟨⟨by simp, fun i o hi => absurd hi (hn _ i)⟩, ⟨by simp, fun i o hi => absurd hi (hn _ i)⟩, fun i hi => hi, ⟨rfl, fun i o d hi => absurd hi (hn _ i), fun _ _ => rfl⟩, ⟨rfl, fun i o d hi => absurd hi (hn _ i), fun _ _ => rfl⟩,
                    fun i o hi => absurd hi (hn _ i), fun j o hj => absurd hj (hn _ j)⟩
                have htd : todo ops (Array.replicate ops.size false) ≤ ops.size := by
                  unfold todo
                  exact Nat.le_trans (List.length_filter_le _ _) (by simp)
                have hdom : ∀ o, st.length ≤ o → β o = none := h1.dom
                have ends : ∃ K : List LV → LState → Prop, (∀ l ∈ ls, ∃ t' st', runSeq P C ops (Region.before ops) l [] t st = some (t', st') ∧ K t' st') ∧
                    ∀ β' t' s' w' us, K t' s' → Rel w0 β' s' w' → Rps β' t' us → β.le β' → ∃ β'', Rel w0 β'' s2 w' ∧ Rps β'' t2 us ∧ β.le β'' := by
                  unfold runDraw at hr
                  split at hr
                  · cases hr
                  · exact ⟨fun t' s' => t' = t2 ∧ s' = s2, fun l' hl' => by simp at hl'; subst hl'; exact ⟨_, _, hr, rfl, rfl⟩, fun β' t' s' w' us ⟨e1, e2⟩ k1 k2 k3 => by subst e1; subst e2; exact ⟨β', k1, k2, k3⟩⟩
                  · split at hr
                    · cases hr
                    · rw [forceL_eq] at hr
                      split at hr
                      · rename_i hall
                        simp only [Option.some.injEq, Prod.mk.injEq] at hr
                        obtain ⟨e1, e2⟩ := hr
                        rw [e2, e1] at hall
                        refine ⟨fun t' s' => ∃ m, isoOk st.length m t' s' t2 s2 = true, fun l' hl' => ?_, fun β' t' s' w' us ⟨m, hm⟩ k1 k2 k3 => ?_⟩
                        · obtain ⟨t', s', e1, e2⟩ := allIso_spec hall l' hl'
                          exact ⟨t', s', e1, e2⟩
                        · obtain ⟨e1, e2, e3⟩ := k1.iso k2 k3 hdom hm
                          exact ⟨_, e1, e2, e3⟩
                      · cases hr
                obtain ⟨K, hK1, hK2⟩ := ends
                refine wp_region_any hm (draw_any (ok_of hok) _ (T0 := t) (T := t) (TD := t) (D := Array.replicate _ false) (m := 0) (pend := []) (n := ops.size) (β := β) (K := K) start (scheds_sound hC hs hK1) (h1.draws (Nat.le_succ _)) h2 rfl htd ?_)
                intro β' t' st'' a' w' k1 k2 k3 k4 k5
                obtain ⟨β'', e1, e2, e3⟩ := hK2 _ _ _ _ _ k1 k2 k3 k5
                exact ⟨rfl, β'', t2, s2, go h, e1, e2, k4, e3⟩
              · cases h
            · cases h
          · cases h
      · cases h
    · exact LTg.move (fun b a cs w => step_inLoop) (go h)
    · exact LTg.move (fun b a cs w => step_inBlock) (go h)
    · exact LTg.move (fun b a cs w => step_inScope) (go h)
    · cases h

/-- A run is a call; a deferred run is a deferred call. -/
theorem lrunD_ok (hm : P.follows .mixedOrders = true) {own : List FuncId} {X : Ora} (hX : OraOk P X) {m : Nat} : ∀ n, OraOk P (lrunD P own X m n false) ∧ OraDOk P (fun f xs st => match lrunD P own X m n true f xs st with | some r => some r.2 | none => none)
  | 0 => ⟨fun _ _ _ _ _ h => by simp [lrunD] at h, fun _ _ _ _ h => by simp [lrunD] at h⟩
  | n + 1 => by
    obtain ⟨h1, h2⟩ := lrunD_ok hm (own := own) hX (m := m) n
    refine ⟨fun f xs st v st' h K hK => ?_, fun f xs st st' h K hK => ?_⟩
    · unfold lrunD at h
      split at h
      · cases h
      · rename_i fn hf
        split at h
        · exact hX _ _ _ _ _ h K hK
        · rename_i c hb
          split at h
          · cases h
          · rename_i hn
            split at h
            · exact hX _ _ _ _ _ h K hK
            exact LCalls.ofG hf hb hn rfl (walkD_sound (dk := false) hm h1 h2 hK m h)
    · simp only at h
      split at h
      · rename_i r hr
        obtain ⟨v, s⟩ := r
        simp only [Option.some.injEq] at h
        subst h
        unfold lrunD at hr
        split at hr
        · cases hr
        · rename_i fn hf
          split at hr
          · cases hr
          · rename_i c hb
            split at hr
            · cases hr
            · split at hr
              · cases hr
              exact LCallsD.ofG hf hb rfl (walkD_sound (dk := true) (R := fun _ st' => K st') hm h1 h2 hK m hr)
      · cases h

theorem lrunD_forget (hm : P.follows .mixedOrders = true) {own : List FuncId} {X : Ora} (hX : OraOk P X) {m n : Nat} {f : FuncId} {xs : List LV} {st : LState} {v : LV} {R : LV → LState → Prop} (h : (lrunD P own X m n false f xs []).map (·.1) = some v) (hx : LV.plains xs = true) (hv : v.plain = true)
    (hR : R v st) : LCalls P f xs st R := by
  simp only [Option.map_eq_some_iff] at h
  obtain ⟨⟨r, s⟩, h1, h2⟩ := h
  simp only at h2
  subst h2
  exact LCalls.forget ((lrunD_ok hm hX n).1 _ _ _ _ _ h1 _ rfl) hx hv hR

end
end Go.CP

namespace Go.Proofs.YtknegckgmklnhaaGreatDoor
open Go Go.CP Go.RowKit Go.Maps Go.Sort Go.Shelf
set_option maxRecDepth 100000

def extA : List (FuncId × ExtK) := [(242, .same), (263, .indexByte), (270, .count), (288, .clone), (245, .noZero 5)]

theorem extA_ok : ∀ p ∈ extA, ExtOk Tryz.prog p.1 p.2 := by
  intro p hp
  simp only [extA, List.mem_cons, List.not_mem_nil, or_false] at hp
  rcases hp with rfl | rfl | rfl | rfl | rfl
  · exact ⟨Tryz.f242, Tryz.func242, by kernel_rfl, by kernel_rfl, by kernel_rfl, (by kernel_rfl : Extern.find Tryz.f242 = some Extern.AbiNoEscape.same)⟩
  · exact ⟨Tryz.f263, Tryz.func263, by kernel_rfl, by kernel_rfl, by kernel_rfl, (by kernel_rfl : Extern.find Tryz.f263 = some Extern.BytealgIndexByte.indexByte)⟩
  · exact ⟨Tryz.f270, Tryz.func270, by kernel_rfl, by kernel_rfl, by kernel_rfl, (by kernel_rfl : Extern.find Tryz.f270 = some Extern.BytealgCount.count)⟩
  · exact ⟨Tryz.f288, Tryz.func288, by kernel_rfl, by kernel_rfl, by kernel_rfl, (by kernel_rfl : Extern.find Tryz.f288 = some Extern.MapsClone.clone)⟩
  · exact ⟨Tryz.f245, Tryz.func245, by kernel_rfl, by kernel_rfl, by kernel_rfl, Tryz.f245.params, 78, (by kernel_rfl : Extern.find Tryz.f245 = some (Extern.BytealgMakeNoZero.makeNoZero Tryz.f245.params #[78])), Tryz.underlying78⟩

def insK (k : List UInt8) : List (List UInt8) → List (List UInt8)
  | [] => [k]
  | a :: l => match Op.bytesLess k a with
    | true => k :: a :: l
    | false => a :: insK k l
def isortK : List (List UInt8) → List (List UInt8)
  | [] => []
  | k :: l => insK k (isortK l)

theorem insK_perm {k : List UInt8} : ∀ {l : List (List UInt8)}, (insK k l).Perm (k :: l)
  | [] => .refl _
  | a :: l => by
    unfold insK
    split
    · exact .refl _
    · exact ((insK_perm (l := l)).cons a).trans (.swap k a l)
theorem isortK_perm : ∀ {l : List (List UInt8)}, (isortK l).Perm l
  | [] => .refl _
  | k :: _ => insK_perm.trans (isortK_perm.cons k)
theorem insK_rise {k : List UInt8} : ∀ {l : List (List UInt8)}, l.Pairwise ltB → k ∉ l → (insK k l).Pairwise ltB
  | [], _, _ => by simp [insK]
  | a :: l, h, hk => by
    rw [List.pairwise_cons] at h
    simp only [List.mem_cons, not_or] at hk
    unfold insK
    split
    · rename_i hlt
      exact List.pairwise_cons.2 ⟨fun b hb => by
        rcases List.mem_cons.1 hb with rfl | hb
        · exact hlt
        · exact bl_trans hlt (h.1 b hb), List.pairwise_cons.2 h⟩
    · rename_i hlt
      refine List.pairwise_cons.2 ⟨fun b hb => ?_, insK_rise h.2 hk.2⟩
      rcases List.mem_cons.1 (insK_perm.mem_iff.1 hb) with rfl | hb
      · rcases hc : Op.bytesLess a b with _ | _
        · exact absurd (bl_tri hlt hc) hk.1
        · exact hc
      · exact h.1 b hb
theorem isortK_rise : ∀ {l : List (List UInt8)}, l.Nodup → (isortK l).Pairwise ltB
  | [], _ => by simp [isortK]
  | k :: l, h => by
    rw [List.nodup_cons] at h
    exact insK_rise (isortK_rise h.2) (fun hc => h.1 (isortK_perm.mem_iff.1 hc))
theorem isortK_eq {l : List (List UInt8)} (h : l.Nodup) : l.mergeSort leB = isortK l := by
  rw [← mergeSort_of_perm (isortK_perm (l := l)), sort_rise (isortK_rise h)]

def notIn (k : List UInt8) : List (List UInt8) → Bool
  | [] => true
  | a :: l => match decide (k = a) with
    | true => false
    | false => notIn k l
def okK : List (List UInt8) → Bool
  | [] => true
  | k :: l => match notIn k l with
    | true => (match Nat.ble k.length big with
      | true => okK l
      | false => false)
    | false => false
theorem notIn_ok {k : List UInt8} : ∀ {l : List (List UInt8)}, notIn k l = true → k ∉ l
  | [], _ => by simp
  | a :: l, h => by
    unfold notIn at h
    split at h
    · cases h
    · rename_i e
      simp only [List.mem_cons, not_or]
      exact ⟨of_decide_eq_false e, notIn_ok h⟩
theorem okK_ok : ∀ {l : List (List UInt8)}, okK l = true → l.Nodup ∧ ∀ s ∈ l, s.length ≤ big
  | [], _ => by simp
  | k :: l, h => by
    unfold okK at h
    split at h
    · rename_i e
      split at h
      · rename_i e2
        obtain ⟨h1, h2⟩ := okK_ok h
        refine ⟨List.nodup_cons.2 ⟨notIn_ok e, h1⟩, fun s hs => ?_⟩
        rcases List.mem_cons.1 hs with rfl | hs
        · exact Nat.le_of_ble_eq_true e2
        · exact h2 s hs
      · cases h
    · cases h

def keysA (x : LV) (st : LState) : Option (LV × LState) := match x with
  | .map o => some (.fn (.func 166) [] [.ptr st.length 0], st ++ [.cells (.bt 173) [.map o]])
  | .nilm => some (.fn (.func 166) [] [.ptr st.length 0], st ++ [.cells (.bt 173) [.nilm]])
  | _ => none

def sortA (o : Nat) (st : LState) : Option (LV × LState) := match st[o]? with
  | some (.cells (.bt t) [x]) => match Nat.beq t 173 with
    | true => (match x with
      | .nilm => some (.nils, st)
      | .map om => (match st[om]? with
        | some (.map _ es _ _) => (match strsOf es with
          | some ks => (match okK ks with
            | true => (match Nat.ble ks.length big with
              | true => (match ks with
                | [] => some (.nils, st)
                | k :: l => some (.sl st.length 0 (k :: l).length (.rest 1), st ++ [.cells .rw ((isortK (k :: l)).map .str)]))
              | false => none)
            | false => none)
          | none => none)
        | _ => none)
      | _ => none)
    | false => none
  | _ => none

/-- Who answers. -/
def keysX : Ora := fun f xs st => match Nat.beq f 116 with
  | true => (match xs with
    | [x] => keysA x st
    | _ => none)
  | false => match Nat.beq f 115 with
    | true => (match xs with
      | [.fn (.func g) [] [.ptr o k]] => (match Nat.beq g 166 with
        | true => (match Nat.beq k 0 with
          | true => sortA o st
          | false => none)
        | false => none)
      | _ => none)
    | false => extT extA f xs st

theorem keysX_ok : OraOk Tryz.prog keysX := by
  intro f xs st v st' h K hK
  unfold keysX at h
  split at h
  · rename_i e
    obtain rfl := Nat.eq_of_beq_eq_true e
    split at h
    · unfold keysA at h
      split at h
      · cases h
        exact keys_spec (M := 173) call116 keys116_calls (.inr ⟨_, rfl⟩) hK
      · cases h
        exact keys_spec (M := 173) call116 keys116_calls (.inl rfl) hK
      · cases h
    · cases h
  · split at h
    · rename_i e
      obtain rfl := Nat.eq_of_beq_eq_true e
      split at h
      · split at h
        · rename_i e1
          obtain rfl := Nat.eq_of_beq_eq_true e1
          split at h
          · rename_i e2
            obtain rfl := Nat.eq_of_beq_eq_true e2
            unfold sortA at h
            split at h
            · rename_i o t x ho
              split at h
              · rename_i e3
                obtain rfl := Nat.eq_of_beq_eq_true e3
                split at h
                · cases h
                  exact sorted_nil (K := 9) call115 sorted115_calls gives166n ho hK
                · split at h
                  · rename_i om m es bs n hom
                    split at h
                    · rename_i ks hks
                      split at h
                      · rename_i hok
                        obtain ⟨k1, k2⟩ := okK_ok hok
                        split at h
                        · rename_i hlen
                          have hlen' := Nat.le_of_ble_eq_true hlen
                          have l1 : ∀ s ∈ ks, s.length ≤ maxLen := fun s hs => by have := k2 s hs; unfold big at this; unfold maxLen; omega
                          refine sorted_spec (K := 9) (by kernel_rfl) call115 sorted115_calls gives166 ho hom hks k1 l1 (by unfold big at hlen'; unfold maxLen; omega) (by unfold big at hlen'; omega) (fun e0 => ?_) (fun e0 => ?_)
                          · subst e0; cases h; exact hK
                          · rw [isortK_eq k1]
                            split at h
                            · exact absurd rfl e0
                            · cases h; exact hK
                        · cases h
                      · cases h
                    · cases h
                  · cases h
                · cases h
              · cases h
            · cases h
          · cases h
        · cases h
      · cases h
    · exact extT_ok extA_ok _ _ _ _ _ h K hK

end Go.Proofs.YtknegckgmklnhaaGreatDoor

namespace Go.Proofs.YtknegckgmklnhaaGreatDoor
open Go Go.CP
set_option maxRecDepth 100000

theorem awake54_run : (lrunD Tryz.prog [116, 115] keysX 100000 60 false 54 [] []).map (·.1) = some (.bool true) := by kernel_rfl
theorem awake54 {st : LState} {R : LV → LState → Prop} (h : R (.bool true) st) : LCalls Tryz.prog 54 [] st R := lrunD_forget cm_mixed keysX_ok awake54_run rfl rfl h

end Go.Proofs.YtknegckgmklnhaaGreatDoor

