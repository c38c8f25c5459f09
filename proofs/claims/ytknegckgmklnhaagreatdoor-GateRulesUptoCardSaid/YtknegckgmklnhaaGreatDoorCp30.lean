/- The clean machine, part 30: a call run to its end by the kernel: calls and loops are walked through, every order of a drawn region is tried. -/
import Derived.Test.YtknegckgmklnhaaGreatDoorCp29
namespace Go.CP

/-- Who answers calls. -/
abbrev Ora := FuncId → List LV → LState → Option (LV × LState)

def OraOk (P : Program) (C : Ora) : Prop := ∀ f xs st v st', C f xs st = some (v, st') → ∀ K : LV → LState → Prop, K v st' → LCalls P f xs st K

/-- Numbers and lists, written out before going on. -/
def forceN {α : Type} (m : Nat) (K : Nat → α) : α := match m with
  | 0 => K 0
  | m + 1 => K (m + 1)
def forceI {α : Type} (n : Int) (K : Int → α) : α := match n with
  | .ofNat m => forceN m fun m => K (.ofNat m)
  | .negSucc m => forceN m fun m => K (.negSucc m)
def forceV {α : Type} (v : LV) (K : LV → α) : α := match v with
  | .bool b => (match b with | true => K (.bool true) | false => K (.bool false))
  | .int k n => forceI n fun n => K (.int k n)
  | v => K v
def forceL {β α : Type} (l : List β) (K : List β → α) : α := match l with
  | [] => K []
  | a :: l => forceL l fun l' => K (a :: l')

theorem forceN_eq {α : Type} {m : Nat} {K : Nat → α} : forceN m K = K m := by cases m <;> rfl
theorem forceI_eq {α : Type} {n : Int} {K : Int → α} : forceI n K = K n := by cases n <;> simp only [forceI, forceN_eq]
theorem forceV_eq {α : Type} {v : LV} {K : LV → α} : forceV v K = K v := by
  cases v <;> simp only [forceV, forceI_eq]
  rename_i b; cases b <;> rfl
theorem forceL_eq {β α : Type} : ∀ {l : List β} {K : List β → α}, forceL l K = K l
  | [], _ => rfl
  | _ :: l, _ => by simp only [forceL]; exact forceL_eq (l := l)

def runOp (P : Program) (C : Ora) (o : Oper) (t : List LV) (st : LState) : Option (LV × LState) := match cls P o.op with
  | .A => (match lopA P t o.op with
    | some v => forceV v fun v => some (v, st)
    | none => none)
  | .L => (match lopL P t st o.op with
    | some v => forceV v fun v => some (v, st)
    | none => none)
  | .W => lopW P t st o.op
  | .C => (match o.op with
    | .call c => (match lcallee t c with
      | some (f, xs) => C f xs st
      | none => none)
    | _ => none)
  | .N => (match o.op with
    | .next it false => (match ev t it with
      | some x => lnext st x
      | none => none)
    | _ => none)
  | .no => none

/-- Is an operation wanted? -/
def wantR (ops : Array Oper) (o : Oper) (t : List LV) : Option Bool := match o.guard with
  | none => some true
  | some (j, want) => match (ops[j]?).bind (·.dst) with
    | none => none
    | some d => match t.getD d lundef with
      | .bool b => some (b == want)
      | .tup [] => (match guarded ops j with
        | true => some false
        | false => none)
      | _ => none

def boolIf (b : Bool) (v : LV) : Bool := match b with
  | false => true
  | true => match v with
    | .bool _ => true
    | _ => false

theorem splitV_of {b : Bool} {v : LV} {K : LV → Prop} (h : boolIf b v = true) (hk : K v) : splitV b v K := by
  unfold boolIf at h
  unfold splitV
  split at h
  · exact hk
  · split at h
    · rename_i c; cases c <;> exact hk
    · cases h

def runOps (P : Program) (C : Ora) (ops : Array Oper) : List Nat → List LV → LState → Option (List LV × LState)
  | [], t, st => forceL t fun t => some (t, st)
  | i :: rest, t, st => match ops[i]? with
    | none => none
    | some o => match wantR ops o t with
      | none => none
      | some true => (match runOp P C o t st with
        | some (v, st') => (match boolIf (nestG ops i) v with
          | true => runOps P C ops rest (lput t o.dst v) st'
          | false => none)
        | none => none)
      | some false => runOps P C ops rest (lput t o.dst lundef) st

/-- What was read ahead of a write, read again. -/
def rechk (P : Program) (ops : Array Oper) (bf : Array Nat) (i : Nat) (st : LState) : List (Nat × List LV × LV) → Bool
  | [] => true
  | (j, t, v) :: r => match (bf.getD i 0).testBit j with
    | true => rechk P ops bf i st r
    | false => match ops[j]? with
      | some o => (match lopL P t st o.op with
        | some u => (match LV.same u v with
          | true => rechk P ops bf i st r
          | false => false)
        | none => false)
      | none => false

/-- The orders of a drawn region's operations. -/
def schedMany (f : Nat → Option (List (List Nat))) : List Nat → Option (List (List Nat))
  | [] => some []
  | i :: l => match f i, schedMany f l with
    | some a, some b => some (a.map (i :: ·) ++ b)
    | _, _ => none

def scheds (rows : List (Nat × Bool)) : Nat → Nat → Option (List (List Nat))
  | 0, m => match pickOp rows m with
    | .done => some [[]]
    | _ => none
  | n + 1, m => match pickOp rows m with
    | .done => some [[]]
    | .one i => (match scheds rows n (m ||| 2 ^ i) with
      | some a => some (a.map (i :: ·))
      | none => none)
    | .many l => schedMany (fun i => scheds rows n (m ||| 2 ^ i)) l

/-- A drawn region's operations, in one order. -/
def runSeq (P : Program) (C : Ora) (ops : Array Oper) (bf : Array Nat) : List Nat → List (Nat × List LV × LV) → List LV → LState → Option (List LV × LState)
  | [], _, t, st => forceL t fun t => some (t, st)
  | i :: l, pend, t, st => match ops[i]? with
    | none => none
    | some o => match wantR ops o t with
      | none => none
      | some true => (match runOp P C o t st with
        | some (v, st') => (match boolIf (nestG ops i) v with
          | false => none
          | true => (match cls P o.op with
            | .A => runSeq P C ops bf l pend (lput t o.dst v) st'
            | .L => runSeq P C ops bf l ((i, t, v) :: pend) (lput t o.dst v) st'
            | _ => (match rechk P ops bf i st' pend with
              | true => runSeq P C ops bf l pend (lput t o.dst v) st'
              | false => none)))
        | none => none)
      | some false => runSeq P C ops bf l pend (lput t o.dst lundef) st

/-- Which objects are which: a search; what it finds is looked over by isoOk. -/
def zipV : List LV → List LV → List (LV × LV) → List (LV × LV)
  | a :: as, b :: bs, w => (a, b) :: zipV as bs w
  | _, _, w => w
def zipE : List (LV × LV) → List (LV × LV) → List (LV × LV) → List (LV × LV)
  | a :: as, b :: bs, w => (a.1, b.1) :: (a.2, b.2) :: zipE as bs w
  | _, _, w => w
def zipO (x y : Option LObj) (w : List (LV × LV)) : List (LV × LV) := match x, y with
  | some (.cells _ a), some (.cells _ b) => zipV a b w
  | some (.map _ a _ _), some (.map _ b _ _) => zipE a b w
  | _, _ => w
def pairO (n : Nat) (m : List (Nat × Nat)) (o p : Nat) : Bool := match Nat.ble n o && Nat.ble n p with
  | true => (match m.find? (fun q => q.1 == o || q.2 == p) with
    | some _ => false
    | none => true)
  | false => false
def uni (n : Nat) (s c : LState) : Nat → List (LV × LV) → List (Nat × Nat) → List (Nat × Nat)
  | 0, _, m => m
  | k + 1, w, m => match w with
    | [] => m
    | (a, b) :: w =>
      let obj (o p : Nat) : List (Nat × Nat) := (match pairO n m o p with
        | true => uni n s c k (zipO s[o]? c[p]? w) ((o, p) :: m)
        | false => uni n s c k w m)
      match a, b with
      | .ptr o _, .ptr p _ => obj o p
      | .sl o _ _ _, .sl p _ _ _ => obj o p
      | .map o, .map p => obj o p
      | .agg x, .agg y => uni n s c k (zipV x y w) m
      | .tup x, .tup y => uni n s c k (zipV x y w) m
      | .iface _ x, .iface _ y => uni n s c k ((x, y) :: w) m
      | .fn _ x u, .fn _ y v => uni n s c k (zipV x y (zipV u v w)) m
      | _, _ => uni n s c k w m

def zipS : LState → LState → List (LV × LV) → List (LV × LV)
  | x :: s, y :: c, w => zipO (some x) (some y) (zipS s c w)
  | _, _, w => w

/-- New objects that nothing names any more. -/
def bury (n : Nat) (m : List (Nat × Nat)) : Nat → LState → LState
  | _, [] => []
  | o, x :: s => (match Nat.blt o n with
    | true => x
    | false => match m.find? (fun q => q.2 == o) with
      | some _ => x
      | none => .dead) :: bury n m (o + 1) s

def allIso (P : Program) (C : Ora) (ops : Array Oper) (bf : Array Nat) (n : Nat) (t : List LV) (st : LState) (tc : List LV) (c : LState) : List (List Nat) → Bool
  | [] => true
  | l :: ls => match runSeq P C ops bf l [] t st with
    | some (t', s') => (match isoOk n (uni n s' c 10000 (zipV t' tc (zipS (s'.take n) (c.take n) [])) []) t' s' tc c with
      | true => allIso P C ops bf n t st tc c ls
      | false => false)
    | none => false

/-- A drawn region: its first order; the others end alike. -/
def runDraw (P : Program) (C : Ora) (ops : Array Oper) (bf : Array Nat) (ls : List (List Nat)) (t : List LV) (st : LState) : Option (List LV × LState) := match ls with
  | [] => none
  | [l] => runSeq P C ops bf l [] t st
  | l :: ls => match runSeq P C ops bf l [] t st with
    | none => none
    | some (tc, sc) => forceL (bury st.length (uni st.length sc sc 10000 (zipV tc tc (zipS (sc.take st.length) (sc.take st.length) [])) []) 0 sc) fun c =>
      match allIso P C ops bf st.length t st tc c (l :: ls) with
      | true => some (tc, c)
      | false => none

def resR (P : Program) (t : List LV) (st : LState) : List ResultVar → Option (List LV)
  | [] => some []
  | .tmp i :: rs => (match resR P t st rs with
    | some vs => some (t.getD i lundef :: vs)
    | none => none)
  | .cell a ty :: rs => match lload P st ty (t.getD a lundef), resR P t st rs with
    | some v, some vs => some (v :: vs)
    | _, _ => none

def endR (P : Program) (rs : List ResultVar) (t : List LV) (st : LState) : Option (LV × LState) := match resR P t st rs with
  | some vs => some (lwrap vs, st)
  | none => none

def walk (P : Program) (C : Ora) (rs : List ResultVar) : Nat → List Item → List LV → LState → Option (LV × LState)
  | 0, _, _, _ => none
  | n + 1, k, t, st => match k with
    | [] => endR P rs t st
    | .code c :: k => (match c with
      | .skip => walk P C rs n k t st
      | .label _ => walk P C rs n k t st
      | .seq a b => walk P C rs n (.code a :: .code b :: k) t st
      | .cond c a b => (match ev t c with
        | some (.bool true) => walk P C rs n (.code a :: k) t st
        | some (.bool false) => walk P C rs n (.code b :: k) t st
        | _ => none)
      | .block id c => walk P C rs n (.code c :: .inBlock id :: k) t st
      | .loop c => walk P C rs n (.inLoop c :: k) t st
      | .scope c => walk P C rs n (.code c :: .inScope c :: k) t st
      | .goto l => (match gotoIn l k with
        | some k' => walk P C rs n k' t st
        | none => none)
      | .exit id => (match exitTo id k with
        | some k' => walk P C rs n k' t st
        | none => none)
      | .ret => endR P rs t st
      | .region _ ops draw => (match draw with
        | false => (match runOps P C ops (List.range ops.size) t st with
          | some (t, st) => walk P C rs n k t st
          | none => none)
        | true => match drawOk ops (Region.before ops) with
          | true => (match scheds (rowsOf P ops) ops.size 0 with
            | some ls => (match runDraw P C ops (Region.before ops) ls t st with
              | some (t, st) => walk P C rs n k t st
              | none => none)
            | none => none)
          | false => none)
      | _ => none)
    | .inLoop c :: k => walk P C rs n (.code c :: .inLoop c :: k) t st
    | .inBlock _ :: k => walk P C rs n k t st
    | .inScope _ :: k => walk P C rs n k t st
    | _ => none

/-- A call run to its end: m steps for each function, n calls deep; X answers where there is no Go body. -/
def lrunX (P : Program) (X : Ora) (m : Nat) : Nat → Ora
  | 0 => fun _ _ _ => none
  | n + 1 => fun f xs st => match P.funcs[f]? with
    | none => none
    | some fn => match fn.body with
      | none => X f xs st
      | some c => match fn.name == "runtime.NumGoroutine" with
        | true => none
        | false => walk P (lrunX P X m n) fn.results.toList m [.code c] (xs ++ List.replicate (fn.ntmps - xs.length) lundef) st

def lrun (P : Program) (m n : Nat) : Ora := lrunX P (fun _ _ _ => none) m n

section
variable {P : Program} {C : Ora}

theorem bd_mono {α : Type} {o : Option α} {K K' : α → Prop} (h : bd o K) (hk : ∀ a, K a → K' a) : bd o K' := by
  cases o <;> simp only [bd] at *
  exact hk _ h

theorem lnextAll_of {st st' : LState} {x v : LV} (h : lnext st x = some (v, st')) : lnextAll st x = some [(v, st')] := by
  unfold lnext at h
  split at h
  case h_2 => cases h
  rename_i r
  split at h
  · rename_i a1 a2 a3 hr
    cases h
    unfold lnextAll; simp only [hr]
  · rename_i cur hr
    cases h
    unfold lnextAll; simp only [hr]
  · rename_i cur e hr
    cases h
    unfold lnextAll; simp only [hr, picks, List.map_cons, List.map_nil]
  · rename_i o since seen last hr
    split at h
    case h_2 => cases h
    rename_i md es bs n ho
    split at h
    case isFalse => cases h
    rename_i hg
    split at h
    · rename_i hl
      cases h
      unfold lnextAll; simp only [hr, ho, if_pos hg, hl]
    · rename_i e bb hl
      split at h
      case isFalse => cases h
      rename_i hlt
      cases h
      unfold lnextAll; simp only [hr, ho, if_pos hg, hl]
      rw [if_pos (by simpa using hlt)]
      rfl
    · cases h
  · cases h

theorem lnextK_of {st st' : LState} {x v : LV} {K : LV → LState → Prop} (h : lnext st x = some (v, st')) (hk : K v st') : lnextK st x K := by
  unfold lnextK
  rw [lnextAll_of h]
  exact ⟨hk, trivial⟩

theorem runOp_sound (hC : OraOk P C) {o : Oper} {t : List LV} {st st' : LState} {v : LV} {K : LV → LState → Prop} (h : runOp P C o t st = some (v, st')) (hk : K v st') : levOp P o t st K := by
  unfold runOp at h
  unfold levOp
  split at h <;> rename_i e <;> simp only [e]
  · split at h
    · rename_i u hu
      rw [forceV_eq] at h; cases h
      rw [hu]; exact hk
    · cases h
  · split at h
    · rename_i u hu
      rw [forceV_eq] at h; cases h
      rw [hu]; exact hk
    · cases h
  · rw [h]; exact hk
  · split at h
    · rename_i c e
      simp only [e]
      split at h
      · rename_i f xs hx
        rw [hx]; exact hC _ _ _ _ _ h K hk
      · cases h
    · cases h
  · split at h
    · rename_i it e
      simp only [e]
      split at h
      · rename_i x hx
        rw [hx]; exact lnextK_of h hk
      · cases h
    · cases h
  · cases h

def wsel (want : Bool) (p q : Prop) : Prop := match want with
  | true => p
  | false => q

/-- What a guard says, as levOps asks it. -/
theorem wantR_gsel {ops : Array Oper} {o : Oper} {t : List LV} {b : Bool} {j : Nat} {want : Bool} (hg : o.guard = some (j, want)) (h : wantR ops o t = some b) : ∃ d, (ops[j]?).bind (·.dst) = some d ∧
    ∀ (run skip : List LV → Prop), (cond b (run t) (skip t)) →
      gsel (guarded ops j) (t.getD d lundef) (wsel want (run (t.set d (.bool true))) (skip (t.set d (.bool true)))) (wsel want (skip (t.set d (.bool false))) (run (t.set d (.bool false)))) (skip t) := by
  unfold wantR at h
  simp only [hg] at h
  split at h
  · cases h
  · rename_i d hd
    refine ⟨d, hd, fun run skip hr => ?_⟩
    split at h
    · rename_i c hc
      cases h
      have hs := (getD_bool hc).2
      rw [hc]
      cases c <;> cases want <;> cases hgd : guarded ops j <;> simp only [gsel, bsel, tsel, wsel] <;> rw [hs] <;> exact hr
    · rename_i hc
      rw [hc]
      split at h
      · rename_i hgd
        cases h
        rw [hgd]; exact hr
      · cases h
    · cases h

theorem runOps_sound (hC : OraOk P C) {ops : Array Oper} {K : List LV → LState → Prop} : ∀ {l : List Nat} {t t' : List LV} {st st' : LState},
    runOps P C ops l t st = some (t', st') → K t' st' → levOps P ops l K t st
  | [], t, t', st, st', h, hk => by simp only [runOps, forceL_eq] at h; cases h; exact hk
  | i :: rest, t, t', st, st', h, hk => by
    have go : ∀ {t st}, runOps P C ops rest t st = some (t', st') → levOps P ops rest K t st := fun h => runOps_sound hC h hk
    unfold runOps at h
    unfold levOps
    cases ho : ops[i]? with
    | none => simp only [ho] at h; cases h
    | some o =>
      simp only [ho] at h ⊢
      cases hw : wantR ops o t with
      | none => simp only [hw] at h; cases h
      | some b =>
        have fin : cond b (levOp P o t st fun v st' => splitV (nestG ops i) v fun v => force (lput t o.dst v) fun t => levOps P ops rest K t st') (force (lput t o.dst lundef) fun t => levOps P ops rest K t st) := by
          cases b with
          | true =>
            simp only [hw] at h
            split at h
            · rename_i v s hv
              split at h
              · rename_i hb
                refine runOp_sound (K := fun v st' => splitV (nestG ops i) v fun v => force (lput t o.dst v) fun t => levOps P ops rest K t st') hC hv (splitV_of hb ?_)
                show force _ _
                rw [force_eq]; exact go h
              · cases h
            · cases h
          | false =>
            simp only [hw] at h
            show force _ _
            rw [force_eq]; exact go h
        cases hg : o.guard with
        | none =>
          simp only
          have : b = true := by simp only [wantR, hg] at hw; cases hw; rfl
          subst this; exact fin
        | some p =>
          obtain ⟨j, want⟩ := p
          obtain ⟨d, hd, hs⟩ := wantR_gsel hg hw
          simp only [hd]
          have := hs (fun t => levOp P o t st fun v st' => splitV (nestG ops i) v fun v => force (lput t o.dst v) fun t => levOps P ops rest K t st') (fun t => force (lput t o.dst lundef) fun t => levOps P ops rest K t st) fin
          cases want <;> exact this

theorem rechk_sound {ops : Array Oper} {bf : Array Nat} {i : Nat} {st : LState} {R : Prop} : ∀ {pend : List (Nat × List LV × LV)}, rechk P ops bf i st pend = true → R → recheck P ops bf i st pend R
  | [], _, hr => hr
  | (j, t, v) :: r, h, hr => by
    unfold rechk at h
    unfold recheck
    cases hb : (bf.getD i 0).testBit j with
    | true => simp only [hb] at h ⊢; exact rechk_sound h hr
    | false =>
      simp only [hb] at h ⊢
      cases ho : ops[j]? with
      | none => simp only [ho] at h; cases h
      | some o =>
        simp only [ho] at h ⊢
        split at h
        · rename_i u hu
          split at h
          · rename_i hs; exact ⟨by rw [hu, LV.same_eq hs], rechk_sound h hr⟩
          · cases h
        · cases h

/-- One operation of a run is one step of the walk. -/
theorem runSeq_step (hC : OraOk P C) {ops : Array Oper} {bf : Array Nat} {i : Nat} {l : List Nat} {pend : List (Nat × List LV × LV)} {t t' : List LV} {st st' : LState} {next : List (Nat × List LV × LV) → List LV → LState → Prop}
    (h : runSeq P C ops bf (i :: l) pend t st = some (t', st')) : ∃ p1 t1 s1, (∀ l', runSeq P C ops bf (i :: l') pend t st = runSeq P C ops bf l' p1 t1 s1) ∧ (next p1 t1 s1 → drawStep P ops bf i pend t st next) := by
  unfold runSeq at h
  cases ho : ops[i]? with
  | none => simp only [ho] at h; cases h
  | some o =>
    simp only [ho] at h
    cases hw : wantR ops o t with
    | none => simp only [hw] at h; cases h
    | some b =>
      have fin : cond b (drawOp P ops bf i o pend t st fun p v s => splitV (nestG ops i) v fun v => force (lput t o.dst v) fun t => next p t s) (force (lput t o.dst lundef) fun t => next pend t st) →
          drawStep P ops bf i pend t st next := by
        intro fin
        unfold drawStep
        simp only [ho]
        cases hg : o.guard with
        | none =>
          simp only
          have : b = true := by simp only [wantR, hg] at hw; cases hw; rfl
          subst this; exact fin
        | some p =>
          obtain ⟨j, want⟩ := p
          obtain ⟨d, hd, hs⟩ := wantR_gsel hg hw
          simp only [hd]
          have := hs (fun t => drawOp P ops bf i o pend t st fun p v s => splitV (nestG ops i) v fun v => force (lput t o.dst v) fun t => next p t s) (fun t => force (lput t o.dst lundef) fun t => next pend t st) fin
          cases want <;> exact this
      cases b with
      | false =>
        refine ⟨pend, lput t o.dst lundef, st, fun l' => ?_, fun hn => fin (by show force _ _; rw [force_eq]; exact hn)⟩
        rw [runSeq]; simp only [ho, hw]
      | true =>
        simp only [hw] at h
        cases hv : runOp P C o t st with
        | none => simp only [hv] at h; cases h
        | some r =>
          obtain ⟨v, s⟩ := r
          simp only [hv] at h
          cases hbi : boolIf (nestG ops i) v with
          | false => simp only [hbi] at h; cases h
          | true =>
          simp only [hbi] at h
          have hop := fun (K : LV → LState → Prop) (hk : K v s) => runOp_sound hC hv hk
          cases hc : cls P o.op with
          | A =>
            refine ⟨pend, lput t o.dst v, s, fun l' => ?_, fun hn => fin ?_⟩
            · rw [runSeq]; simp only [ho, hw, hv, hbi, hc]
            · have := hop (fun v s => splitV (nestG ops i) v fun v => force (lput t o.dst v) fun t => next pend t s) (splitV_of hbi (by rw [force_eq]; exact hn))
              show drawOp P ops bf i o pend t st fun p v s => splitV (nestG ops i) v fun v => force (lput t o.dst v) fun t => next p t s
              unfold levOp at this
              unfold drawOp
              simp only [hc] at this ⊢
              unfold runOp at hv
              simp only [hc] at hv
              split at hv
              · rw [forceV_eq] at hv; cases hv; exact this
              · cases hv
          | L =>
            refine ⟨(i, t, v) :: pend, lput t o.dst v, s, fun l' => ?_, fun hn => fin ?_⟩
            · rw [runSeq]; simp only [ho, hw, hv, hbi, hc]
            · show drawOp P ops bf i o pend t st fun p v s => splitV (nestG ops i) v fun v => force (lput t o.dst v) fun t => next p t s
              unfold drawOp
              unfold runOp at hv
              simp only [hc] at hv ⊢
              split at hv
              · rename_i u hu
                rw [forceV_eq] at hv; cases hv
                rw [hu]
                rw [bd_some]
                refine splitV_of hbi ?_
                rw [force_eq]; exact hn
              · cases hv
          | W =>
            simp only [hc] at h
            cases hr : rechk P ops bf i s pend with
            | false => simp only [hr] at h; cases h
            | true =>
              refine ⟨pend, lput t o.dst v, s, fun l' => ?_, fun hn => fin ?_⟩
              · rw [runSeq]; simp only [ho, hw, hv, hbi, hc, hr]
              · have := hop (fun v s => recheck P ops bf i s pend (splitV (nestG ops i) v fun v => force (lput t o.dst v) fun t => next pend t s)) (rechk_sound hr (splitV_of hbi (by rw [force_eq]; exact hn)))
                show drawOp P ops bf i o pend t st fun p v s => splitV (nestG ops i) v fun v => force (lput t o.dst v) fun t => next p t s
                unfold levOp at this
                unfold drawOp
                simp only [hc] at this ⊢
                exact this
          | C =>
            simp only [hc] at h
            cases hr : rechk P ops bf i s pend with
            | false => simp only [hr] at h; cases h
            | true =>
              refine ⟨pend, lput t o.dst v, s, fun l' => ?_, fun hn => fin ?_⟩
              · rw [runSeq]; simp only [ho, hw, hv, hbi, hc, hr]
              · have := hop (fun v s => recheck P ops bf i s pend (splitV (nestG ops i) v fun v => force (lput t o.dst v) fun t => next pend t s)) (rechk_sound hr (splitV_of hbi (by rw [force_eq]; exact hn)))
                show drawOp P ops bf i o pend t st fun p v s => splitV (nestG ops i) v fun v => force (lput t o.dst v) fun t => next p t s
                unfold levOp at this
                unfold drawOp
                simp only [hc] at this ⊢
                exact this
          | N =>
            simp only [hc] at h
            cases hr : rechk P ops bf i s pend with
            | false => simp only [hr] at h; cases h
            | true =>
              refine ⟨pend, lput t o.dst v, s, fun l' => ?_, fun hn => fin ?_⟩
              · rw [runSeq]; simp only [ho, hw, hv, hbi, hc, hr]
              · have := hop (fun v s => recheck P ops bf i s pend (splitV (nestG ops i) v fun v => force (lput t o.dst v) fun t => next pend t s)) (rechk_sound hr (splitV_of hbi (by rw [force_eq]; exact hn)))
                show drawOp P ops bf i o pend t st fun p v s => splitV (nestG ops i) v fun v => force (lput t o.dst v) fun t => next p t s
                unfold levOp at this
                unfold drawOp
                simp only [hc] at this ⊢
                exact this
          | no =>
            unfold runOp at hv
            simp only [hc] at hv
            cases hv

theorem allIn_of {f : Nat → Prop} : ∀ {l : List Nat}, (∀ i ∈ l, f i) → allIn f l
  | [], _ => trivial
  | [x], h => h x (by simp)
  | x :: y :: l, h => ⟨h x (by simp), allIn_of fun i hi => h i (List.mem_cons_of_mem _ hi)⟩

theorem schedMany_spec {f : Nat → Option (List (List Nat))} : ∀ {l : List Nat} {ls : List (List Nat)}, schedMany f l = some ls → ∀ i ∈ l, ∃ a, f i = some a ∧ ∀ x ∈ a, i :: x ∈ ls
  | [], ls, _, i, hi => by simp at hi
  | j :: l, ls, h, i, hi => by
    simp only [schedMany] at h
    split at h
    · rename_i a b ha hb
      cases h
      rcases List.mem_cons.1 hi with e | hi
      · subst e; exact ⟨a, ha, fun x hx => List.mem_append.2 (.inl (List.mem_map.2 ⟨x, hx, rfl⟩))⟩
      · obtain ⟨a', h1, h2⟩ := schedMany_spec hb i hi
        exact ⟨a', h1, fun x hx => List.mem_append.2 (.inr (h2 x hx))⟩
    · cases h

theorem pick_many_ne {rows : List (Nat × Bool)} {m : Nat} : ∀ {r : List (Nat × Bool)} {i : Nat} {c l : List Nat}, pickGo m r i c = .many l → l ≠ []
  | [], i, c, l, h => by
    match c, h with
    | [], h => simp [pickGo] at h
    | [x], h => simp [pickGo] at h
    | x :: y :: c, h => simp only [pickGo, Pk.many.injEq] at h; rw [← h]; simp
  | (p, q) :: r, i, c, l, h => by
    simp only [pickGo] at h
    split at h
    · exact pick_many_ne (rows := rows) h
    · split at h
      · cases h
      · exact pick_many_ne (rows := rows) h

theorem scheds_ne {rows : List (Nat × Bool)} : ∀ {n m : Nat} {ls : List (List Nat)}, scheds rows n m = some ls → ∃ l, l ∈ ls
  | 0, m, ls, h => by
    simp only [scheds] at h
    split at h
    · cases h; exact ⟨_, List.mem_singleton.2 rfl⟩
    · cases h
  | n + 1, m, ls, h => by
    simp only [scheds] at h
    split at h
    · cases h; exact ⟨_, List.mem_singleton.2 rfl⟩
    · split at h
      · rename_i a ha
        cases h
        obtain ⟨l, hl⟩ := scheds_ne ha
        exact ⟨_, List.mem_map.2 ⟨l, hl, rfl⟩⟩
      · cases h
    · rename_i l hp
      have hne := pick_many_ne (rows := rows) hp
      cases l with
      | nil => exact absurd rfl hne
      | cons i l =>
        obtain ⟨a, ha, hx⟩ := schedMany_spec h i (by simp)
        obtain ⟨x, hxa⟩ := scheds_ne ha
        exact ⟨_, hx x hxa⟩

theorem scheds_sound (hC : OraOk P C) {ops : Array Oper} {bf : Array Nat} {rows : List (Nat × Bool)} {K : List LV → LState → Prop} : ∀ {n m : Nat} {ls : List (List Nat)} {pend : List (Nat × List LV × LV)} {t : List LV} {st : LState},
    scheds rows n m = some ls → (∀ l ∈ ls, ∃ t' st', runSeq P C ops bf l pend t st = some (t', st') ∧ K t' st') → levDraw P ops bf rows K n m pend t st
  | 0, m, ls, pend, t, st, h, hk => by
    simp only [scheds] at h
    simp only [levDraw]
    split at h
    · rename_i hp
      cases h
      obtain ⟨t', st', h1, h2⟩ := hk [] (by simp)
      simp only [runSeq, forceL_eq] at h1; cases h1
      simp only [hp]; exact h2
    · cases h
  | n + 1, m, ls, pend, t, st, h, hk => by
    -- one of the first operations, and all that may come behind it
    have step : ∀ {i : Nat} {a : List (List Nat)}, scheds rows n (m ||| 2 ^ i) = some a → (∀ x ∈ a, i :: x ∈ ls) →
        drawStep P ops bf i pend t st fun pend t st => levDraw P ops bf rows K n (m ||| 2 ^ i) pend t st := by
      intro i a ha hx
      obtain ⟨l0, hl0⟩ := scheds_ne ha
      obtain ⟨t', st', h1, _⟩ := hk _ (hx _ hl0)
      obtain ⟨p1, t1, s1, h2, h3⟩ := runSeq_step hC (next := fun pend t st => levDraw P ops bf rows K n (m ||| 2 ^ i) pend t st) h1
      refine h3 (scheds_sound hC ha fun l hl => ?_)
      rw [← h2 l]
      exact hk _ (hx _ hl)
    simp only [scheds] at h
    simp only [levDraw]
    split at h
    · rename_i hp
      cases h
      obtain ⟨t', st', h1, h2⟩ := hk [] (by simp)
      simp only [runSeq, forceL_eq] at h1; cases h1
      simp only [hp]; exact h2
    · rename_i i hp
      simp only [hp]
      split at h
      · rename_i a ha
        cases h
        exact step ha fun x hx => List.mem_map.2 ⟨x, hx, rfl⟩
      · cases h
    · rename_i l hp
      simp only [hp]
      refine allIn_of fun i hi => ?_
      obtain ⟨a, ha, hx⟩ := schedMany_spec h i hi
      exact step ha hx

theorem allIso_spec {ops : Array Oper} {bf : Array Nat} {n : Nat} {t tc : List LV} {st c : LState} : ∀ {ls : List (List Nat)}, allIso P C ops bf n t st tc c ls = true →
    ∀ l ∈ ls, ∃ t' s', runSeq P C ops bf l [] t st = some (t', s') ∧ ∃ m, isoOk n m t' s' tc c = true
  | [], _, l, hl => by simp at hl
  | l :: ls, h, x, hx => by
    simp only [allIso] at h
    split at h
    · rename_i t' s' hr
      split at h
      · rename_i hi
        rcases List.mem_cons.1 hx with e | hx
        · subst e; exact ⟨t', s', hr, _, hi⟩
        · exact allIso_spec h x hx
      · cases h
    · cases h

theorem resR_sound {t : List LV} {st : LState} : ∀ {rs : List ResultVar} {vs : List LV} {K : List LV → Prop}, resR P t st rs = some vs → K vs → lendK P t st rs K
  | [], vs, K, h, hk => by simp only [resR] at h; cases h; exact hk
  | .tmp i :: rs, vs, K, h, hk => by
    simp only [resR] at h
    split at h
    · rename_i us hu
      cases h
      exact resR_sound (K := fun vs => K (t.getD i lundef :: vs)) hu hk
    · cases h
  | .cell a ty :: rs, vs, K, h, hk => by
    simp only [resR] at h
    split at h
    · rename_i v us hv hu
      cases h
      simp only [lendK, hv, bd]
      exact resR_sound (K := fun vs => K (v :: vs)) hu hk
    · cases h

theorem endR_sound {rs : List ResultVar} {R : LV → LState → Prop} {t : List LV} {st st' : LState} {v : LV} (h : endR P rs t st = some (v, st')) (hk : R v st') : lend P rs R t st := by
  unfold endR at h
  split at h
  · rename_i vs hv
    cases h
    exact resR_sound (K := fun vs => R (lwrap vs) st) hv hk
  · cases h

theorem step_scope' {b : Frame} {a : Act} {c : Code} {k : List Item} {cs : List Frame} {w : World} : step P (lone (b.at a (.code (.scope c) :: k)) cs w) = .next (lone (b.at a (.code c :: .inScope c :: k)) cs w) :=
  step_lone_go (by simp [stepG, stepG.exec, Frame.at])

theorem step_goto' {b : Frame} {a : Act} {l : Nat} {k k' : List Item} {cs : List Frame} {w : World} (h : gotoIn l k = some k') : step P (lone (b.at a (.code (.goto l) :: k)) cs w) = .next (lone (b.at a k') cs w) :=
  step_lone_go (by simp [stepG, stepG.exec, Frame.at, h])

theorem walk_sound (hm : P.follows .mixedOrders = true) (hC : OraOk P C) {rs : List ResultVar} {R : LV → LState → Prop} {v : LV} {st' : LState} (hR : R v st') : ∀ (n : Nat) {k : List Item} {t : List LV} {st : LState},
    walk P C rs n k t st = some (v, st') → LT P rs k R t st
  | 0, k, t, st, h => by simp [walk] at h
  | n + 1, k, t, st, h => by
    have go : ∀ {k t st}, walk P C rs n k t st = some (v, st') → LT P rs k R t st := fun h => walk_sound hm hC hR n h
    have one : ∀ {k t st}, levT P rs R [] [] 1 k t st → LT P rs k R t st := fun h => levT_sound hm 1 h
    unfold walk at h
    split at h
    · exact one (endR_sound h hR)
    · split at h
      · exact one (go h)
      · exact one (go h)
      · exact one (go h)
      · split at h
        · rename_i he
          exact one (by unfold levT; simp only [he, bd, bsel]; exact go h)
        · rename_i he
          exact one (by unfold levT; simp only [he, bd, bsel]; exact go h)
        · cases h
      · exact one (go h)
      · exact one (go h)
      · exact LT.move (fun b a cs w => step_scope') (go h)
      · split at h
        · rename_i hx
          exact LT.move (fun b a cs w => step_goto' hx) (go h)
        · cases h
      · split at h
        · rename_i hx
          exact one (by unfold levT; simp only [hx]; exact go h)
        · cases h
      · exact one (endR_sound h hR)
      · rename_i id ops draw
        split at h
        · split at h
          · rename_i hr
            exact one (by unfold levT; exact runOps_sound hC hr (go h))
          · cases h
        · split at h
          · rename_i hok
            split at h
            · rename_i ls hs
              split at h
              · rename_i t2 s2 hr
                -- the drawn region
                refine LT.code fun w0 β w a h1 h2 h3 => ?_
                have start : Inv P ops t t (maskArr ops.size 0) (Array.replicate ops.size false) t [] st := by
                  have hn : ∀ (N i : Nat), ¬ In (Array.replicate N false) i := by
                    intro N i hi
                    unfold In at hi
                    simp [Array.getElem?_replicate] at hi
                    split at hi <;> simp at hi
                  have he : ∀ N, maskArr N 0 = Array.replicate N false := fun N => by apply Array.ext <;> simp [maskArr]
                  rw [he]
                  exact ⟨⟨by simp, fun i o hi => absurd hi (hn _ i)⟩, ⟨by simp, fun i o hi => absurd hi (hn _ i)⟩, fun i hi => hi, ⟨rfl, fun i o d hi => absurd hi (hn _ i), fun _ _ => rfl⟩, ⟨rfl, fun i o d hi => absurd hi (hn _ i), fun _ _ => rfl⟩,
                    fun i o hi => absurd hi (hn _ i), fun j o hj => absurd hj (hn _ j)⟩
                have htd : todo ops (Array.replicate ops.size false) ≤ ops.size := by
                  unfold todo
                  exact Nat.le_trans (List.length_filter_le _ _) (by simp)
                have hdom : ∀ o, st.length ≤ o → β o = none := h1.dom
                have ends : ∃ K : List LV → LState → Prop, (∀ l ∈ ls, ∃ t' st', runSeq P C ops (Region.before ops) l [] t st = some (t', st') ∧ K t' st') ∧
                    ∀ β' t' s' w' us, K t' s' → Rel w0 β' s' w' → Rps β' t' us → β.le β' → ∃ β'', Rel w0 β'' s2 w' ∧ Rps β'' t2 us ∧ β.le β'' := by
                  unfold runDraw at hr
                  split at hr
                  · cases hr
                  · exact ⟨fun t' s' => t' = t2 ∧ s' = s2, fun l' hl' => by simp at hl'; subst hl'; exact ⟨_, _, hr, rfl, rfl⟩, fun β' t' s' w' us ⟨e1, e2⟩ k1 k2 k3 => by subst e1; subst e2; exact ⟨β', k1, k2, k3⟩⟩
                  · split at hr
                    · cases hr
                    · rw [forceL_eq] at hr
                      split at hr
                      · rename_i hall
                        simp only [Option.some.injEq, Prod.mk.injEq] at hr
                        obtain ⟨e1, e2⟩ := hr
                        rw [e2, e1] at hall
                        refine ⟨fun t' s' => ∃ m, isoOk st.length m t' s' t2 s2 = true, fun l' hl' => ?_, fun β' t' s' w' us ⟨m, hm⟩ k1 k2 k3 => ?_⟩
                        · obtain ⟨t', s', e1, e2⟩ := allIso_spec hall l' hl'
                          exact ⟨t', s', e1, e2⟩
                        · obtain ⟨e1, e2, e3⟩ := k1.iso k2 k3 hdom hm
                          exact ⟨_, e1, e2, e3⟩
                      · cases hr
                obtain ⟨K, hK1, hK2⟩ := ends
                refine wp_region_any hm (draw_any (ok_of hok) _ (T0 := t) (T := t) (TD := t) (D := Array.replicate _ false) (m := 0) (pend := []) (n := ops.size) (β := β) (K := K) start (scheds_sound hC hs hK1) (h1.draws (Nat.le_succ _)) h2 h3 htd ?_)
                intro β' t' st'' a' w' k1 k2 k3 k4 k5
                obtain ⟨β'', e1, e2, e3⟩ := hK2 _ _ _ _ _ k1 k2 k3 k5
                exact ⟨rfl, β'', t2, s2, go h, e1, e2, k4, e3⟩
              · cases h
            · cases h
          · cases h
      · cases h
    · exact LT.move (fun b a cs w => step_inLoop) (go h)
    · exact one (go h)
    · exact one (go h)
    · cases h

/-- A run is a call. -/
theorem lrunX_ok (hm : P.follows .mixedOrders = true) {X : Ora} (hX : OraOk P X) {m : Nat} : ∀ n, OraOk P (lrunX P X m n)
  | 0 => fun _ _ _ _ _ h => by simp [lrunX] at h
  | n + 1 => fun f xs st v st' h K hK => by
    unfold lrunX at h
    split at h
    · cases h
    · rename_i fn hf
      split at h
      · exact hX _ _ _ _ _ h K hK
      · rename_i c hb
        split at h
        · cases h
        · rename_i hn
          exact LCalls.of hm hf hb hn rfl (walk_sound hm (lrunX_ok hm hX n) hK m h)

theorem lrun_ok (hm : P.follows .mixedOrders = true) {m : Nat} (n : Nat) : OraOk P (lrun P m n) := lrunX_ok hm (fun _ _ _ _ _ h => by cases h) n

end
end Go.CP

