/- The clean machine, part 20: regions whose order is drawn: one walk, the quiet operations first, serves every order. The definitions, and what operands say. -/
/- The clean machine, part 21: what is waited for; which names agree; one walk serves every order. -/
import Derived.Test.YtknegckgmklnhaaGreatDoorCp18
namespace Go.CP

def isQuiet (P : Program) (o : Oper) : Bool := match cls P o.op with
  | .A | .L => true
  | _ => false

inductive Pk where
  | done
  | one (i : Nat)
  | many (l : List Nat)

/-- Of each operation: what it waits for, as bits, and whether it is quiet. -/
def rowsOf (P : Program) (ops : Array Oper) : List (Nat × Bool) :=
  ops.toList.map fun o => (o.after.toList.foldl (fun s e => if Region.binds .any e then s ||| 2 ^ e.on else s) 0, isQuiet P o)

/-- Which operation comes next: a quiet one that is ready, else those that are ready. m: what is done, as bits. -/
def pickGo (m : Nat) : List (Nat × Bool) → Nat → List Nat → Pk
  | [], _, [] => .done
  | [], _, [j] => .one j
  | [], _, l => .many l
  | (p, q) :: r, i, c => match m.testBit i || !((p &&& m) == p) with
    | true => pickGo m r (i + 1) c
    | false => match q with
      | true => .one i
      | false => pickGo m r (i + 1) (i :: c)

def pickOp (rows : List (Nat × Bool)) (m : Nat) : Pk := pickGo m rows 0 []

/-- What was read ahead of a write must read the same behind it, unless the write waits for it. -/
def recheck (P : Program) (ops : Array Oper) (bf : Array Nat) (i : Nat) (st : LState) : List (Nat × List LV × LV) → Prop → Prop
  | [], R => R
  | (j, t, v) :: r, R => match (bf.getD i 0).testBit j with
    | true => recheck P ops bf i st r R
    | false => (match ops[j]? with
      | some o => lopL P t st o.op = some v
      | none => False) ∧ recheck P ops bf i st r R

/-- One operation of such a region. -/
def drawOp (P : Program) (ops : Array Oper) (bf : Array Nat) (i : Nat) (o : Oper) (pend : List (Nat × List LV × LV)) (t : List LV) (st : LState)
    (next : List (Nat × List LV × LV) → LV → LState → Prop) : Prop := match cls P o.op with
  | .A => bd (lopA P t o.op) fun v => next pend v st
  | .L => bd (lopL P t st o.op) fun v => next ((i, t, v) :: pend) v st
  | .W => bd2 (lopW P t st o.op) fun v st' => recheck P ops bf i st' pend (next pend v st')
  | .C => match o.op with
    | .call c => bd2 (lcallee t c) fun f xs => LCalls P f xs st fun v st' => recheck P ops bf i st' pend (next pend v st')
    | _ => False
  | .N => match o.op with
    | .next it false => bd (ev t it) fun x => lnextK st x fun v st' => recheck P ops bf i st' pend (next pend v st')
    | _ => False
  | .no => False

/-- One operation, by its guard. -/
def drawStep (P : Program) (ops : Array Oper) (bf : Array Nat) (i : Nat) (pend : List (Nat × List LV × LV)) (t : List LV) (st : LState)
    (next : List (Nat × List LV × LV) → List LV → LState → Prop) : Prop := match ops[i]? with
  | none => False
  | some o => match o.guard with
    | none => drawOp P ops bf i o pend t st fun pend v st' => splitV (nestG ops i) v fun v => force (lput t o.dst v) fun t => next pend t st'
    | some (j, want) => match (ops[j]?).bind (·.dst) with
      | none => False
      | some d => gsel (guarded ops j) (t.getD d lundef)
          (match want with
            | true => drawOp P ops bf i o pend (t.set d (.bool true)) st fun pend v st' => splitV (nestG ops i) v fun v => force (lput (t.set d (.bool true)) o.dst v) fun t => next pend t st'
            | false => force (lput (t.set d (.bool true)) o.dst lundef) fun t => next pend t st)
          (match want with
            | true => force (lput (t.set d (.bool false)) o.dst lundef) fun t => next pend t st
            | false => drawOp P ops bf i o pend (t.set d (.bool false)) st fun pend v st' => splitV (nestG ops i) v fun v => force (lput (t.set d (.bool false)) o.dst v) fun t => next pend t st')
          (force (lput t o.dst lundef) fun t => next pend t st)

/-- Of all of a list. -/
def allIn (f : Nat → Prop) : List Nat → Prop
  | [] => True
  | [i] => f i
  | i :: l => f i ∧ allIn f l

def levDraw (P : Program) (ops : Array Oper) (bf : Array Nat) (rows : List (Nat × Bool)) (K : List LV → LState → Prop) : Nat → Nat → List (Nat × List LV × LV) → List LV → LState → Prop
  | 0, m, _, t, st => match pickOp rows m with
    | .done => K t st
    | _ => False
  | n + 1, m, pend, t, st => match pickOp rows m with
    | .done => K t st
    | .one i => drawStep P ops bf i pend t st fun pend t st => levDraw P ops bf rows K n (m ||| 2 ^ i) pend t st
    | .many l => allIn (fun i => drawStep P ops bf i pend t st fun pend t st => levDraw P ops bf rows K n (m ||| 2 ^ i) pend t st) l

/-- No name is written twice; who names what another writes waits for it, or is waited for; the order of the text is one of the orders. -/
def drawOk (ops : Array Oper) (bf : Array Nat) : Bool :=
  ((List.range ops.size).all fun i => match ops[i]? with
    | none => false
    | some o => (o.after.toList.all fun e => !Region.binds .any e || decide (e.on < i)) &&
      (List.range ops.size).all fun j => i == j || match (ops[j]?).bind (·.dst) with
        | none => true
        | some d => o.dst != some d && (!(o.looksAt ops).contains d || (bf.getD i 0).testBit j || (bf.getD j 0).testBit i))

/-! ### what operands say -/

def opTmps (o : Op) : List Tmp := o.operands.toList.filterMap fun | .tmp t => some t | _ => none

section
variable {P : Program} {t t' : List LV}

theorem ev_congr {x : Operand} (h : ∀ k, x = .tmp k → t.getD k lundef = t'.getD k lundef) : ev t x = ev t' x := by
  cases x <;> simp only [ev]
  rw [h _ rfl]

theorem evs_congr : ∀ {xs : List Operand}, (∀ k, Operand.tmp k ∈ xs → t.getD k lundef = t'.getD k lundef) → evs t xs = evs t' xs
  | [], _ => rfl
  | x :: xs, h => by
    simp only [evs]
    rw [ev_congr (x := x) (fun k e => h k (by simp [e])), evs_congr (xs := xs) (fun k e => h k (by simp [e]))]

theorem evp_congr : ∀ {xs : List (Nat × Operand)}, (∀ k, Operand.tmp k ∈ xs.map (·.2) → t.getD k lundef = t'.getD k lundef) → evp t xs = evp t' xs
  | [], _ => rfl
  | (i, x) :: xs, h => by
    simp only [evp]
    rw [ev_congr (x := x) (fun k e => h k (by simp [e])), evp_congr (xs := xs) (fun k e => h k (by simp only [List.map_cons, List.mem_cons]; exact .inr e))]

theorem evo_congr {x : Option Operand} (h : ∀ k, x = some (.tmp k) → t.getD k lundef = t'.getD k lundef) : evo t x = evo t' x := by
  cases x with
  | none => rfl
  | some x => simp only [evo]; rw [ev_congr (x := x) (fun k e => h k (by rw [e]))]

theorem mem_opTmps {o : Op} {k : Nat} : k ∈ opTmps o ↔ Operand.tmp k ∈ o.operands := by
  unfold opTmps
  rw [List.mem_filterMap]
  constructor
  · rintro ⟨x, hx, e⟩
    cases x <;> simp at e
    subst e; simpa using hx
  · intro h
    exact ⟨.tmp k, by simpa using h, rfl⟩

theorem lopA_congr {o : Op} (h : ∀ k ∈ opTmps o, t.getD k lundef = t'.getD k lundef) : lopA P t o = lopA P t' o := by
  have h' : ∀ k, Operand.tmp k ∈ o.operands → t.getD k lundef = t'.getD k lundef := fun k hk => h k (mem_opTmps.2 hk)
  clear h
  cases o <;> simp only [lopA] <;> simp only [Op.operands] at h'
  case move x => exact ev_congr fun k e => h' k (by simp [e])
  case assign x => exact ev_congr fun k e => h' k (by simp [e])
  case pick c a b =>
    rw [ev_congr (x := c) fun k e => h' k (by simp [e]), ev_congr (x := a) fun k e => h' k (by simp [e]), ev_congr (x := b) fun k e => h' k (by simp [e])]
  case nilCheck x => rw [ev_congr (x := x) fun k e => h' k (by simp [e])]
  case binOp op ty x y yt => rw [ev_congr (x := x) fun k e => h' k (by simp [e]), ev_congr (x := y) fun k e => h' k (by simp [e])]
  case unOp op ty x => rw [ev_congr (x := x) fun k e => h' k (by simp [e])]
  case convert s d x => rw [ev_congr (x := x) fun k e => h' k (by simp [e])]
  case makeInterface ty x => rw [ev_congr (x := x) fun k e => h' k (by simp [e])]
  case makeFunc fn xs ys => rw [evs_congr (xs := xs.toList) fun k e => h' k (by simp; left; simpa using e), evs_congr (xs := ys.toList) fun k e => h' k (by simp; right; simpa using e)]
  case field ty x f => rw [ev_congr (x := x) fun k e => h' k (by simp [e])]
  case fieldAddr ty x f => rw [ev_congr (x := x) fun k e => h' k (by simp [e])]
  case indexAddr ty x i => rw [ev_congr (x := x) fun k e => h' k (by simp [e]), ev_congr (x := i) fun k e => h' k (by simp [e])]
  case index ty x i => rw [ev_congr (x := x) fun k e => h' k (by simp [e]), ev_congr (x := i) fun k e => h' k (by simp [e])]
  case slice ty x l hh m =>
    rw [ev_congr (x := x) fun k e => h' k (by simp [e]), evo_congr (x := l) fun k e => h' k (by simp [e]), evo_congr (x := hh) fun k e => h' k (by simp [e]), evo_congr (x := m) fun k e => h' k (by simp [e])]
  case extract x i => rw [ev_congr (x := x) fun k e => h' k (by simp [e])]
  case typeAssert x xt a ok => rw [ev_congr (x := x) fun k e => h' k (by simp [e])]
  case build ty parts => rw [evp_congr (xs := parts.toList) fun k e => h' k (by simpa using e)]
  case call c => rw [evs_congr (xs := c.args.toList) fun k e => h' k (by simp only [Call.operands]; exact Array.mem_append.2 (.inr (by simpa using e)))]

theorem lopL_congr {o : Op} {st : LState} (h : ∀ k ∈ opTmps o, t.getD k lundef = t'.getD k lundef) : lopL P t st o = lopL P t' st o := by
  have h' : ∀ k, Operand.tmp k ∈ o.operands → t.getD k lundef = t'.getD k lundef := fun k hk => h k (mem_opTmps.2 hk)
  clear h
  cases o <;> simp only [lopL] <;> simp only [Op.operands] at h'
  case load ty x => rw [ev_congr (x := x) fun k e => h' k (by simp [e])]
  case entry x => rw [ev_congr (x := x) fun k e => h' k (by simp [e])]
  case lookup ty x k ok => rw [ev_congr (x := x) fun k e => h' k (by simp [e]), ev_congr (x := k) fun j e => h' j (by simp [e])]
  case slice ty x l hh m =>
    rw [ev_congr (x := x) fun k e => h' k (by simp [e]), evo_congr (x := l) fun k e => h' k (by simp [e]), evo_congr (x := hh) fun k e => h' k (by simp [e]), evo_congr (x := m) fun k e => h' k (by simp [e])]
  case convert s d x => rw [ev_congr (x := x) fun k e => h' k (by simp [e])]
  case call c => rw [evs_congr (xs := c.args.toList) fun k e => h' k (by simp only [Call.operands]; exact Array.mem_append.2 (.inr (by simpa using e)))]

theorem lopW_congr {o : Op} {st : LState} (h : ∀ k ∈ opTmps o, t.getD k lundef = t'.getD k lundef) : lopW P t st o = lopW P t' st o := by
  have h' : ∀ k, Operand.tmp k ∈ o.operands → t.getD k lundef = t'.getD k lundef := fun k hk => h k (mem_opTmps.2 hk)
  clear h
  cases o <;> simp only [lopW] <;> simp only [Op.operands] at h'
  case box ty x => rw [ev_congr (x := x) fun k e => h' k (by simp [e])]
  case buildSlice ty n parts => rw [evp_congr (xs := parts.toList) fun k e => h' k (by simpa using e)]
  case store ty p x => rw [ev_congr (x := p) fun k e => h' k (by simp [e]), ev_congr (x := x) fun k e => h' k (by simp [e])]
  case makeMap ty r => cases r <;> rfl
  case makeSlice ty l c => rw [ev_congr (x := l) fun k e => h' k (by simp [e]), ev_congr (x := c) fun k e => h' k (by simp [e])]
  case mapUpdate ty m k x => rw [ev_congr (x := m) fun j e => h' j (by simp [e]), ev_congr (x := k) fun j e => h' j (by simp [e]), ev_congr (x := x) fun j e => h' j (by simp [e])]
  case insert ty m k x => rw [ev_congr (x := m) fun j e => h' j (by simp [e]), ev_congr (x := k) fun j e => h' j (by simp [e]), ev_congr (x := x) fun j e => h' j (by simp [e])]
  case mapEntry ty m k => rw [ev_congr (x := m) fun j e => h' j (by simp [e]), ev_congr (x := k) fun j e => h' j (by simp [e])]
  case entryStore ty m k x => rw [ev_congr (x := m) fun j e => h' j (by simp [e]), ev_congr (x := k) fun j e => h' j (by simp [e]), ev_congr (x := x) fun j e => h' j (by simp [e])]
  case range ty x => rw [ev_congr (x := x) fun j e => h' j (by simp [e])]
  case next it s => cases s <;> simp only [lopW] <;> rw [ev_congr (x := it) fun j e => h' j (by simp [e])]
  case convert s d x => rw [ev_congr (x := x) fun k e => h' k (by simp [e])]
  case call c => rw [evs_congr (xs := c.args.toList) fun k e => h' k (by simp only [Call.operands]; exact Array.mem_append.2 (.inr (by simpa using e)))]

theorem lcallee_congr {c : Call} (h : ∀ k ∈ opTmps (.call c), t.getD k lundef = t'.getD k lundef) : lcallee t c = lcallee t' c := by
  have h' : ∀ k, Operand.tmp k ∈ c.operands → t.getD k lundef = t'.getD k lundef := fun k hk => h k (mem_opTmps.2 hk)
  unfold lcallee
  cases hc : c.callee with
  | value f =>
    simp only
    rw [ev_congr (x := f) fun k e => h' k (by simp [Call.operands, hc, e]), evs_congr (xs := c.args.toList) fun k e => h' k (by simp only [Call.operands]; exact Array.mem_append.2 (.inr (by simpa using e)))]
  | invoke r m => rfl
  | builtin b => rfl

end
end Go.CP

namespace Go.CP

def In (D : Array Bool) (i : Nat) : Prop := D.getD i false = true

theorem In.set {D : Array Bool} {i j : Nat} (h : In D j) : In (D.setIfInBounds i true) j := getD_set_true h
theorem In.of_set {D : Array Bool} {i j : Nat} (h : In (D.setIfInBounds i true) j) : j = i ∨ In D j := by
  by_cases e : i = j
  · exact .inl e.symm
  · right; unfold In at *; rwa [getD_set_ne false e] at h
theorem In.self {D : Array Bool} {i : Nat} (h : i < D.size) : In (D.setIfInBounds i true) i := by unfold In; simp [h]

section
variable {ops : Array Oper}

def preds (o : Oper) (D : Array Bool) : Prop := ∀ e ∈ o.after, Region.binds .any e = true → In D e.on

structure Closed (ops : Array Oper) (D : Array Bool) : Prop where
  size : D.size = ops.size
  pre : ∀ (i : Nat) (o : Oper), In D i → ops[i]? = some o → preds o D

theorem In.lt {D : Array Bool} {i : Nat} (h : In D i) : i < D.size := by
  unfold In at h
  rcases Nat.lt_or_ge i D.size with k | k
  · exact k
  · simp [Array.getElem?_eq_none k] at h

theorem mem_ready' {D : Array Bool} {i : Nat} (hs : D.size = ops.size) : i ∈ Region.ready .any ops D ↔ ¬ In D i ∧ ∃ o, ops[i]? = some o ∧ preds o D := by
  rw [mem_ready]
  constructor
  · rintro ⟨h0, o, ho, h⟩
    refine ⟨fun hi => ?_, o, ho, h⟩
    have hlt := hi.lt
    unfold In at hi
    simp [hlt] at h0 hi
    rw [h0] at hi; cases hi
  · rintro ⟨h0, o, ho, h⟩
    refine ⟨?_, o, ho, h⟩
    have hlt : i < D.size := by rw [hs]; exact (Array.getElem?_eq_some_iff.1 ho).1
    unfold In at h0
    simp [hlt] at h0 ⊢
    exact h0

/-- One row of the table of what is waited for. -/
def bfRow (acc : Array Nat) (o : Oper) : Nat := o.after.foldl (fun s e => if Region.binds .any e then s ||| 2 ^ e.on ||| acc.getD e.on 0 else s) 0

theorem bfRow_spec {acc : Array Nat} {o : Oper} {j : Nat} (h : (bfRow acc o).testBit j = true) : ∃ e ∈ o.after, Region.binds .any e = true ∧ (j = e.on ∨ (acc.getD e.on 0).testBit j = true) := by
  unfold bfRow at h
  rw [← Array.foldl_toList] at h
  have key : ∀ (l : List Edge) (s : Nat), (l.foldl (fun s e => if Region.binds .any e then s ||| 2 ^ e.on ||| acc.getD e.on 0 else s) s).testBit j = true →
      s.testBit j = true ∨ ∃ e ∈ l, Region.binds .any e = true ∧ (j = e.on ∨ (acc.getD e.on 0).testBit j = true) := by
    intro l
    induction l with
    | nil => intro s h; exact .inl h
    | cons e l ih =>
      intro s h
      simp only [List.foldl_cons] at h
      rcases ih _ h with h | ⟨e', he', h'⟩
      · split at h
        · rename_i hb
          rw [Nat.testBit_or, Nat.testBit_or, Bool.or_eq_true, Bool.or_eq_true] at h
          rcases h with (h | h) | h
          · exact .inl h
          · rw [Nat.testBit_two_pow] at h
            exact .inr ⟨e, by simp, hb, .inl (by simpa using (of_decide_eq_true h).symm)⟩
          · exact .inr ⟨e, by simp, hb, .inr h⟩
        · exact .inl h
      · exact .inr ⟨e', by simp [he'], h'⟩
  rcases key _ _ h with h | ⟨e, he, h⟩
  · simp at h
  · exact ⟨e, by simpa using he, h⟩

theorem before_eq : Region.before ops = ops.toList.foldl (fun acc o => acc.push (bfRow acc o)) #[] := by
  unfold Region.before
  rw [← Array.foldl_toList]; rfl

theorem bf_fold : ∀ (l : List Oper) (acc : Array Nat), ∃ r : List Nat, (l.foldl (fun acc o => acc.push (bfRow acc o)) acc).toList = acc.toList ++ r ∧ r.length = l.length ∧
    ∀ i o, l[i]? = some o → r[i]? = some (bfRow ⟨acc.toList ++ r.take i⟩ o)
  | [], acc => ⟨[], by simp, rfl, by simp⟩
  | o :: l, acc => by
    obtain ⟨r, h1, h2, h3⟩ := bf_fold l (acc.push (bfRow acc o))
    refine ⟨bfRow acc o :: r, by simp [h1], by simp [h2], ?_⟩
    intro i o' hi
    cases i with
    | zero => simp at hi; subst hi; simp
    | succ i =>
      simp at hi
      have := h3 i o' hi
      simp only [List.getElem?_cons_succ, List.take_succ_cons]
      rw [this]
      simp

theorem before_spec {i j : Nat} {o : Oper} (ho : ops[i]? = some o) (h : ((Region.before ops).getD i 0).testBit j = true) :
    ∃ e ∈ o.after, Region.binds .any e = true ∧ (j = e.on ∨ ((Region.before ops).getD e.on 0).testBit j = true) := by
  obtain ⟨r, h1, h2, h3⟩ := bf_fold ops.toList #[]
  rw [← before_eq] at h1
  simp only [List.nil_append] at h1 h3
  have hb : ∀ k, (Region.before ops).getD k 0 = r.getD k 0 := by
    intro k
    rw [← h1]
    simp [Array.getD_eq_getD_getElem?, List.getD_eq_getElem?_getD]
  rw [hb] at h
  have hr := h3 i o (by simpa using ho)
  rw [List.getD_eq_getElem?_getD, hr, Option.getD_some] at h
  obtain ⟨e, he, hbi, h⟩ := bfRow_spec h
  refine ⟨e, he, hbi, ?_⟩
  rcases h with h | h
  · exact .inl h
  · right
    rw [hb]
    rw [Array.getD_eq_getD_getElem?, List.getElem?_toArray, List.getElem?_take] at h
    split at h
    · rw [List.getD_eq_getElem?_getD]; exact h
    · simp at h

structure Ok (ops : Array Oper) : Prop where
  lex : ∀ (i : Nat) (o : Oper), ops[i]? = some o → ∀ e ∈ o.after, Region.binds .any e = true → e.on < i
  dst : ∀ (i j : Nat) (o o' : Oper) (d : Nat), i ≠ j → ops[i]? = some o → ops[j]? = some o' → o'.dst = some d → o.dst ≠ some d
  names : ∀ (i j : Nat) (o o' : Oper) (d : Nat), i ≠ j → ops[i]? = some o → ops[j]? = some o' → o'.dst = some d → d ∈ o.looksAt ops →
    ((Region.before ops).getD i 0).testBit j = true ∨ ((Region.before ops).getD j 0).testBit i = true

theorem ok_of (h : drawOk ops (Region.before ops) = true) : Ok ops := by
  unfold drawOk at h
  rw [List.all_eq_true] at h
  have row : ∀ (i : Nat) (o : Oper), ops[i]? = some o → (∀ e ∈ o.after, Region.binds .any e = true → e.on < i) ∧ ∀ (j : Nat) (o' : Oper) (d : Nat), i ≠ j → ops[j]? = some o' → o'.dst = some d →
      o.dst ≠ some d ∧ (d ∈ o.looksAt ops → ((Region.before ops).getD i 0).testBit j = true ∨ ((Region.before ops).getD j 0).testBit i = true) := by
    intro i o ho
    have hi := h i (by simpa using (Array.getElem?_eq_some_iff.1 ho).1)
    simp only [ho, Bool.and_eq_true, List.all_eq_true] at hi
    refine ⟨fun e he hbd => by
      have h1 := hi.1 e (by simpa using he)
      simp only [hbd, Bool.not_true, Bool.false_or, decide_eq_true_eq, Bool.or_eq_true, Bool.not_eq_true', Bool.true_eq_false, false_or, Bool.false_eq_true] at h1
      exact h1, ?_⟩
    intro j o' d hne hj hd
    have h2 := hi.2 j (by simpa using (Array.getElem?_eq_some_iff.1 hj).1)
    simp only [hj, Option.bind_some, hd, Bool.or_eq_true, beq_iff_eq, Bool.and_eq_true, bne_iff_ne, Bool.not_eq_true', List.contains_eq_mem, decide_eq_false_iff_not] at h2
    rcases h2 with h2 | ⟨h2, h3⟩
    · exact absurd h2 hne
    · refine ⟨h2, fun hd' => ?_⟩
      rcases h3 with (h3 | h3) | h3
      · exact absurd hd' h3
      · exact .inl h3
      · exact .inr h3
  exact ⟨fun i o ho => (row i o ho).1, fun i j o o' d hne ho hj hd => ((row i o ho).2 j o' d hne hj hd).1, fun i j o o' d hne ho hj hd => ((row i o ho).2 j o' d hne hj hd).2⟩

/-- What is waited for is listed. -/
theorem Closed.anc {D : Array Bool} (hc : Closed ops D) (hok : Ok ops) : ∀ (i : Nat) {o : Oper} {j : Nat}, ops[i]? = some o → preds o D → ((Region.before ops).getD i 0).testBit j = true → In D j := by
  intro i
  induction i using Nat.strongRecOn with
  | _ i ih =>
    intro o j ho hp hb
    obtain ⟨e, he, hbi, h⟩ := before_spec ho hb
    have hin := hp e he hbi
    rcases h with h | h
    · subst h; exact hin
    · have hlt : e.on < ops.size := by rw [← hc.size]; exact hin.lt
      have ho' : ops[e.on]? = some ops[e.on] := Array.getElem?_eq_getElem hlt
      exact ih e.on (hok.lex i o ho e he hbi) ho' (hc.pre _ _ hin ho') h

/-- The names that a set of operations has written agree with the whole walk's; the others are as they were. -/
structure Agr (ops : Array Oper) (T0 T : List LV) (D : Array Bool) (TD : List LV) : Prop where
  len : TD.length = T0.length
  wr : ∀ (i : Nat) (o : Oper) (d : Nat), In D i → ops[i]? = some o → o.dst = some d → TD[d]? = T[d]?
  un : ∀ (k : Nat), (∀ (i : Nat) (o : Oper), In D i → ops[i]? = some o → o.dst ≠ some k) → TD[k]? = T0[k]?

theorem Agr.look {T0 T T1 T2 : List LV} {D1 D2 : Array Bool} {j : Nat} {o : Oper} (hok : Ok ops) (c1 : Closed ops D1) (c2 : Closed ops D2) (a1 : Agr ops T0 T D1 T1) (a2 : Agr ops T0 T D2 T2)
    (ho : ops[j]? = some o) (p1 : preds o D1) (p2 : preds o D2) (n1 : ¬ In D1 j) (n2 : ¬ In D2 j) : ∀ k ∈ o.looksAt ops, T1.getD k lundef = T2.getD k lundef := by
  intro k hk
  have same : ∀ (i : Nat) (o' : Oper), ops[i]? = some o' → o'.dst = some k → (In D1 i ↔ In D2 i) := by
    intro i o' hi hd
    by_cases e : i = j
    · subst e; exact ⟨fun h => absurd h n1, fun h => absurd h n2⟩
    · rcases hok.names j i o o' k (fun h => e h.symm) ho hi hd hk with h | h
      · exact ⟨fun _ => c2.anc hok j ho p2 h, fun _ => c1.anc hok j ho p1 h⟩
      · exact ⟨fun hi' => absurd (c1.anc hok i hi (c1.pre _ _ hi' hi) h) n1, fun hi' => absurd (c2.anc hok i hi (c2.pre _ _ hi' hi) h) n2⟩
  have : T1[k]? = T2[k]? := by
    by_cases hw : ∃ (i : Nat) (o' : Oper), In D1 i ∧ ops[i]? = some o' ∧ o'.dst = some k
    · obtain ⟨i, o', hi, ho', hd⟩ := hw
      rw [a1.wr i o' k hi ho' hd, a2.wr i o' k ((same i o' ho' hd).1 hi) ho' hd]
    · rw [a1.un k (fun i o' hi ho' hd => hw ⟨i, o', hi, ho', hd⟩), a2.un k (fun i o' hi ho' hd => hw ⟨i, o', (same i o' ho' hd).2 hi, ho', hd⟩)]
  simp only [List.getD_eq_getElem?_getD, this]

theorem lput_get {t : List LV} {dst : Option Tmp} {v : LV} {k : Nat} (h : dst ≠ some k) : (lput t dst v)[k]? = t[k]? := by
  cases dst with
  | none => rfl
  | some d =>
    simp only [lput]
    rw [List.getElem?_set_ne (fun e => h (by rw [e]))]

theorem lput_len {t : List LV} {dst : Option Tmp} {v : LV} : (lput t dst v).length = t.length := by
  cases dst <;> simp [lput]

/-- The walk goes on: an operation that a set does not hold. -/
theorem Agr.walk {T0 T TD : List LV} {D : Array Bool} {i : Nat} {o : Oper} {v : LV} (hok : Ok ops) (a : Agr ops T0 T D TD) (ho : ops[i]? = some o) (hn : ¬ In D i) : Agr ops T0 (lput T o.dst v) D TD := by
  refine ⟨a.len, ?_, a.un⟩
  intro j o' d hj ho' hd
  rw [a.wr j o' d hj ho' hd, lput_get (hok.dst i j o o' d (fun e => hn (e ▸ hj)) ho ho' hd)]

/-- The set goes on: an operation that the walk has done. -/
theorem Agr.grow {T0 T TD : List LV} {D : Array Bool} {i : Nat} {o : Oper} {v : LV} (hok : Ok ops) (a : Agr ops T0 T D TD) (ho : ops[i]? = some o) (hi : i < D.size) (hT : T.length = T0.length)
    (hv : ∀ d, o.dst = some d → d < T.length → T[d]? = some v) : Agr ops T0 T (D.setIfInBounds i true) (lput TD o.dst v) := by
  refine ⟨by rw [lput_len]; exact a.len, ?_, ?_⟩
  · intro j o' d hj ho' hd
    rcases hj.of_set with e | hj
    · subst e
      rw [ho] at ho'; cases ho'
      rw [hd]
      simp only [lput]
      by_cases hlt : d < T.length
      · rw [hv d hd hlt, List.getElem?_set_self (by rw [a.len, ← hT]; exact hlt)]
      · rw [List.getElem?_eq_none (by rw [List.length_set, a.len, ← hT]; omega), List.getElem?_eq_none (by omega)]
    · by_cases e : i = j
      · subst e
        rw [ho] at ho'; cases ho'
        rw [hd]
        simp only [lput]
        by_cases hlt : d < T.length
        · rw [hv d hd hlt, List.getElem?_set_self (by rw [a.len, ← hT]; exact hlt)]
        · rw [List.getElem?_eq_none (by rw [List.length_set, a.len, ← hT]; omega), List.getElem?_eq_none (by omega)]
      · rw [lput_get (hok.dst i j o o' d e ho ho' hd)]
        exact a.wr j o' d hj ho' hd
  · intro k hk
    rw [lput_get (hk i o (In.self hi) ho)]
    exact a.un k fun j o' hj ho' => hk j o' hj.set ho'

theorem Closed.set {D : Array Bool} {i : Nat} {o : Oper} (hc : Closed ops D) (ho : ops[i]? = some o) (hp : preds o D) : Closed ops (D.setIfInBounds i true) := by
  refine ⟨by simpa using hc.size, ?_⟩
  intro j o' hj ho' e he hb
  rcases hj.of_set with h | h
  · subst h; rw [ho] at ho'; cases ho'; exact (hp e he hb).set
  · exact (hc.pre j o' h ho' e he hb).set

/-- Where nothing is ready all is listed. -/
theorem Closed.all {D : Array Bool} (hc : Closed ops D) (hok : Ok ops) (h : Region.ready .any ops D = []) : ∀ i, i < ops.size → In D i := by
  intro i
  induction i using Nat.strongRecOn with
  | _ i ih =>
    intro hi
    have ho : ops[i]? = some ops[i] := Array.getElem?_eq_getElem hi
    refine Classical.byContradiction fun hn => ?_
    have : i ∈ Region.ready .any ops D := (mem_ready' hc.size).2 ⟨hn, _, ho, fun e he hb => ih e.on (hok.lex i _ ho e he hb) (Nat.lt_trans (hok.lex i _ ho e he hb) hi)⟩
    rw [h] at this; simp at this

end
end Go.CP

