/- The clean machine, part 20: regions whose order is drawn: one walk, the quiet operations first, serves every order. The definitions, and what operands say. -/
import Derived.Test.YthiaahbmibndkaaGreatDoorCp19
namespace Go.CP

def isQuiet (P : Program) (o : Oper) : Bool := match cls P o.op with
  | .A | .L => true
  | _ => false

inductive Pk where
  | done
  | one (i : Nat)
  | many (l : List Nat)

/-- Of each operation: what it waits for, as bits, and whether it is quiet. -/
def rowsOf (P : Program) (ops : Array Oper) : List (Nat × Bool) :=
  ops.toList.map fun o => (o.after.toList.foldl (fun s e => if Region.binds .any e then s ||| 2 ^ e.on else s) 0, isQuiet P o)

/-- Which operation comes next: a quiet one that is ready, else those that are ready. m: what is done, as bits. -/
def pickGo (m : Nat) : List (Nat × Bool) → Nat → List Nat → Pk
  | [], _, [] => .done
  | [], _, [j] => .one j
  | [], _, l => .many l
  | (p, q) :: r, i, c => match m.testBit i || !((p &&& m) == p) with
    | true => pickGo m r (i + 1) c
    | false => match q with
      | true => .one i
      | false => pickGo m r (i + 1) (i :: c)

def pickOp (rows : List (Nat × Bool)) (m : Nat) : Pk := pickGo m rows 0 []

/-- What was read ahead of a write must read the same behind it, unless the write waits for it. -/
def recheck (P : Program) (ops : Array Oper) (bf : Array Nat) (i : Nat) (st : LState) : List (Nat × List LV × LV) → Prop → Prop
  | [], R => R
  | (j, t, v) :: r, R => match (bf.getD i 0).testBit j with
    | true => recheck P ops bf i st r R
    | false => (match ops[j]? with
      | some o => lopL P t st o.op = some v
      | none => False) ∧ recheck P ops bf i st r R

/-- One operation of such a region. -/
def drawOp (P : Program) (ops : Array Oper) (bf : Array Nat) (i : Nat) (o : Oper) (pend : List (Nat × List LV × LV)) (t : List LV) (st : LState)
    (next : List (Nat × List LV × LV) → LV → LState → Prop) : Prop := match cls P o.op with
  | .A => bd (lopA P t o.op) fun v => next pend v st
  | .L => bd (lopL P t st o.op) fun v => next ((i, t, v) :: pend) v st
  | .W => bd2 (lopW P t st o.op) fun v st' => recheck P ops bf i st' pend (next pend v st')
  | .C => match o.op with
    | .call c => bd2 (lcallee t c) fun f xs => LCalls P f xs st fun v st' => recheck P ops bf i st' pend (next pend v st')
    | _ => False
  | .no => False

/-- One operation, by its guard. -/
def drawStep (P : Program) (ops : Array Oper) (bf : Array Nat) (i : Nat) (pend : List (Nat × List LV × LV)) (t : List LV) (st : LState)
    (next : List (Nat × List LV × LV) → List LV → LState → Prop) : Prop := match ops[i]? with
  | none => False
  | some o => match o.guard with
    | none => drawOp P ops bf i o pend t st fun pend v st' => splitV (nestG ops i) v fun v => force (lput t o.dst v) fun t => next pend t st'
    | some (j, want) => match (ops[j]?).bind (·.dst) with
      | none => False
      | some d => gsel (guarded ops j) (t.getD d lundef)
          (match want with
            | true => drawOp P ops bf i o pend (t.set d (.bool true)) st fun pend v st' => splitV (nestG ops i) v fun v => force (lput (t.set d (.bool true)) o.dst v) fun t => next pend t st'
            | false => force (lput (t.set d (.bool true)) o.dst lundef) fun t => next pend t st)
          (match want with
            | true => force (lput (t.set d (.bool false)) o.dst lundef) fun t => next pend t st
            | false => drawOp P ops bf i o pend (t.set d (.bool false)) st fun pend v st' => splitV (nestG ops i) v fun v => force (lput (t.set d (.bool false)) o.dst v) fun t => next pend t st')
          (force (lput t o.dst lundef) fun t => next pend t st)

/-- Of all of a list. -/
def allIn (f : Nat → Prop) : List Nat → Prop
  | [] => True
  | [i] => f i
  | i :: l => f i ∧ allIn f l

def levDraw (P : Program) (ops : Array Oper) (bf : Array Nat) (rows : List (Nat × Bool)) (K : List LV → LState → Prop) : Nat → Nat → List (Nat × List LV × LV) → List LV → LState → Prop
  | 0, m, _, t, st => match pickOp rows m with
    | .done => K t st
    | _ => False
  | n + 1, m, pend, t, st => match pickOp rows m with
    | .done => K t st
    | .one i => drawStep P ops bf i pend t st fun pend t st => levDraw P ops bf rows K n (m ||| 2 ^ i) pend t st
    | .many l => allIn (fun i => drawStep P ops bf i pend t st fun pend t st => levDraw P ops bf rows K n (m ||| 2 ^ i) pend t st) l

/-- No name is written twice; who names what another writes waits for it, or is waited for; the order of the text is one of the orders. -/
def drawOk (ops : Array Oper) (bf : Array Nat) : Bool :=
  ((List.range ops.size).all fun i => match ops[i]? with
    | none => false
    | some o => (o.after.toList.all fun e => !Region.binds .any e || decide (e.on < i)) &&
      (List.range ops.size).all fun j => i == j || match (ops[j]?).bind (·.dst) with
        | none => true
        | some d => o.dst != some d && (!(o.looksAt ops).contains d || (bf.getD i 0).testBit j || (bf.getD j 0).testBit i))

/-! ### what operands say -/

def opTmps (o : Op) : List Tmp := o.operands.toList.filterMap fun | .tmp t => some t | _ => none

section
variable {P : Program} {t t' : List LV}

theorem ev_congr {x : Operand} (h : ∀ k, x = .tmp k → t.getD k lundef = t'.getD k lundef) : ev t x = ev t' x := by
  cases x <;> simp only [ev]
  rw [h _ rfl]

theorem evs_congr : ∀ {xs : List Operand}, (∀ k, Operand.tmp k ∈ xs → t.getD k lundef = t'.getD k lundef) → evs t xs = evs t' xs
  | [], _ => rfl
  | x :: xs, h => by
    simp only [evs]
    rw [ev_congr (x := x) (fun k e => h k (by simp [e])), evs_congr (xs := xs) (fun k e => h k (by simp [e]))]

theorem evp_congr : ∀ {xs : List (Nat × Operand)}, (∀ k, Operand.tmp k ∈ xs.map (·.2) → t.getD k lundef = t'.getD k lundef) → evp t xs = evp t' xs
  | [], _ => rfl
  | (i, x) :: xs, h => by
    simp only [evp]
    rw [ev_congr (x := x) (fun k e => h k (by simp [e])), evp_congr (xs := xs) (fun k e => h k (by simp only [List.map_cons, List.mem_cons]; exact .inr e))]

theorem evo_congr {x : Option Operand} (h : ∀ k, x = some (.tmp k) → t.getD k lundef = t'.getD k lundef) : evo t x = evo t' x := by
  cases x with
  | none => rfl
  | some x => simp only [evo]; rw [ev_congr (x := x) (fun k e => h k (by rw [e]))]

theorem mem_opTmps {o : Op} {k : Nat} : k ∈ opTmps o ↔ Operand.tmp k ∈ o.operands := by
  unfold opTmps
  rw [List.mem_filterMap]
  constructor
  · rintro ⟨x, hx, e⟩
    cases x <;> simp at e
    subst e; simpa using hx
  · intro h
    exact ⟨.tmp k, by simpa using h, rfl⟩

theorem lopA_congr {o : Op} (h : ∀ k ∈ opTmps o, t.getD k lundef = t'.getD k lundef) : lopA P t o = lopA P t' o := by
  have h' : ∀ k, Operand.tmp k ∈ o.operands → t.getD k lundef = t'.getD k lundef := fun k hk => h k (mem_opTmps.2 hk)
  clear h
  cases o <;> simp only [lopA] <;> simp only [Op.operands] at h'
  case move x => exact ev_congr fun k e => h' k (by simp [e])
  case assign x => exact ev_congr fun k e => h' k (by simp [e])
  case pick c a b =>
    rw [ev_congr (x := c) fun k e => h' k (by simp [e]), ev_congr (x := a) fun k e => h' k (by simp [e]), ev_congr (x := b) fun k e => h' k (by simp [e])]
  case nilCheck x => rw [ev_congr (x := x) fun k e => h' k (by simp [e])]
  case binOp op ty x y yt => rw [ev_congr (x := x) fun k e => h' k (by simp [e]), ev_congr (x := y) fun k e => h' k (by simp [e])]
  case unOp op ty x => rw [ev_congr (x := x) fun k e => h' k (by simp [e])]
  case convert s d x => rw [ev_congr (x := x) fun k e => h' k (by simp [e])]
  case makeInterface ty x => rw [ev_congr (x := x) fun k e => h' k (by simp [e])]
  case makeFunc fn xs ys => rw [evs_congr (xs := xs.toList) fun k e => h' k (by simp; left; simpa using e), evs_congr (xs := ys.toList) fun k e => h' k (by simp; right; simpa using e)]
  case field ty x f => rw [ev_congr (x := x) fun k e => h' k (by simp [e])]
  case fieldAddr ty x f => rw [ev_congr (x := x) fun k e => h' k (by simp [e])]
  case indexAddr ty x i => rw [ev_congr (x := x) fun k e => h' k (by simp [e]), ev_congr (x := i) fun k e => h' k (by simp [e])]
  case index ty x i => rw [ev_congr (x := x) fun k e => h' k (by simp [e]), ev_congr (x := i) fun k e => h' k (by simp [e])]
  case slice ty x l hh m =>
    rw [ev_congr (x := x) fun k e => h' k (by simp [e]), evo_congr (x := l) fun k e => h' k (by simp [e]), evo_congr (x := hh) fun k e => h' k (by simp [e]), evo_congr (x := m) fun k e => h' k (by simp [e])]
  case extract x i => rw [ev_congr (x := x) fun k e => h' k (by simp [e])]
  case typeAssert x xt a ok => rw [ev_congr (x := x) fun k e => h' k (by simp [e])]
  case build ty parts => rw [evp_congr (xs := parts.toList) fun k e => h' k (by simpa using e)]
  case call c => rw [evs_congr (xs := c.args.toList) fun k e => h' k (by simp only [Call.operands]; exact Array.mem_append.2 (.inr (by simpa using e)))]

theorem lopL_congr {o : Op} {st : LState} (h : ∀ k ∈ opTmps o, t.getD k lundef = t'.getD k lundef) : lopL P t st o = lopL P t' st o := by
  have h' : ∀ k, Operand.tmp k ∈ o.operands → t.getD k lundef = t'.getD k lundef := fun k hk => h k (mem_opTmps.2 hk)
  clear h
  cases o <;> simp only [lopL] <;> simp only [Op.operands] at h'
  case load ty x => rw [ev_congr (x := x) fun k e => h' k (by simp [e])]
  case lookup ty x k ok => rw [ev_congr (x := x) fun k e => h' k (by simp [e]), ev_congr (x := k) fun j e => h' j (by simp [e])]
  case slice ty x l hh m =>
    rw [ev_congr (x := x) fun k e => h' k (by simp [e]), evo_congr (x := l) fun k e => h' k (by simp [e]), evo_congr (x := hh) fun k e => h' k (by simp [e]), evo_congr (x := m) fun k e => h' k (by simp [e])]
  case convert s d x => rw [ev_congr (x := x) fun k e => h' k (by simp [e])]
  case call c => rw [evs_congr (xs := c.args.toList) fun k e => h' k (by simp only [Call.operands]; exact Array.mem_append.2 (.inr (by simpa using e)))]

theorem lopW_congr {o : Op} {st : LState} (h : ∀ k ∈ opTmps o, t.getD k lundef = t'.getD k lundef) : lopW P t st o = lopW P t' st o := by
  have h' : ∀ k, Operand.tmp k ∈ o.operands → t.getD k lundef = t'.getD k lundef := fun k hk => h k (mem_opTmps.2 hk)
  clear h
  cases o <;> simp only [lopW] <;> simp only [Op.operands] at h'
  case box ty x => rw [ev_congr (x := x) fun k e => h' k (by simp [e])]
  case buildSlice ty n parts => rw [evp_congr (xs := parts.toList) fun k e => h' k (by simpa using e)]
  case store ty p x => rw [ev_congr (x := p) fun k e => h' k (by simp [e]), ev_congr (x := x) fun k e => h' k (by simp [e])]
  case makeMap ty r => cases r <;> rfl
  case makeSlice ty l c => rw [ev_congr (x := l) fun k e => h' k (by simp [e]), ev_congr (x := c) fun k e => h' k (by simp [e])]
  case mapUpdate ty m k x => rw [ev_congr (x := m) fun j e => h' j (by simp [e]), ev_congr (x := k) fun j e => h' j (by simp [e]), ev_congr (x := x) fun j e => h' j (by simp [e])]
  case insert ty m k x => rw [ev_congr (x := m) fun j e => h' j (by simp [e]), ev_congr (x := k) fun j e => h' j (by simp [e]), ev_congr (x := x) fun j e => h' j (by simp [e])]
  case mapEntry ty m k => rw [ev_congr (x := m) fun j e => h' j (by simp [e]), ev_congr (x := k) fun j e => h' j (by simp [e])]
  case entryStore ty m k x => rw [ev_congr (x := m) fun j e => h' j (by simp [e]), ev_congr (x := k) fun j e => h' j (by simp [e]), ev_congr (x := x) fun j e => h' j (by simp [e])]
  case range ty x => rw [ev_congr (x := x) fun j e => h' j (by simp [e])]
  case next it s => cases s <;> simp only [lopW] <;> rw [ev_congr (x := it) fun j e => h' j (by simp [e])]
  case convert s d x => rw [ev_congr (x := x) fun k e => h' k (by simp [e])]
  case call c => rw [evs_congr (xs := c.args.toList) fun k e => h' k (by simp only [Call.operands]; exact Array.mem_append.2 (.inr (by simpa using e)))]

theorem lcallee_congr {c : Call} (h : ∀ k ∈ opTmps (.call c), t.getD k lundef = t'.getD k lundef) : lcallee t c = lcallee t' c := by
  have h' : ∀ k, Operand.tmp k ∈ c.operands → t.getD k lundef = t'.getD k lundef := fun k hk => h k (mem_opTmps.2 hk)
  unfold lcallee
  cases hc : c.callee with
  | value f =>
    simp only
    rw [ev_congr (x := f) fun k e => h' k (by simp [Call.operands, hc, e]), evs_congr (xs := c.args.toList) fun k e => h' k (by simp only [Call.operands]; exact Array.mem_append.2 (.inr (by simpa using e)))]
  | invoke r m => rfl
  | builtin b => rfl

end
end Go.CP
