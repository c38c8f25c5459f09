/- The clean machine, part 4: operations, regions, code and calls over logical values; what it means that a logical call comes to its end. -/
/- The clean machine, part 5: the operations that neither read nor write the store do in the model what they do here. -/
import Derived.Test.YtknegckgmklnhaaGreatDoorCp3
import Derived.Laws.StructEq
namespace Go.CP

/-- The kinds of operations: A: neither reads nor writes the store; L: reads it; W: writes it; C: a call. -/
inductive Cls where
  | A | L | W | C | N | no
  deriving DecidableEq

def isMapT (P : Program) (t : TypeId) : Bool := match P.underlying t with
  | some (.map _ _) => true
  | _ => false

def isStrT (P : Program) (t : TypeId) : Bool := match P.underlying t with
  | some .string => true
  | _ => false

def isSlT (P : Program) (t : TypeId) : Bool := match P.underlying t with
  | some (.slice _) => true
  | _ => false

/-- Is a type unsafe.Pointer? -/
def isUp (P : Program) (t : TypeId) : Bool := match P.underlying t with
  | some .unsafePointer => true
  | _ => false

/-- What a pointer type points to. -/
def ptrT (P : Program) (t : TypeId) : Option TypeId := match P.underlying t with
  | some (.pointer e) => some e
  | _ => none

def cls (P : Program) : Op → Cls
  | .move _ | .assign _ | .pick .. | .nilCheck _ | .binOp .. | .unOp .. | .makeInterface .. | .makeFunc .. | .field .. | .fieldAddr ..
  | .indexAddr .. | .index .. | .extract .. | .typeAssert .. | .build .. => .A
  | .slice ty _ _ _ _ => if isSlT P ty then .L else .A
  | .convert src dst _ => if isStrT P src && isSlT P dst || isSlT P src && isSlT P dst then .W else if isSlT P src && isStrT P dst || isUp P src || isUp P dst then .L else .A
  | .load .. | .lookup .. | .entry .. => .L
  | .call c => match c.callee with
    | .builtin .len => if isMapT P (c.argTypes.getD 0 0) then .L else .A
    | .builtin .cap | .builtin .max | .builtin .min | .builtin .unsafeSliceData | .builtin .complex | .builtin .real | .builtin .imag => .A
    | .builtin .unsafeString => .W
    | .builtin .append | .builtin .clear | .builtin .copy | .builtin .delete => .W
    | .value _ => .C
    | _ => .no
  | .alloc _ | .box .. | .buildSlice .. | .store .. | .makeMap .. | .makeSlice .. | .mapUpdate .. | .insert .. | .mapEntry .. | .entryStore .. | .range .. => .W
  | .next .. => .N
  | _ => .no

def lmax2 (a b : LV) : Option LV := match a, b with
  | .int k x, .int _ y => some (.int k (if y > x then y else x))
  | _, _ => none
def lmin2 (a b : LV) : Option LV := match a, b with
  | .int k x, .int _ y => some (.int k (if y < x then y else x))
  | _, _ => none
def lfold (f : LV → LV → Option LV) : LV → List LV → Option LV
  | x, [] => some x
  | x, y :: ys => match f x y with
    | some z => lfold f z ys
    | none => none
def lmaxs : List LV → Option LV
  | [] => none
  | x :: xs => lfold lmax2 x xs
def lmins : List LV → Option LV
  | [] => none
  | x :: xs => lfold lmin2 x xs

def evo (t : List LV) : Option Operand → Option (Option LV)
  | none => some none
  | some x => match ev t x with
    | some v => some (some v)
    | none => none

/-- What neither reads nor writes the store. -/
def lopA (P : Program) (t : List LV) : Op → Option LV
  | .move x | .assign x => ev t x
  | .pick c a b => match ev t c, ev t a, ev t b with
    | some c, some a, some b => lpick c a b
    | _, _, _ => none
  | .nilCheck x => match ev t x with
    | some v => lnilCheck v
    | none => none
  | .binOp op ty x y _ => match ev t x, ev t y with
    | some a, some b => lbin P op ty (isConstO x || isConstO y) a b
    | _, _ => none
  | .unOp op _ x => match ev t x with
    | some v => lun op v
    | none => none
  | .convert s d x => match ev t x with
    | some v => lconv P s d v
    | none => none
  | .makeInterface ty x => match ev t x with
    | some v => lmakeIface P ty v
    | none => none
  | .makeFunc fn xs ys => match evs t xs.toList, evs t ys.toList with
    | some a, some b => some (.fn fn a b)
    | _, _ => none
  | .field ty x f => match ev t x with
    | some v => lfield P ty v f
    | none => none
  | .fieldAddr ty x f => match ev t x with
    | some v => lfieldAddr P ty v f
    | none => none
  | .indexAddr ty x i => match ev t x, ev t i with
    | some v, some j => lindexAddr P ty v j
    | _, _ => none
  | .index ty x i => match ev t x, ev t i with
    | some v, some j => lindex P ty v j
    | _, _ => none
  | .slice ty x l h m => match ev t x, evo t l, evo t h, evo t m with
    | some v, some l, some h, some m => ob3 l h m fun l h m => lsliceOf P ty v l h m
    | _, _, _, _ => none
  | .extract x i => match ev t x with
    | some v => lextract v i
    | none => none
  | .typeAssert x _ a ok => match ev t x with
    | some v => lassert P v a ok
    | none => none
  | .build ty parts => match evp t parts.toList with
    | some ps => lbuild P ty ps
    | none => none
  | .call c => match c.callee, evs t c.args.toList with
    | .builtin .len, some [x] => if 0 < c.argTypes.size ∧ isMapT P (c.argTypes.getD 0 0) = false then llen P [] (c.argTypes.getD 0 0) x else none
    | .builtin .cap, some [x] => if 0 < c.argTypes.size then lcap P (c.argTypes.getD 0 0) x else none
    | .builtin .max, some xs => lmaxs xs
    | .builtin .min, some xs => lmins xs
    | .builtin .unsafeSliceData, some [x] => lslData x
    | .builtin .complex, some [x, y] => lcplx x y
    | .builtin .real, some [x] => lreal x
    | .builtin .imag, some [x] => limag x
    | _, _ => none
  | _ => none

def lbytesStr (st : LState) (x : LV) : Option LV := match x with
  | .nils => some (.str [])
  | .sl _ _ _ _ => match lsrc st 1 x with
    | some (_, cs) => match bytesOf cs with
      | some s => some (.str s)
      | none => none
    | none => none
  | _ => none

def isU8Sl (P : Program) (t : TypeId) : Bool := match P.underlying t with
  | some (.slice e) => (match P.underlying e with | some (.int .u8) => true | _ => false)
  | _ => false

def bytesT (P : Program) (t : TypeId) : Nat := match P.info? t with
  | some i => i.bytes
  | none => 0

/-- What reads the store. -/
def lopL (P : Program) (t : List LV) (st : LState) : Op → Option LV
  | .load ty x => match ev t x with
    | some v => lload P st ty v
    | none => none
  | .lookup ty x k ok => match ev t x, ev t k with
    | some m, some k => llookup P st ty m k ok
    | _, _ => none
  | .entry x => match ev t x with
    | some v => lentry st v
    | none => none
  | .convert s d x => match ev t x with
    | some v => if isU8Sl P s && isStrT P d then lbytesStr st v
      else if isUp P d then (match ptrT P s with | some e => if known P e = true ∧ szT P e ≠ 0 then cvUp st v else none | none => none)
      else if isUp P s then (match ptrT P d with | some e => if known P e = true ∧ szT P e ≠ 0 then cvPu st e (szT P e) v else none | none => none)
      else none
    | none => none
  | .slice ty x l h m => match ev t x, evo t l, evo t h, evo t m with
    | some v, some l, some h, some m => ob3 l h m fun l h m => lsliceL P st ty v l h m
    | _, _, _, _ => none
  | .call c => match c.callee, evs t c.args.toList with
    | .builtin .len, some [x] => if 0 < c.argTypes.size then llen P st (c.argTypes.getD 0 0) x else none
    | _, _ => none
  | _ => none

def elemT (P : Program) (t : TypeId) : Option TypeId := match P.underlying t with
  | some (.slice e) => if elemOk P e then some e else none
  | _ => none

def isIntT (P : Program) (t : TypeId) : Bool := match P.underlying t with
  | some (.int _) => true
  | _ => false

/-- What a write leaves: a value, and the store. -/
def lmk (o : Option LState) : Option (LV × LState) := match o with
  | some s => some (lundef, s)
  | none => none

def lmakeSl (bytes : Nat) (z : List LV) (st : LState) (l c : LV) : Option (LV × LState) := match l, c with
  | .int .i64 l, .int .i64 c => if 0 ≤ l ∧ l ≤ c ∧ c * bytes ≤ 2 ^ 47 ∧ c ≤ 2 ^ 47 then
      some (.sl st.length 0 l.toNat (.ex c.toNat), st ++ [.cells .rw (List.replicate c.toNat z).flatten]) else none
  | _, _ => none

/-- Types whose new variables are known by their type: these that begin with a pointer to themselves (a builder of texts). -/
def isBld (P : Program) (e : TypeId) : Bool := match P.underlying e with
  | some (.struct fs) => match fs[0]? with
    | some f => match P.underlying f.type with
      | some (.pointer u) => u == e
      | _ => false
    | none => false
  | _ => false

def lalloc (P : Program) (e : TypeId) (st : LState) (l : List LV) : LV × LState := if isBld P e then lnewM (.bt e) st l else lnew st l

/-- The mode of new elements. -/
def mdOf (P : Program) (e : TypeId) : Md := match P.underlying e with
  | some (.int .u8) => .bt e
  | _ => .rw

/-- Bytes of a constant text: they are only read from now on. -/
def lbytesSame (st : LState) (x : LV) : Option (LV × LState) := match x with
  | .sl o _ _ _ => match st[o]? with
    | some (.cells m l) => if m.w = true then some (x, st.set o (.cells .ro l)) else none
    | _ => none
  | _ => none

/-- What writes the store. -/
def lopW (P : Program) (t : List LV) (st : LState) : Op → Option (LV × LState)
  | .alloc e => match zeroT P e with
    | some z => some (lalloc P e st z.cells)
    | none => none
  | .box _ x => match ev t x with
    | some v => lbox st v
    | none => none
  | .buildSlice ty n parts => match evp t parts.toList with
    | some ps => slNew st n (lbuildSlice P ty n ps)
    | none => none
  | .store ty a x => match ev t a, ev t x with
    | some p, some v => lmk (lstore P st ty p v)
    | _, _ => none
  | .makeMap _ none => some (lnewMap st)
  | .makeSlice ty l c => match ev t l, ev t c, elemT P ty with
    | some l, some c, some e => match zeroT P e with
      | some z => lmakeSl (bytesT P e) z.cells st l c
      | none => none
    | _, _, _ => none
  | .mapUpdate ty m k x => match ev t m, ev t k, ev t x with
    | some m, some k, some v => lmk (lmapPut P st ty m k v)
    | _, _, _ => none
  | .insert ty m k x => match ev t m, ev t k, ev t x with
    | some m, some k, some v => lmk (lmapPut P st ty m k v)
    | _, _, _ => none
  | .mapEntry ty m k => match ev t m, ev t k with
    | some m, some k => lmapEntry P st ty m k
    | _, _ => none
  | .entryStore _ m s x => match ev t m, ev t s, ev t x with
    | some m, some s, some v => lmk (lentStore st m s v)
    | _, _, _ => none
  | .range ty x => match ev t x with
    | some x => lrange P st ty x
    | none => none
  | .next it false => match ev t it with
    | some it => lnext st it
    | none => none
  | .convert s d x => match ev t x with
    | some v => if isStrT P s && isU8Sl P d then lbytesNew st v else if (s == d) && isU8Sl P d then lbytesSame st v else none
    | none => none
  | .call c => match c.callee, evs t c.args.toList with
    | .builtin .append, some [s, x] => match elemT P (c.argTypes.getD 0 0) with
      | some e => if 1 < c.argTypes.size ∧ isIntT P (c.argTypes.getD 1 0) = false ∧ (P.underlying (c.argTypes.getD 1 0)).isSome = true ∧ 0 < szT P e ∧ 0 < bytesT P e then lappend st (szT P e) (bytesT P e) (mdOf P e) s x else none
      | none => none
    | .builtin .clear, some [x] => if 0 < c.argTypes.size then match elemT P (c.argTypes.getD 0 0) with
      | some e => match zeroT P e with
        | some z => lmk (lclear st z.cells x)
        | none => none
      | none => none
      else none
    | .builtin .copy, some [d, x] => if 0 < c.argTypes.size then match elemT P (c.argTypes.getD 0 0) with
      | some e => lcopy st (szT P e) d x
      | none => none
      else none
    | .builtin .unsafeString, some [p, n] => if 0 < c.argTypes.size then (match ptrT P (c.argTypes.getD 0 0) with | some u => if known P u = true ∧ szT P u = 1 then luStr st u p n else none | none => none) else none
    | .builtin .delete, some [m, k] => if 0 < c.argTypes.size then lmk (lmapDel P st (c.argTypes.getD 0 0) m k) else none
    | _, _ => none
  | _ => none

/-- Which function a call calls, with what. -/
def lclo (f : LV) (xs : List LV) : Option (FuncId × List LV) := match f with
  | .fn (.func g) first captured => some (g, first ++ xs ++ captured)
  | _ => none

def lcallee (t : List LV) (c : Call) : Option (FuncId × List LV) := match c.callee with
  | .value f => match ev t f, evs t c.args.toList with
    | some v, some xs => lclo v xs
    | _, _ => none
  | _ => none

/-- A function that has a body. -/
def Callable (P : Program) (f : FuncId) : Prop := ∃ fn c, P.funcs[f]? = some fn ∧ fn.body = some c ∧ (fn.name == "runtime.NumGoroutine") = false

def Back (w0 : World) (R : LV → LState → Prop) (β : Lay) (e : Ending) (w' : World) : Prop :=
  ∃ β' r st' v, R r st' ∧ e = .returned v ∧ Rp β' r v ∧ Rel w0 β' st' w' ∧ β.le β'

/-- A function without a Go body answers. -/
def LExt (P : Program) (f : FuncId) (xs : List LV) (st : LState) (R : LV → LState → Prop) : Prop :=
  ∀ w0 β w vs, Rel w0 β st w → Rps β xs vs → ∃ u w', (callFunc f ⟨vs⟩).run P w = .ok (.value u) w' ∧ ∃ β' r st', R r st' ∧ Rp β' r u ∧ Rel w0 β' st' w' ∧ β.le β'

/-- The call of f with xs in the store st returns, and R holds of the answer and the store. -/
def LCalls (P : Program) (f : FuncId) (xs : List LV) (st : LState) (R : LV → LState → Prop) : Prop :=
  (Callable P f ∧ ∀ w0 β w vs, Rel w0 β st w → Rps β xs vs → Calls P f ⟨vs⟩ w (Back w0 R β)) ∨ LExt P f xs st R

inductive LX where
  | normal
  | exit (id : Nat)
  | ret

def XRel : LX → Exit → Prop
  | .normal, .normal => True
  | .exit i, .exit j => i = j
  | .ret, .ret => True
  | _, _ => False

def Post (w0 : World) (Q : LX → List LV → LState → Prop) (β : Lay) (e : Exit) (a : Act) (w : World) : Prop :=
  ∃ β' x t st, Q x t st ∧ XRel x e ∧ Rps β' t a.tmps.toList ∧ a.defers = [] ∧ Rel w0 β' st w ∧ β.le β'

/-- A piece of code, over logical values. -/
def LW (P : Program) (c : Code) (Q : LX → List LV → LState → Prop) (t : List LV) (st : LState) : Prop :=
  ∀ w0 β w a, Rel w0 β st w → Rps β t a.tmps.toList → a.defers = [] → c.wp P (Post w0 Q β) a w

/-- A loop, from its round's begin on. -/
def LoopWp (P : Program) (c : Code) (Q : Exit → Act → World → Prop) (a : Act) (w : World) : Prop :=
  ∀ (b : Frame) (k : List Item) (cs : List Frame), ∃ e a' w', Q e a' w' ∧ Arrives P (lone (b.at a (.code c :: .inLoop c :: k)) cs w) b k cs e a' w'

def LLoop (P : Program) (c : Code) (Q : LX → List LV → LState → Prop) (t : List LV) (st : LState) : Prop :=
  ∀ w0 β w a, Rel w0 β st w → Rps β t a.tmps.toList → a.defers = [] → LoopWp P c (Post w0 Q β) a w

def lput (t : List LV) (dst : Option Tmp) (v : LV) : List LV := match dst with
  | some d => t.set d v
  | none => t

/-- One operation. -/
def levOp (P : Program) (o : Oper) (t : List LV) (st : LState) (K : LV → LState → Prop) : Prop := match cls P o.op with
  | .A => bd (lopA P t o.op) fun v => K v st
  | .L => bd (lopL P t st o.op) fun v => K v st
  | .W => bd2 (lopW P t st o.op) K
  | .C => match o.op with
    | .call c => bd2 (lcallee t c) fun f xs => LCalls P f xs st K
    | _ => False
  | .N => match o.op with
    | .next it false => bd (ev t it) fun x => lnextK st x K
    | _ => False
  | .no => False

/-- A list, written out before going on. -/
def force : List LV → (List LV → Prop) → Prop
  | [], K => K []
  | a :: l, K => force l fun l' => K (a :: l')

theorem force_eq : ∀ {l : List LV} {K : List LV → Prop}, force l K = K l
  | [], _ => rfl
  | _ :: l, _ => by simp only [force]; exact force_eq (l := l)

/-- May an operation be passed by? -/
def guarded (ops : Array Oper) (j : Nat) : Bool := match ops[j]? with
  | some o => o.guard.isSome
  | none => false

/-- An operation that may be passed by, and by which others may be. -/
def nestG (ops : Array Oper) (i : Nat) : Bool := guarded ops i && ops.toList.any fun o => match o.guard with
  | some (j, _) => j == i
  | none => false

/-- Operations one behind the other. -/
def levOps (P : Program) (ops : Array Oper) : List Nat → (List LV → LState → Prop) → List LV → LState → Prop
  | [], K, t, st => K t st
  | i :: rest, K, t, st => match ops[i]? with
    | none => levOps P ops rest K t st
    | some o => match o.guard with
      | none => levOp P o t st fun v st' => splitV (nestG ops i) v fun v => force (lput t o.dst v) fun t => levOps P ops rest K t st'
      | some (j, want) => match (ops[j]?).bind (·.dst) with
        | none => False
        | some d => gsel (guarded ops j) (t.getD d lundef)
            (match want with
              | true => levOp P o (t.set d (.bool true)) st fun v st' => splitV (nestG ops i) v fun v => force (lput (t.set d (.bool true)) o.dst v) fun t => levOps P ops rest K t st'
              | false => force (lput (t.set d (.bool true)) o.dst lundef) fun t => levOps P ops rest K t st)
            (match want with
              | true => force (lput (t.set d (.bool false)) o.dst lundef) fun t => levOps P ops rest K t st
              | false => levOp P o (t.set d (.bool false)) st fun v st' => splitV (nestG ops i) v fun v => force (lput (t.set d (.bool false)) o.dst v) fun t => levOps P ops rest K t st')
            (force (lput t o.dst lundef) fun t => levOps P ops rest K t st)

end Go.CP

namespace Go.CP

section
variable {β : Lay} {P : Program} {w : World}

theorem Rp.undef : Rp β lundef undef := ⟨[], rfl, rfl⟩

theorem ofV1_sound {v : Value} {x : LV} (h : ofV1 v = some x) : Rp β x v := by
  unfold ofV1 at h
  split at h <;> simp at h <;> subst h <;> simp [Rp]

theorem ofVs_sound : ∀ {vs : List Value} {xs : List LV}, ofVs vs = some xs → Rps β xs vs
  | [], xs, h => by simp [ofVs] at h; subst h; rfl
  | v :: vs, xs, h => by
    simp only [ofVs] at h
    split at h
    · rename_i x xs' h1 h2
      simp at h; subst h
      exact ⟨v, vs, rfl, ofV1_sound h1, ofVs_sound h2⟩
    · simp at h

theorem ofV_sound {v : Value} {x : LV} (h : ofV v = some x) : Rp β x v := by
  unfold ofV at h
  split at h
  · rename_i cs
    simp at h; obtain ⟨y, hy, rfl⟩ := h
    exact ⟨cs.toList, rfl, ofVs_sound hy⟩
  · rename_i cs
    simp at h; obtain ⟨y, hy, rfl⟩ := h
    exact ⟨cs.toList, rfl, ofVs_sound hy⟩
  · exact ofV1_sound h

theorem Rps.getD {l : List LV} {vs : List Value} (h : Rps β l vs) (i : Nat) : Rp β (l.getD i lundef) (vs.getD i undef) := by
  rcases Nat.lt_or_ge i l.length with k | k
  · obtain ⟨u, hu, r⟩ := h.get (List.getElem?_eq_getElem k)
    simp only [List.getD_eq_getElem?_getD, hu, List.getElem?_eq_getElem k, Option.getD_some]; exact r
  · have : vs.length ≤ i := by rw [h.length]; exact k
    simp only [List.getD_eq_getElem?_getD, List.getElem?_eq_none k, List.getElem?_eq_none this, Option.getD_none]; exact Rp.undef

theorem ev_sound {t : List LV} {a : Act} {x : Operand} {v : LV} (ht : Rps β t a.tmps.toList) (h : ev t x = some v) : Rp β v (a.eval x) := by
  cases x with
  | tmp i =>
    simp only [ev, Option.some.injEq] at h; subst h
    have := ht.getD i
    simpa [Act.eval, Array.getD_eq_getD_getElem?, List.getD_eq_getElem?_getD] using this
  | const c => exact ofV_sound h
  | global g => simp only [ev, Option.some.injEq] at h; subst h; rfl
  | func f => simp only [ev, Option.some.injEq] at h; subst h; exact ⟨[], [], rfl, rfl, rfl⟩

theorem evs_sound {t : List LV} {a : Act} (ht : Rps β t a.tmps.toList) : ∀ {xs : List Operand} {vs : List LV}, evs t xs = some vs → Rps β vs (xs.map a.eval)
  | [], vs, h => by simp [evs] at h; subst h; rfl
  | x :: xs, vs, h => by
    simp only [evs] at h
    split at h
    · rename_i v vs' h1 h2
      simp at h; subst h
      exact ⟨_, _, rfl, ev_sound ht h1, evs_sound ht h2⟩
    · simp at h

theorem evp_sound {t : List LV} {a : Act} (ht : Rps β t a.tmps.toList) : ∀ {xs : List (Nat × Operand)} {vs : List (Nat × LV)}, evp t xs = some vs →
    vs.map (·.1) = xs.map (·.1) ∧ Rps β (vs.map (·.2)) (xs.map fun x => a.eval x.2)
  | [], vs, h => by simp [evp] at h; subst h; exact ⟨rfl, rfl⟩
  | (i, x) :: xs, vs, h => by
    simp only [evp] at h
    split at h
    · rename_i v vs' h1 h2
      simp at h; subst h
      obtain ⟨h3, h4⟩ := evp_sound ht h2
      exact ⟨by simp [h3], _, _, rfl, ev_sound ht h1, h4⟩
    · simp at h

theorem evo_sound {t : List LV} {a : Act} (ht : Rps β t a.tmps.toList) {x : Option Operand} {v : Option LV} (h : evo t x = some v) :
    (v = none ∧ x.map a.eval = none) ∨ ∃ y u, v = some y ∧ x.map a.eval = some u ∧ Rp β y u := by
  cases x with
  | none => simp [evo] at h; subst h; exact .inl ⟨rfl, rfl⟩
  | some x =>
    simp only [evo] at h
    split at h
    · rename_i y hy
      simp at h; subst h
      exact .inr ⟨y, _, rfl, rfl, ev_sound ht hy⟩
    · simp at h

theorem known_info {t : TypeId} (h : known P t = true) : ∃ i, P.info? t = some i := by
  unfold known at h
  cases hi : P.info? t with
  | none => simp [hi] at h
  | some i => exact ⟨i, rfl⟩

theorem known_und {t : TypeId} (h : known P t = true) : ∃ d, P.underlying t = some d := by
  unfold known at h
  cases hi : P.underlying t with
  | none => simp [hi] at h
  | some i => exact ⟨i, rfl⟩

theorem run_sizeOf' {t : TypeId} (h : known P t = true) : (sizeOf t).run P w = .ok (szT P t) w := by
  obtain ⟨i, hi⟩ := known_info h
  simp [sizeOf, typeInfo, hi, szT]

theorem run_isAgg' {t : TypeId} (h : known P t = true) : (isAgg t).run P w = .ok (isAggT P t) w := by
  obtain ⟨d, hd⟩ := known_und h
  cases d <;> simp [isAgg, underlying, hd, isAggT, isAggD]

theorem run_und {t : TypeId} {d : TypeDesc} (h : P.underlying t = some d) : (underlying t).run P w = .ok d w := by
  simp [underlying, h]

theorem run_zero {t : TypeId} {z : LV} (h : zeroT P t = some z) : ∃ u, (zeroValue t).run P w = .ok u w ∧ ofV u = some z ∧ (∃ i, P.info? t = some i ∧ i.zero = some u) := by
  unfold zeroT at h
  cases hi : P.info? t with
  | none => simp [hi] at h
  | some i =>
    simp only [hi] at h
    cases hz : i.zero with
    | none => simp [hz] at h
    | some u => simp only [hz] at h; exact ⟨u, by simp [zeroValue, typeInfo, hi, hz], h, i, rfl, hz⟩

theorem toList_mk' (l : List UInt8) : (⟨⟨l⟩⟩ : ByteArray).toList = l := by
  rw [ByteArray.toList_eq]

theorem bytes_eq (a b : List UInt8) : ((⟨⟨a⟩⟩ : ByteArray) == (⟨⟨b⟩⟩ : ByteArray)) = (a == b) := by
  rw [beq_toListBytes, toList_mk', toList_mk']

/-- Numbers. -/
theorem lint_sound {op : BinOp} {k : IntKind} {x y : Int} {v : LV} (hne : op ≠ .shl ∧ op ≠ .shr) (ty : TypeId) (h : lint op k x y = some v) :
    ∃ u, (Go.binOp op ty (.int k x) (.int k y)).run P w = .ok u w ∧ Rp β v u := by
  obtain ⟨h1, h2⟩ := hne
  cases op <;> simp only [lint, Option.some.injEq, reduceCtorEq, not_true_eq_false, ne_eq] at h h1 h2
  case quo =>
    split at h
    · simp at h
    · rename_i h3
      simp only [Option.some.injEq] at h; subst h
      exact ⟨_, by simp only [Go.binOp, ne_eq, not_true_eq_false, ↓reduceIte, Op.intDiv, h3]; rfl, rfl⟩
  case rem =>
    split at h
    · simp at h
    · rename_i h3
      simp only [Option.some.injEq] at h; subst h
      exact ⟨_, by simp only [Go.binOp, ne_eq, not_true_eq_false, ↓reduceIte, Op.intDiv, h3]; rfl, rfl⟩
  all_goals
    subst h
    exact ⟨_, by simp only [Go.binOp, ne_eq, not_true_eq_false, ↓reduceIte]; rfl, rfl⟩

theorem lstr_sound {op : BinOp} {x y : List UInt8} {v : LV} (ty : TypeId) (h : lstr op x y = some v) :
    ∃ u, (Go.binOp op ty (.string ⟨⟨x⟩⟩) (.string ⟨⟨y⟩⟩)).run P w = .ok u w ∧ Rp β v u := by
  have happ : (⟨⟨x⟩⟩ : ByteArray) ++ (⟨⟨y⟩⟩ : ByteArray) = ⟨⟨x ++ y⟩⟩ := by
    apply ByteArray.ext
    rw [ByteArray.data_append]
    simp
  cases op <;> simp only [lstr, Option.some.injEq, reduceCtorEq] at h
  case add =>
    split at h
    · simp at h
    · rename_i h3
      simp at h; subst h
      refine ⟨_, ?_, rfl⟩
      simp only [Go.binOp, Op.stringOp, happ]
      rw [if_neg (show ¬ (((⟨⟨x⟩⟩ : ByteArray).size + (⟨⟨y⟩⟩ : ByteArray).size : Nat) : Int) > IntKind.i64.max from h3)]; rfl
  all_goals
    subst h
    exact ⟨_, rfl, by simp only [Rp, toList_mk']⟩

end
end Go.CP

