/- The clean machine, part 1: logical values, the logical store, and how they stand to the model's values and worlds. Over any program. -/
import Derived.WalkKit
import Derived.Below
import Derived.Orders
import Derived.KernelRfl
namespace Go.CP
open Go.RowKit (Below)

/-- How much room a slice's array has behind it: known, or all of the object's block. -/
inductive CapI where
  | ex (c : Nat)
  | rest (sz : Nat)

/-- Logical values. -/
inductive LV where
  | bool (b : Bool)
  | int (k : IntKind) (n : Int)
  | flt (k : FloatKind) (bits : Nat)
  | cplx (k : FloatKind) (re im : Nat)
  | str (s : List UInt8)
  | nilp
  | ptr (o k : Nat)
  | nils
  | sl (o k len : Nat) (ci : CapI)
  | nilm
  | map (o : Nat)
  | nilf
  | fn (f : Fn) (first captured : List LV)
  | nili
  | iface (t : TypeId) (v : LV)
  | agg (cs : List LV)
  | tup (vs : List LV)
  | glob (g k : Nat)
  | emp
  | txt
  | junk

def LV.cells : LV → List LV
  | .agg cs => cs
  | v => [v]

def LV.ok : LV → Bool
  | .junk => false
  | _ => true

def LV.one : LV → Bool
  | .agg _ | .tup _ | .junk => false
  | _ => true

/-- Where an object lies. -/
structure Bl where
  blk : Nat
  base : Nat
  room : Nat

def CapI.cap (b : Bl) (k : Nat) : CapI → Nat
  | .ex c => c
  | .rest sz => (b.room - k) / sz

abbrev Lay := Nat → Option Bl

mutual
/-- A logical value stands for a value of the model. -/
def Rp (β : Lay) : LV → Value → Prop
  | .bool b, v => v = .bool b
  | .int k n, v => v = .int k n
  | .flt k n, v => v = .float k n
  | .cplx k a b, v => v = .complex k a b
  | .str s, v => v = .string ⟨⟨s⟩⟩
  | .nilp, v => v = .pointer none
  | .ptr o k, v => ∃ b, β o = some b ∧ v = .pointer (some ⟨b.blk, b.base + k, none⟩)
  | .nils, v => v = .slice none 0 0
  | .sl o k len ci, v => ∃ b, β o = some b ∧ len ≤ ci.cap b k ∧ v = .slice (some ⟨b.blk, b.base + k, none⟩) len (ci.cap b k)
  | .nilm, v => v = .map none
  | .map o, v => ∃ b, β o = some b ∧ v = .map (some b.blk)
  | .nilf, v => v = .nilFunc
  | .fn f xs ys, v => ∃ vs us : List Value, v = .func f ⟨vs⟩ ⟨us⟩ ∧ Rps β xs vs ∧ Rps β ys us
  | .nili, v => v = .nilIface
  | .iface t x, v => ∃ u, v = .iface t u ∧ Rp β x u
  | .agg cs, v => ∃ vs : List Value, v = .agg ⟨vs⟩ ∧ Rps β cs vs
  | .tup cs, v => ∃ vs : List Value, v = .tuple ⟨vs⟩ ∧ Rps β cs vs
  | .glob g k, v => v = .pointer (some ⟨g, k, none⟩)
  | .emp, v => ∃ a c, v = .slice (some a) 0 c
  | .txt, v => ∃ s, v = .string s
  | .junk, _ => True
def Rps (β : Lay) : List LV → List Value → Prop
  | [], vs => vs = []
  | c :: cs, vs => ∃ v us, vs = v :: us ∧ Rp β c v ∧ Rps β cs us
end

/-- A layout that knows more. -/
def Lay.le (β β' : Lay) : Prop := ∀ o b, β o = some b → β' o = some b

theorem Lay.le.refl (β : Lay) : β.le β := fun _ _ h => h
theorem Lay.le.trans {a b c : Lay} (h : a.le b) (k : b.le c) : a.le c := fun o x e => k o x (h o x e)

mutual
theorem Rp.mono {β β' : Lay} (h : β.le β') : ∀ {l : LV} {v : Value}, Rp β l v → Rp β' l v
  | .bool _, _, e => e
  | .int .., _, e => e
  | .flt .., _, e => e
  | .cplx .., _, e => e
  | .str _, _, e => e
  | .nilp, _, e => e
  | .ptr _ _, _, ⟨b, e, r⟩ => ⟨b, h _ _ e, r⟩
  | .nils, _, e => e
  | .sl .., _, ⟨b, e, r⟩ => ⟨b, h _ _ e, r⟩
  | .nilm, _, e => e
  | .map _, _, ⟨b, e, r⟩ => ⟨b, h _ _ e, r⟩
  | .nilf, _, e => e
  | .fn .., _, ⟨vs, us, e, r, s⟩ => ⟨vs, us, e, Rps.mono h r, Rps.mono h s⟩
  | .nili, _, e => e
  | .iface _ _, _, ⟨u, e, r⟩ => ⟨u, e, Rp.mono h r⟩
  | .agg _, _, ⟨vs, e, r⟩ => ⟨vs, e, Rps.mono h r⟩
  | .tup _, _, ⟨vs, e, r⟩ => ⟨vs, e, Rps.mono h r⟩
  | .glob _ _, _, e => e
  | .emp, _, e => e
  | .txt, _, e => e
  | .junk, _, _ => trivial
theorem Rps.mono {β β' : Lay} (h : β.le β') : ∀ {l : List LV} {v : List Value}, Rps β l v → Rps β' l v
  | [], _, e => e
  | _ :: _, _, ⟨v, us, e, r, s⟩ => ⟨v, us, e, Rp.mono h r, Rps.mono h s⟩
end

theorem Rps.length {β : Lay} : ∀ {l : List LV} {v : List Value}, Rps β l v → v.length = l.length
  | [], _, e => by simp only [Rps] at e; simp [e]
  | _ :: _, _, e => by obtain ⟨v, us, rfl, _, s⟩ := e; simp [Rps.length s]

theorem Rps.get {β : Lay} : ∀ {l : List LV} {v : List Value}, Rps β l v → ∀ {i : Nat} {x : LV}, l[i]? = some x → ∃ u, v[i]? = some u ∧ Rp β x u
  | [], _, _, _, _, e => by simp at e
  | _ :: _, _, h, 0, x, e => by
    obtain ⟨v, us, rfl, r, s⟩ := h
    simp at e; subst e; exact ⟨v, by simp, r⟩
  | _ :: _, _, h, i + 1, x, e => by
    obtain ⟨v, us, rfl, r, s⟩ := h
    simp at e
    obtain ⟨u, hu, ru⟩ := Rps.get s e
    exact ⟨u, by simpa using hu, ru⟩

theorem Rps.of_get {β : Lay} : ∀ {l : List LV} {v : List Value}, v.length = l.length → (∀ (i : Nat) (x : LV), l[i]? = some x → ∃ u, v[i]? = some u ∧ Rp β x u) → Rps β l v
  | [], v, h, _ => by simp only [Rps]; exact List.eq_nil_of_length_eq_zero (by simpa using h)
  | x :: l, [], h, _ => by simp at h
  | x :: l, u :: v, h, g => by
    obtain ⟨u', hu, r⟩ := g 0 x (by simp)
    simp at hu; subst hu
    exact ⟨u, v, rfl, r, Rps.of_get (by simpa using h) (fun i y hy => by
      obtain ⟨z, hz, rz⟩ := g (i + 1) y (by simpa using hy)
      exact ⟨z, by simpa using hz, rz⟩)⟩

theorem Rps.append {β : Lay} : ∀ {l m : List LV} {v u : List Value}, Rps β l v → Rps β m u → Rps β (l ++ m) (v ++ u)
  | [], _, _, _, h, k => by simp only [Rps] at h; subst h; simpa using k
  | _ :: _, _, _, _, h, k => by
    obtain ⟨v, us, rfl, r, s⟩ := h
    exact ⟨v, us ++ _, by simp, r, Rps.append s k⟩

theorem Rps.drop {β : Lay} : ∀ {l : List LV} {v : List Value} (n : Nat), Rps β l v → Rps β (l.drop n) (v.drop n)
  | _, _, 0, h => by simpa using h
  | [], _, n + 1, h => by simp only [Rps] at h; subst h; simp [Rps]
  | _ :: _, _, n + 1, h => by obtain ⟨v, us, rfl, r, s⟩ := h; simpa using Rps.drop n s

theorem Rps.take {β : Lay} : ∀ {l : List LV} {v : List Value} (n : Nat), Rps β l v → Rps β (l.take n) (v.take n)
  | _, _, 0, h => by simp [Rps]
  | [], _, n + 1, h => by simp only [Rps] at h; subst h; simp [Rps]
  | _ :: _, _, n + 1, h => by
    obtain ⟨v, us, rfl, r, s⟩ := h
    simp only [List.take_succ_cons]; exact ⟨v, _, rfl, r, Rps.take n s⟩

theorem Rps.set {β : Lay} : ∀ {l : List LV} {v : List Value} (n : Nat) {x : LV} {u : Value}, Rps β l v → Rp β x u → Rps β (l.set n x) (v.set n u)
  | [], _, _, _, _, h, _ => by simp only [Rps] at h; subst h; simp [Rps]
  | _ :: _, _, 0, x, u, h, k => by obtain ⟨v, us, rfl, r, s⟩ := h; simp only [List.set_cons_zero]; exact ⟨u, us, rfl, k, s⟩
  | _ :: _, _, n + 1, x, u, h, k => by
    obtain ⟨v, us, rfl, r, s⟩ := h; simp only [List.set_cons_succ]; exact ⟨v, _, rfl, r, Rps.set n s k⟩

theorem Rps.replicate {β : Lay} {x : LV} {u : Value} (h : Rp β x u) : ∀ n, Rps β (List.replicate n x) (List.replicate n u)
  | 0 => by simp [Rps]
  | n + 1 => by simp only [List.replicate_succ]; exact ⟨u, _, rfl, h, Rps.replicate h n⟩

theorem Rps.one {β : Lay} {x : LV} {v : Value} (h : Rp β x v) : Rps β [x] [v] := ⟨v, [], rfl, h, rfl⟩

/-- May an object be written? bt: it may, and its block's cells are of a known type; gl: it is a package-level variable's cells, which are only read. -/
inductive Md where
  | rw
  | ro
  | bt (t : TypeId)
  | gl (g n : Nat)
  deriving DecidableEq

def Md.w : Md → Bool
  | .rw | .bt _ => true
  | _ => false

theorem Md.w_rw : Md.w .rw = true := rfl

/-- What an object's mode says of its block. -/
def MdOk (N : Nat) (m : Md) (b : Bl) (c : Array Value) (e : TypeId) (fz : Nat × Nat) : Prop :=
  (m.w = true → N ≤ b.blk ∧ ∀ j, j < c.size → ¬(fz.1 ≤ j ∧ j < fz.2)) ∧ (∀ t, m = .bt t → e = t ∧ b.base = 0) ∧ (∀ g n, m = .gl g n → b.blk = g ∧ b.base = 0 ∧ b.room = n)

/-- Logical objects. -/
inductive LObj where
  | cells (m : Md) (l : List LV)
  | map (m : Md) (es : List (LV × LV)) (bs : List Nat) (k : Nat)
  | iter (om : Option Nat) (since : Nat) (seen : List Nat) (last : Nat)
  | dead

abbrev LState := List LObj

def LObj.rw : LObj → Bool
  | .cells m _ | .map m _ _ _ => m.w
  | .iter .. => true
  | .dead => false
def LObj.live : LObj → Bool
  | .dead => false
  | _ => true

/-- One entry of a map. -/
def Entry (β : Lay) (e : LV × LV) (c : MapEntry) : Prop := Rp β e.1 c.key ∧ Rp β e.2 c.val

def Entries (β : Lay) : List (LV × LV) → List MapEntry → Prop
  | [], vs => vs = []
  | c :: cs, vs => ∃ v us, vs = v :: us ∧ Entry β c v ∧ Entries β cs us

theorem Entries.mono {β β' : Lay} (h : β.le β') : ∀ {l : List (LV × LV)} {v : List MapEntry}, Entries β l v → Entries β' l v
  | [], _, e => e
  | _ :: _, _, ⟨v, us, e, r, s⟩ => ⟨v, us, e, ⟨r.1.mono h, r.2.mono h⟩, Entries.mono h s⟩

/-- The stamps of a map's entries: each is its own, and lies below the clock. -/
def Stmp (c : Array MapEntry) (k : Nat) : Prop := (∀ x ∈ c.toList, x.born < k) ∧ (c.toList.map (·.born)).Nodup

/-- The map that is ranged over. -/
def ItM (β : Lay) : Option Nat → Option Nat → Prop
  | none, mb => mb = none
  | some p, mb => ∃ b, β p = some b ∧ mb = some b.blk

theorem ItM.mono {β β' : Lay} (h : β.le β') : ∀ {p mb : Option Nat}, ItM β p mb → ItM β' p mb
  | none, _, e => e
  | some _, _, ⟨b, e, r⟩ => ⟨b, h _ _ e, r⟩

/-- An object lies in the world. -/
def OR (N : Nat) (β : Lay) (w : World) (o : Nat) : LObj → Prop
  | .dead => True
  | .cells m l => ∃ b, β o = some b ∧ ∃ c e fz, w.heap[b.blk]? = some (.cells c e fz) ∧ c.size = b.base + b.room ∧ l.length ≤ b.room ∧
      (∀ i x, l[i]? = some x → ∃ u, c[b.base + i]? = some u ∧ Rp β x u) ∧ MdOk N m b c e fz
  | .map m es bs k => ∃ b, β o = some b ∧ ∃ c, w.heap[b.blk]? = some (.map c k) ∧ Entries β es c.toList ∧ (m.w = true → N ≤ b.blk) ∧ Stmp c k ∧ c.toList.map (·.born) = bs
  | .iter om since seen last => ∃ b, β o = some b ∧ ∃ mb, w.heap[b.blk]? = some (.mapIter mb since ⟨seen⟩ last) ∧ ItM β om mb ∧ b.base = 0 ∧ N ≤ b.blk

theorem OR.mono {N : Nat} {β β' : Lay} {w : World} {o : Nat} (h : β.le β') : ∀ {x : LObj}, OR N β w o x → OR N β' w o x
  | .dead, _ => trivial
  | .cells _ _, ⟨b, e, c, t, fz, h1, h2, h3, h4, h5⟩ => ⟨b, h _ _ e, c, t, fz, h1, h2, h3, fun i x hx => let ⟨u, hu, r⟩ := h4 i x hx; ⟨u, hu, r.mono h⟩, h5⟩
  | .map _ _ _ _, ⟨b, e, c, h1, h2, h3⟩ => ⟨b, h _ _ e, c, h1, h2.mono h, h3⟩
  | .iter .., ⟨b, e, c, h1, h2, h3⟩ => ⟨b, h _ _ e, c, h1, h2.mono h, h3⟩

/-- What lay below stays. -/
structure Bw (B : Nat) (w w' : World) : Prop extends Go.RowKit.Below B w w'

theorem Bw.refl (B : Nat) (w : World) : Bw B w w := ⟨Go.RowKit.Below.refl B w⟩
theorem Bw.trans {B : Nat} {a b c : World} (h : Bw B a b) (k : Bw B b c) : Bw B a c := ⟨h.toBelow.trans k.toBelow⟩
theorem Bw.mono {B C : Nat} {a b : World} (h : Bw B a b) (hc : C ≤ B) : Bw C a b := ⟨h.toBelow.mono hc⟩
theorem Bw.drew {B : Nat} {a b : World} (h : Bw B a b) : Bw B a b.drew := ⟨h.toBelow.drew⟩
theorem Bw.alloc {B : Nat} {a b : World} (h : Bw B a b) (hb : B ≤ a.heap.size) (o : Obj) : Bw B a (b.alloc o) := ⟨h.toBelow.alloc (Nat.le_trans hb h.size) o⟩

/-- The logical store stands for the world w, which came out of w0. -/
structure Rel (w0 : World) (β : Lay) (st : LState) (w : World) : Prop where
  below : Bw w0.heap.size w0 w
  dom : ∀ o, st.length ≤ o → β o = none
  obj : ∀ o x, st[o]? = some x → OR w0.heap.size β w o x
  sep : ∀ o o' x x' b b', st[o]? = some x → x.rw = true → st[o']? = some x' → x'.live = true → o ≠ o' → β o = some b → β o' = some b' → b.blk ≠ b'.blk

end Go.CP
