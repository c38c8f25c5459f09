/- Values as trees; what lies there of them. -/
/- Values, as they lie in this program; small functions of them. -/
/- Lists, maps and their parts. -/
/- Keys' values. -/
/- Items, Map, Point. -/
/- Map. -/
import Derived.Test.YtknegckgmklnhaaGreatDoorCp42
import Derived.Test.YtknegckgmklnhaaGreatDoorVaW
namespace Go.CP

/-- A value. -/
inductive T where
  | null | unknown
  | bool (b : Bool)
  | int (n : Int)
  | point (a b : Int)
  | text (s : List UInt8)
  | list (l : List T)
  | map (es : List (List UInt8 × T))

namespace T
def kind : T → Int
  | null => 0
  | unknown => 1
  | bool _ => 2
  | int _ => 3
  | point _ _ => 4
  | text _ => 5
  | list _ => 6
  | map _ => 7

def keys : T → List (List UInt8)
  | map es => es.map (·.1)
  | _ => []

def items : T → List T
  | list l => l
  | map es => es.map (·.2)
  | _ => []

theorem size_mem {l : List T} {x : T} (h : x ∈ l) : SizeOf.sizeOf x < SizeOf.sizeOf l := List.sizeOf_lt_of_mem h
theorem size_items {t x : T} (h : x ∈ t.items) : SizeOf.sizeOf x < SizeOf.sizeOf t := by
  cases t <;> simp only [items, List.not_mem_nil] at h
  · have := List.sizeOf_lt_of_mem h
    simp; omega
  · obtain ⟨e, he, rfl⟩ := List.mem_map.1 h
    have h1 := List.sizeOf_lt_of_mem he
    obtain ⟨k, v⟩ := e
    simp at h1 ⊢; omega
end T

/-- A float of a whole number. -/
def fb (n : Int) : Nat := FloatKind.f64.nearest n

/-- Texts: is one ahead of another? -/
abbrev ltB (a b : List UInt8) : Prop := Op.bytesLess a b = true

/-- How far numbers reach, how long texts and lists are. -/
def big : Nat := 2 ^ 30

mutual
/-- A value that may be: keys rise; nothing is too great. -/
def T.ok : T → Prop
  | .int n => -9223372036854775808 ≤ n ∧ n < 9223372036854775808
  | .point a b => (-9007199254740992 ≤ a ∧ a ≤ 9007199254740992) ∧ (-9007199254740992 ≤ b ∧ b ≤ 9007199254740992)
  | .text s => s.length ≤ big
  | .list l => l.length ≤ big ∧ T.oks l
  | .map es => es.length ≤ big ∧ T.okm es ∧ (es.map (·.1)).Pairwise ltB
  | _ => True
def T.oks : List T → Prop
  | [] => True
  | t :: ts => T.ok t ∧ T.oks ts
def T.okm : List (List UInt8 × T) → Prop
  | [] => True
  | e :: es => (e.1.length ≤ big ∧ T.ok e.2) ∧ T.okm es
end

theorem T.oks_iff : ∀ {l : List T}, T.oks l ↔ ∀ t ∈ l, t.ok
  | [] => by simp [T.oks]
  | t :: ts => by simp [T.oks, T.oks_iff (l := ts)]
theorem T.okm_iff : ∀ {l : List (List UInt8 × T)}, T.okm l ↔ ∀ e ∈ l, e.1.length ≤ big ∧ e.2.ok
  | [] => by simp [T.okm]
  | t :: ts => by simp [T.okm, T.okm_iff (l := ts)]

theorem bl_irrefl : ∀ x : List UInt8, Op.bytesLess x x = false
  | [] => rfl
  | a :: x => by simp [Op.bytesLess, bl_irrefl x]

theorem bl_trans : ∀ {x y z : List UInt8}, Op.bytesLess x y = true → Op.bytesLess y z = true → Op.bytesLess x z = true
  | _, _, [], _, h => by simp [Op.bytesLess] at h
  | _, [], _ :: _, h, _ => by simp [Op.bytesLess] at h
  | [], _ :: _, _ :: _, _, _ => rfl
  | a :: x, b :: y, c :: z, h, k => by
    simp only [Op.bytesLess, Bool.or_eq_true, decide_eq_true_eq, Bool.and_eq_true, beq_iff_eq, UInt8.lt_iff_toNat_lt] at h k ⊢
    rcases h with h | ⟨rfl, h⟩
    · rcases k with k | ⟨rfl, k⟩
      · left; omega
      · left; exact h
    · rcases k with k | ⟨rfl, k⟩
      · left; exact k
      · right; exact ⟨rfl, bl_trans h k⟩

theorem bl_tri : ∀ {x y : List UInt8}, Op.bytesLess x y = false → Op.bytesLess y x = false → x = y
  | [], [], _, _ => rfl
  | [], _ :: _, h, _ => by simp [Op.bytesLess] at h
  | _ :: _, [], _, h => by simp [Op.bytesLess] at h
  | a :: x, b :: y, h, k => by
    simp only [Op.bytesLess, Bool.or_eq_false_iff, decide_eq_false_iff_not, Bool.and_eq_false_iff, UInt8.lt_iff_toNat_lt] at h k
    have e : a = b := UInt8.toNat_inj.1 (by omega)
    subst e
    simp only [beq_self_eq_true, Bool.true_eq_false, false_or] at h k
    rw [bl_tri h.2 k.2]

theorem bl_asymm {x y : List UInt8} (h : Op.bytesLess x y = true) : Op.bytesLess y x = false := by
  rw [Bool.eq_false_iff]
  intro k
  have := bl_trans h k
  rw [bl_irrefl] at this; cases this


theorem ltB_ne {a b : List UInt8} (h : ltB a b) : a ≠ b := fun e => by subst e; unfold ltB at h; rw [bl_irrefl] at h; cases h

theorem rise_nodup {l : List (List UInt8)} (h : l.Pairwise ltB) : l.Nodup := h.imp ltB_ne

/-- What stands behind a key. -/
def T.find (es : List (List UInt8 × T)) (k : List UInt8) : Option T := (es.find? fun e => e.1 == k).map (·.2)

def T.at (t : T) (k : List UInt8) : Option T := match t with
  | .map es => T.find es k
  | _ => none

theorem T.ok_items {t : T} (h : t.ok) : ∀ x ∈ t.items, x.ok := by
  cases t <;> simp only [T.items, List.not_mem_nil, false_implies, implies_true]
  · simp only [T.ok] at h; exact T.oks_iff.1 h.2
  · simp only [T.ok] at h
    intro x hx
    obtain ⟨e, he, rfl⟩ := List.mem_map.1 hx
    exact (T.okm_iff.1 h.2.1 e he).2

theorem T.find_mem {es : List (List UInt8 × T)} {k : List UInt8} {t : T} (h : T.find es k = some t) : (k, t) ∈ es := by
  unfold T.find at h
  obtain ⟨e, he, rfl⟩ := Option.map_eq_some_iff.1 h
  have h1 := List.mem_of_find?_eq_some he
  have h2 := List.find?_some he
  simp only [beq_iff_eq] at h2
  subst h2; exact h1

theorem T.find_of_mem {es : List (List UInt8 × T)} (hn : (es.map (·.1)).Nodup) {k : List UInt8} {t : T} (h : (k, t) ∈ es) : T.find es k = some t := by
  induction es with
  | nil => cases h
  | cons e es ih =>
    simp only [List.map_cons, List.nodup_cons] at hn
    rcases List.mem_cons.1 h with rfl | h
    · simp [T.find]
    · have hne : e.1 ≠ k := fun c => hn.1 (c ▸ List.mem_map.2 ⟨_, h, rfl⟩)
      have := ih hn.2 h
      unfold T.find at this ⊢
      rw [List.find?_cons_of_neg (by simpa using hne)]; exact this

theorem T.find_none {es : List (List UInt8 × T)} {k : List UInt8} : T.find es k = none ↔ k ∉ es.map (·.1) := by
  unfold T.find
  simp only [Option.map_eq_none_iff, List.find?_eq_none, beq_iff_eq, List.mem_map, not_exists, not_and]

end Go.CP

namespace Go.Proofs.YtknegckgmklnhaaGreatDoor
open Go Go.CP
set_option maxRecDepth 100000

abbrev i64 (n : Int) : LV := .int .i64 n

mutual
/-- What stands for a value. -/
def lvT : T → LV
  | .null => .nili
  | .unknown => .iface 169 (.agg [])
  | .bool b => .iface 4 (.bool b)
  | .int n => .iface 3 (.int .i64 n)
  | .point a b => .iface 170 (.cplx .f64 (fb a) (fb b))
  | .text s => .iface 9 (.str s)
  | .list l => .iface 171 (.isl (lvTs l) l.length none)
  | .map es => .iface 173 (.imap (es.map fun e => .str e.1) (lvTm es))
def lvTs : List T → List LV
  | [] => []
  | t :: ts => lvT t :: lvTs ts
def lvTm : List (List UInt8 × T) → List LV
  | [] => []
  | e :: es => .agg [lvT e.2] :: lvTm es
end

/-- A value as a struct. -/
abbrev vT (t : T) : LV := .agg [lvT t]

theorem lvTs_eq : ∀ {l : List T}, lvTs l = l.map lvT
  | [] => rfl
  | t :: ts => by simp [lvTs, lvTs_eq (l := ts)]
theorem lvTm_eq : ∀ {l : List (List UInt8 × T)}, lvTm l = l.map fun e => vT e.2
  | [] => rfl
  | t :: ts => by simp [lvTm, lvTm_eq (l := ts)]

mutual
@[simp] theorem lvT_plain : ∀ {t : T}, (lvT t).plain = true
  | .null => rfl
  | .unknown => rfl
  | .bool _ => rfl
  | .int _ => rfl
  | .point _ _ => rfl
  | .text _ => rfl
  | .list l => by simp only [lvT, LV.plain]; exact lvTs_plain
  | .map es => by
    simp only [lvT, LV.plain, Bool.and_eq_true]
    exact ⟨plains_map fun _ _ => rfl, lvTm_plain⟩
@[simp] theorem lvTs_plain : ∀ {l : List T}, LV.plains (lvTs l) = true
  | [] => rfl
  | t :: ts => by simp only [lvTs, LV.plains, Bool.and_eq_true]; exact ⟨lvT_plain, lvTs_plain⟩
@[simp] theorem lvTm_plain : ∀ {l : List (List UInt8 × T)}, LV.plains (lvTm l) = true
  | [] => rfl
  | t :: ts => by simp only [lvTm, LV.plains, LV.plain, Bool.and_eq_true, Bool.and_true]; exact ⟨lvT_plain, lvTm_plain⟩
end

theorem lvT_one : ∀ {t : T}, (lvT t).one = true := fun {t} => by cases t <;> rfl

theorem vT_plain {t : T} : (vT t).plain = true := by simp only [vT, LV.plain, LV.plains, lvT_plain, Bool.and_true]
theorem vT_plains {t : T} : LV.plains [vT t] = true := by simp only [LV.plains, vT_plain, Bool.and_true]
theorem vTs_plains {l : List T} : LV.plains (l.map vT) = true := plains_map fun _ _ => vT_plain

/-- Kind -/
theorem kind_pu (t : T) : Pu Tryz.prog 46 [vT t] (i64 t.kind) :=
  Pu.of (c46 _ (by cases t <;> exact (rfl : _ = _))) vT_plains rfl

theorem unset_pu : Pu Tryz.prog 66 [] (vT .null) := Pu.of (c66 (by exact ⟨_, rfl, _, _, rfl, rfl, rfl⟩)) rfl rfl

end Go.Proofs.YtknegckgmklnhaaGreatDoor

namespace Go.Proofs.YtknegckgmklnhaaGreatDoor
open Go Go.CP
set_option maxRecDepth 100000

theorem call157 : Callable Tryz.prog 157 := ⟨Tryz.f157, bodyOf Tryz.f157, Tryz.func157, by kernel_rfl, by kernel_rfl⟩
theorem call159 : Callable Tryz.prog 159 := ⟨Tryz.f159, bodyOf Tryz.f159, Tryz.func159, by kernel_rfl, by kernel_rfl⟩

theorem room_big {n b : Nat} (hn : n ≤ 2 ^ 31) (hb : b ≤ 256) : room47 n b = true := by
  have : n * b ≤ 2 ^ 31 * 256 := Nat.mul_le_mul hn hb
  simp only [room47, Bool.and_eq_true, decide_eq_true_eq]
  omega

theorem clone157 {cs : List LV} {n : Nat} (hl : cs.length = n) (hb : n ≤ big) (hp : LV.plains cs = true) : Pu Tryz.prog 157 [.isl cs n none] (.isl cs n none) := by
  refine Pu.of ?_ (by simp only [LV.plains, LV.plain, hp, Bool.and_true]) (by simp only [LV.plain, hp])
  rcases Nat.eq_zero_or_pos n with h0 | h0
  · subst h0
    have hc : cs = [] := List.eq_nil_of_length_eq_zero hl
    subst hc
    refine LCalls.isl0 call157 (c157 _ ?_) (c157 _ ?_)
    · exact .inr (.inr ⟨.inr rfl, rfl, rfl⟩)
    · exact .inl ⟨0, 0, .ex 0, .rw, [], rfl, rfl, rfl, Nat.le_refl _, rfl⟩
  · apply c157
    show bd (eqB .eql (eqSl (.isl cs n none) .nils)) _
    rw [eqSl_isl h0]
    show bd2 (lappend ([] ++ [.cells .rw []]) 1 16 Md.rw (.sl 0 0 0 (.ex 0)) (.isl cs n none)) _
    exact clone_dp h0 (by omega) (room_big (by unfold big at hb; omega) (by omega)) rfl hp fun r s h => h

theorem clone159 {cs : List LV} {n : Nat} (hl : cs.length = n) (hb : n ≤ big) (hp : LV.plains cs = true) : Pu Tryz.prog 159 [.isl cs n none] (.isl cs n none) := by
  refine Pu.of ?_ (by simp only [LV.plains, LV.plain, hp, Bool.and_true]) (by simp only [LV.plain, hp])
  rcases Nat.eq_zero_or_pos n with h0 | h0
  · subst h0
    have hc : cs = [] := List.eq_nil_of_length_eq_zero hl
    subst hc
    refine LCalls.isl0 call159 (c159 _ ?_) (c159 _ ?_)
    · exact .inr (.inr ⟨.inr rfl, rfl, rfl⟩)
    · exact .inl ⟨0, 0, .ex 0, .rw, [], rfl, rfl, rfl, Nat.le_refl _, rfl⟩
  · apply c159
    show bd (eqB .eql (eqSl (.isl cs n none) .nils)) _
    rw [eqSl_isl h0]
    show bd2 (lappend ([] ++ [.cells .rw []]) 1 16 Md.rw (.sl 0 0 0 (.ex 0)) (.isl cs n none)) _
    exact clone_dp h0 (by omega) (room_big (by unfold big at hb; omega) (by omega)) rfl hp fun r s h => h

end Go.Proofs.YtknegckgmklnhaaGreatDoor

namespace Go.Proofs.YtknegckgmklnhaaGreatDoor
open Go Go.CP
set_option maxRecDepth 100000

theorem textKeys_of : ∀ {ss seen : List (List UInt8)}, ss.Nodup → (∀ s ∈ ss, s ∉ seen) → textKeys (ss.map .str) seen = some ss
  | [], _, _, _ => rfl
  | s :: ss, seen, hn, hd => by
    simp only [List.nodup_cons] at hn
    simp only [List.map_cons, textKeys]
    rw [if_neg (hd s (by simp)), textKeys_of hn.2 fun x hx => by
      simp only [List.mem_cons, not_or]
      exact ⟨fun e => hn.1 (e ▸ hx), hd x (by simp [hx])⟩]
    rfl

theorem mfind_T {es : List (List UInt8 × T)} {k : List UInt8} : mfind (.str k) ((es.map fun e => LV.str e.1).zip (lvTm es)) = some ((T.find es k).map vT) := by
  induction es with
  | nil => rfl
  | cons e es ih =>
    simp only [List.map_cons, lvTm, List.zip_cons_cons, mfind, keyEq]
    by_cases h : k = e.1
    · subst h; simp [T.find]
    · have h1 : (k == e.1) = false := by simpa using h
      have h2 : (e.1 == k) = false := by simpa using Ne.symm h
      simp only [h1, ih, T.find, List.find?_cons, h2]

theorem lvTm_len {es : List (List UInt8 × T)} : (lvTm es).length = es.length := by rw [lvTm_eq]; simp

theorem mget_T {st : LState} {es : List (List UInt8 × T)} {k : List UInt8} {ok : Bool} (hn : (es.map (·.1)).Nodup) :
    mget st true (some (.agg [.nili])) (.imap (es.map fun e => .str e.1) (lvTm es)) (.str k) ok =
      some (if ok then .tup [vT ((T.find es k).getD .null), .bool (T.find es k).isSome] else vT ((T.find es k).getD .null)) := by
  have hk : (textKeys (es.map fun e => LV.str e.1) []).isSome = true := by
    have := textKeys_of (ss := es.map (·.1)) (seen := []) hn (by simp)
    rw [List.map_map] at this
    simp only [Function.comp_def] at this
    rw [this]; rfl
  show mgetF _ _ _ _ _ _ = _
  unfold mgetF
  rw [if_pos ⟨rfl, rfl, hk, by simp [lvTm_len]⟩, mfind_T]
  cases hf : T.find es k <;> cases ok <;> rfl

/-- At -/
theorem at_pu {t : T} (h : t.ok) (k : List UInt8) : Pu Tryz.prog 50 [vT t, .str k] (.tup [vT ((t.at k).getD .null), .bool (t.at k).isSome]) := by
  refine Pu.of (c50 _ _ ?_) (by simp [LV.plains, LV.plain]) (by simp [LV.plain, LV.plains])
  cases t with
  | map es =>
    simp only [T.ok] at h
    show bd (mget _ true (some (.agg [.nili])) (.imap (es.map fun e => .str e.1) (lvTm es)) (.str k) true) _
    rw [mget_T (rise_nodup h.2.2)]
    show bd (some _) _
    simp only [T.at]
    generalize (T.find es k).getD .null = y
    have hp : ∀ s, dp s (vT y) (vT y) := fun s => dp_refl _ vT_plain
    revert hp
    cases y <;> exact fun hp => ⟨_, rfl, _, _, rfl, hp _, _, _, rfl, rfl, rfl⟩
  | _ => exact ⟨_, rfl, _, _, rfl, ⟨_, rfl, _, _, rfl, rfl, rfl⟩, _, _, rfl, rfl, rfl⟩

/-- List -/
theorem list_pu {l : List T} (h : l.length ≤ big) : Pu Tryz.prog 94 [.isl (lvTs l) l.length none] (vT (.list l)) := by
  have hl : (lvTs l).length = l.length := by rw [lvTs_eq]; simp
  refine Pu.of (c94 _ ?_) (by simp [LV.plains, LV.plain]) vT_plain
  refine (clone157 hl h lvTs_plain).call ?_
  exact dp_refl (v := vT (.list l)) _ vT_plain

end Go.Proofs.YtknegckgmklnhaaGreatDoor

namespace Go.Proofs.YtknegckgmklnhaaGreatDoor
open Go Go.CP
set_option maxRecDepth 100000

/-- A slice of values. -/
abbrev vL (l : List T) : LV := .isl (lvTs l) l.length none

theorem lvTs_len {l : List T} : (lvTs l).length = l.length := by rw [lvTs_eq]; simp
theorem lvTs_get {l : List T} {i : Nat} : (lvTs l)[i]? = (l[i]?).map lvT := by rw [lvTs_eq]; simp
theorem lvTs_app {a b : List T} : lvTs (a ++ b) = lvTs a ++ lvTs b := by simp [lvTs_eq]

/-- A slice of texts. -/
abbrev sL (l : List (List UInt8)) : LV := .isl (l.map .str) l.length none

theorem wrap_add1 {i : Nat} (h : i < 2 ^ 40) : IntKind.i64.wrap ((i : Int) + 1) = ((i + 1 : Nat) : Int) := by
  rw [wrap_i64 (by omega) (by omega)]; simp

/-- The loop of Items. -/
theorem items_loop {es : List (List UInt8 × T)} (hn : (es.map (·.1)).Nodup) (hb : es.length ≤ big) {R : LV → LState → Prop} (hR : ∀ r s, dp s (vL (es.map (·.2))) r → R r s) :
    ∀ (d i : Nat) (f : Option Nat) (st : LState), i + d = es.length → OwnM .rw st f 1 i (lvTs ((es.map (·.2)).take i)) →
      P101_1 (osl f 1 i) (.imap (es.map fun e => .str e.1) (lvTm es)) (sL (es.map (·.1))) (i64 es.length) (i64 i) R st := by
  intro d
  induction d with
  | zero =>
    intro i f st hi ho
    apply p101_1
    have : ¬ ((i : Int) < es.length) := by omega
    simp only [w101_1, bInt_int, lint_lss, bd_some, bsel_dec]
    refine ⟨fun h => absurd h this, fun _ => hR _ _ ?_⟩
    have hi' : i = es.length := by omega
    subst hi'
    rw [List.take_of_length_le (by simp)] at ho
    have := dp_own ho rfl (dps_refl st lvTs_plain)
    show dp st (.isl _ (es.map (·.2)).length none) _
    rw [List.length_map]; exact this
  | succ d ih =>
    intro i f st hi ho
    apply p101_1
    have hlt : i < es.length := by omega
    obtain ⟨⟨k, t⟩, hk⟩ : ∃ e, es[i] = e := ⟨_, rfl⟩
    have hget : es[i]? = some (k, t) := by rw [List.getElem?_eq_getElem hlt, hk]
    have hks : ((es.map (·.1)).map LV.str)[i * 1]? = some (.str k) := by simp [hget]
    have hlt' : i < (es.map (·.1)).length := by simpa using hlt
    have hfind : T.find es k = some t := T.find_of_mem hn (List.mem_of_getElem? hget)
    have e1 : ixSl 1 (sL (es.map (·.1))) (i64 i) = some (.iptr ((es.map (·.1)).map .str) (i * 1)) := ixIsl hlt'
    simp only [w101_1, bInt_int, lint_lss, bd_some, bsel_dec, e1, ld1_iptr, hks, mget_T hn, hfind, Option.getD_some, Bool.false_eq_true, if_false]
    refine ⟨fun _ => ?_, fun h => absurd (by omega : (i : Int) < es.length) h⟩
    have e2 : lfill (fun i => some (i * 1, 1)) (List.replicate 1 [LV.nili]).flatten [(0, vT t)] = some [lvT t] := rfl
    rw [e2]
    simp only [slNew_some, bd2_some]
    have ho1 := ho.fr (st' := st ++ [.cells .rw [lvT t]]) (S := fun _ => False) Fr.app (fun _ _ h => h)
    obtain ⟨st2, f2, h1, h2, -⟩ := ho1.append (x := .sl st.length 0 1 (.ex 1)) (k := 1) (new := [lvT t]) (bytes := 16) (by simp [lsrc]) (by omega) rfl (by simp [lvT_one]) (room_big (by unfold big at hb; omega) (by omega))
    rw [h1]
    simp only [bd2_some, lint_add, bd_some, wrap_add1 (show i < 2 ^ 40 by unfold big at hb; omega)]
    refine ih (i + 1) f2 st2 (by omega) ?_
    have e3 : (es.map (·.2)).take (i + 1) = (es.map (·.2)).take i ++ [t] := by
      rw [List.take_add_one]; simp [hget]
    rw [e3, lvTs_app]
    exact h2

/-- Items, of a map and its keys. -/
theorem items_map {es : List (List UInt8 × T)} (hn : (es.map (·.1)).Nodup) (hb : es.length ≤ big) (hk : Pu Tryz.prog 49 [vT (.map es)] (sL (es.map (·.1)))) : Pu Tryz.prog 101 [vT (.map es)] (vL (es.map (·.2))) := by
  refine Pu.of (c101 _ ?_) (by simp [LV.plains, LV.plain]) (by simp [LV.plain])
  show LCalls Tryz.prog 49 [vT (.map es)] _ _
  refine hk.call ?_
  show P101_1 (osl none 1 0) (.imap (es.map fun e => .str e.1) (lvTm es)) (sL (es.map (·.1))) (i64 (es.map (·.1)).length) (i64 0) _ _
  rw [List.length_map]
  exact items_loop hn hb (fun r s h => h) es.length 0 none _ (by omega) OwnM.nil

theorem items_list {l : List T} (hb : l.length ≤ big) : Pu Tryz.prog 101 [vT (.list l)] (vL l) := by
  refine Pu.of (c101 _ ?_) (by simp [LV.plains, LV.plain]) (by simp [LV.plain])
  show LCalls Tryz.prog 159 [vL l] _ _
  exact (clone159 lvTs_len hb lvTs_plain).call (dp_refl (v := vL l) _ (by simp [LV.plain]))

end Go.Proofs.YtknegckgmklnhaaGreatDoor

namespace Go.Proofs.YtknegckgmklnhaaGreatDoor
open Go Go.CP
set_option maxRecDepth 100000

/-- Entries of a map that is being made. -/
abbrev mE (es : List (List UInt8 × T)) : List (LV × LV) := es.map fun e => (.str e.1, vT e.2)

theorem mfind_E {es : List (List UInt8 × T)} {k : List UInt8} : mfind (.str k) (mE es) = some ((T.find es k).map vT) := by
  induction es with
  | nil => rfl
  | cons e es ih =>
    simp only [mE, List.map_cons, mfind, keyEq]
    by_cases h : k = e.1
    · subst h; simp [T.find]
    · have h1 : (k == e.1) = false := by simpa using h
      have h2 : (e.1 == k) = false := by simpa using Ne.symm h
      simp only [h1]
      rw [show mfind (.str k) (es.map fun e => (LV.str e.1, vT e.2)) = some ((T.find es k).map vT) from ih]
      simp only [T.find, List.find?_cons, h2]

theorem mput_E {es : List (List UInt8 × T)} {k : List UInt8} {v : LV} (h : k ∉ es.map (·.1)) : mput (.str k) v (mE es) = some (mE es ++ [(.str k, v)]) := by
  induction es with
  | nil => rfl
  | cons e es ih =>
    simp only [List.map_cons, List.mem_cons, not_or] at h
    have h1 : (k == e.1) = false := by simpa using h.1
    simp only [mE, List.map_cons, mput, keyEq, h1]
    rw [show mput (.str k) v (es.map fun e => (LV.str e.1, vT e.2)) = some (mE es ++ [(.str k, v)]) from ih h.2]
    rfl

theorem textKeys_E {es : List (List UInt8 × T)} (hn : (es.map (·.1)).Nodup) : (textKeys (es.map fun e => LV.str e.1) []).isSome = true := by
  have := textKeys_of (ss := es.map (·.1)) (seen := []) hn (by simp)
  rw [List.map_map] at this
  simp only [Function.comp_def] at this
  rw [this]; rfl

/-- A map's object, read as one that is not written again. -/
theorem dp_map {st : LState} {o : Nat} {es es' : List (List UInt8 × T)} {bs : List Nat} {n : Nat} (h : st[o]? = some (.map .rw (mE es') bs n)) (hp : es.Perm es') (hn : (es.map (·.1)).Nodup) :
    dp st (vT (.map es)) (.agg [.iface 173 (.map o)]) := by
  refine ⟨_, rfl, _, _, rfl, ⟨_, rfl, .inl ⟨o, .rw, mE es', bs, n, mE es, rfl, h, rfl, hp.map _, textKeys_E hn, ?_, ?_⟩⟩, rfl⟩
  · simp
  · rw [lvTm_eq]
    have : (mE es).map (·.2) = es.map fun e => vT e.2 := by simp
    rw [this]
    exact dps_refl _ (plains_map fun _ _ => vT_plain)

theorem map_loop {es : List (List UInt8 × T)} (hn : (es.map (·.1)).Nodup) (hb : es.length ≤ big) {R : LV → LState → Prop} {r o : Nat} (hro : r ≠ o) (hR : ∀ s, dp s (.tup [vT (.map es), i64 0]) (.tup [.agg [.iface 173 (.map o)], i64 0]) → R (.tup [.agg [.iface 173 (.map o)], i64 0]) s) :
    ∀ (d i : Nat) (bs : List Nat) (n : Nat) (st : LState), i + d = es.length → st[r]? = some (.cells .rw [.nili]) → st[o]? = some (.map .rw (mE (es.take i)) bs n) →
      P72_1 (vL (es.map (·.2))) (.ptr r 0) (.map o) (sL (es.map (·.1))) (i64 es.length) (i64 i) R st := by
  intro d
  induction d with
  | zero =>
    intro i bs n st hi hr ho
    apply p72_1
    have hi' : i = es.length := by omega
    subst hi'
    have : ¬ ((es.length : Int) < es.length) := by omega
    simp only [w72_1, bInt_int, lint_lss, bd_some, bsel_dec]
    refine ⟨fun h => absurd h this, fun _ => ?_⟩
    rw [List.take_length] at ho
    have e1 : mkAgg (lfill (placesL [(0, 1)]) [LV.nili] [(0, LV.iface 173 (.map o))]) = some (.agg [.iface 173 (.map o)]) := rfl
    have hlt := get_lt hr
    have e2 : stV st 1 (.ptr r 0) (.agg [.iface 173 (.map o)]) = some (st.set r (.cells .rw [.iface 173 (.map o)])) := stV_agg (vs := [.iface 173 (.map o)]) hr (by simp) rfl rfl
    have e3 : ldA (st.set r (.cells .rw [.iface 173 (.map o)])) (.ptr r 0) 1 = some (.agg [.iface 173 (.map o)]) := ldA_of (get_set hr) (by simp)
    simp only [e1, bd_some, e2, lmk_some, bd2_some, e3]
    have ho' : (st.set r (.cells .rw [.iface 173 (.map o)]))[o]? = some (.map .rw (mE es) bs n) := by rw [get_set_ne hro]; exact ho
    exact hR _ ⟨_, rfl, _, _, rfl, dp_map ho' (.refl _) hn, _, _, rfl, rfl, rfl⟩
  | succ d ih =>
    intro i bs n st hi hr ho
    apply p72_1
    have hlt : i < es.length := by omega
    obtain ⟨⟨k, t⟩, hk⟩ : ∃ e, es[i] = e := ⟨_, rfl⟩
    have hget : es[i]? = some (k, t) := by rw [List.getElem?_eq_getElem hlt, hk]
    have hks : ((es.map (·.1)).map LV.str)[i * 1]? = some (.str k) := by simp [hget]
    have hvs : (lvTs (es.map (·.2)))[i * 1]? = some (lvT t) := by rw [lvTs_get]; simp [hget]
    have hlt' : i < (es.map (·.1)).length := by simpa using hlt
    have hlt2 : i < (es.map (·.2)).length := by simpa using hlt
    have e0 : ixSl 1 (sL (es.map (·.1))) (i64 i) = some (.iptr ((es.map (·.1)).map .str) (i * 1)) := ixIsl hlt'
    have e1 : ixSl 1 (vL (es.map (·.2))) (i64 i) = some (.iptr (lvTs (es.map (·.2))) (i * 1)) := ixIsl hlt2
    have hnk : k ∉ (es.take i).map (·.1) := by
      have hsp : es = es.take i ++ (k, t) :: es.drop (i + 1) := by
        conv => lhs; rw [← List.take_append_drop i es]
        rw [List.drop_eq_getElem_cons hlt, hk]
      rw [hsp] at hn
      simp only [List.map_append, List.map_cons] at hn
      have h1 := (List.nodup_append.1 hn).2.2
      exact fun hc => h1 k hc k (by simp) rfl
    have hf : T.find (es.take i) k = none := T.find_none.2 hnk
    have e2 : mget st true (some (.agg [.nili])) (.map o) (.str k) true = some (.tup [vT .null, .bool false]) := by
      show mgetS _ _ _ _ _ _ = _
      simp only [mgetS, plainKey, if_true, mapOf, ho, mfind_E, hf, Option.map_none]
      rfl
    have e3 : stV (st ++ [LObj.cells .rw [LV.nili]]) 1 (.ptr st.length 0) (vT .null) = some (st ++ [LObj.cells .rw [LV.nili]]) := by
      have h := stV_agg (st := st ++ [LObj.cells .rw [LV.nili]]) (o := st.length) (k := 0) (m := .rw) (l := [LV.nili]) (vs := [LV.nili]) (n := 1) get_app_new (by simp) rfl rfl
      refine h.trans ?_
      congr 1
      simp [splice]
    have hvl : i * 1 + 1 ≤ (lvTs (es.map (·.2))).length := by rw [lvTs_len]; omega
    have e4 : ldA (st ++ [LObj.cells .rw [LV.nili]]) (.iptr (lvTs (es.map (·.2))) (i * 1)) 1 = some (vT t) := by
      rw [ldA_iptr hvl]
      congr 2
      rw [List.take_one, List.head?_drop, hvs]
      rfl
    have ho1 : (st ++ [LObj.cells .rw [LV.nili]])[o]? = some (.map .rw (mE (es.take i)) bs n) := get_app ho
    have hnx : mE (es.take (i + 1)) = mE (es.take i) ++ [(.str k, vT t)] := by
      rw [List.take_add_one]; simp [mE, hget]
    have e5 : mset (st ++ [LObj.cells .rw [LV.nili]]) true (.map o) (.str k) (vT t) = some ((st ++ [LObj.cells .rw [LV.nili]]).set o (.map .rw (mE (es.take (i + 1))) (bs ++ [n]) (n + 1))) := by
      simp only [mset, plainKey, if_true, ho1, mput_E hnk]
      rw [hnx]
      congr 2
      unfold lmapNew
      rw [if_neg (by simp)]
    simp only [w72_1, bInt_int, lint_lss, bd_some, bsel_dec, e0, ld1_iptr, hks, e2, lextract_tup, List.getElem?_cons_zero, List.getElem?_cons_succ, nw_eq, e3, lmk_some, bd2_some, bsel_false, e1, e4, e5, lint_add, wrap_add1 (show i < 2 ^ 40 by unfold big at hb; omega)]
    refine ⟨fun _ => ?_, fun h => absurd (by omega : (i : Int) < es.length) h⟩
    refine ih (i + 1) (bs ++ [n]) (n + 1) _ (by omega) ?_ ?_
    · rw [get_set_ne (Ne.symm hro)]; exact get_app hr
    · exact get_set ho1

/-- Map, of keys each of which is there once. -/
theorem map_pu {es : List (List UInt8 × T)} (hn : (es.map (·.1)).Nodup) (hb : es.length ≤ big) : Pu Tryz.prog 72 [sL (es.map (·.1)), vL (es.map (·.2))] (.tup [vT (.map es), i64 0]) := by
  refine Pu.of (c72 _ _ ?_) (by simp [LV.plains, LV.plain]; exact plains_map fun _ _ => rfl) (by simp [LV.plain, LV.plains])
  have e : (((es.map (·.1)).length : Int) != ((es.map (·.2)).length : Int)) = false := by simp
  simp only [w72, nw_eq, lenSl_isl, bd_some, bInt_int, lint_neq, e, bsel_false, nwMap_eq]
  rw [List.length_map]
  exact map_loop hn hb (by decide) (fun s h => h) es.length 0 [] 0 _ (by omega) rfl rfl

end Go.Proofs.YtknegckgmklnhaaGreatDoor

