/- The clean machine, part 25: what the primitives say of values that are known. -/
/- The clean machine, part 26: slices that own their object. -/
/- The clean machine, part 27: slices.Delete of one element, as its code has it. -/
/- The clean machine, part 28: from a logical call to a row's walk, and the row's last step behind a call of which only what lies below is known. -/
import Derived.Test.YtknegckgmklnhaaGreatDoorCp23
import Derived.ProofKit
import Derived.OpenShut
namespace Go.CP

section
variable {α β : Type} {st : LState} {o k len n : Nat} {l : List LV} {m : Md} {K1 : LV → Prop}

@[simp] theorem bd_some {v : α} {K : α → Prop} : bd (some v) K = K v := rfl
@[simp] theorem bd_none {K : α → Prop} : bd none K = False := rfl
@[simp] theorem bd2_some {a : α} {b : β} {K : α → β → Prop} : bd2 (some (a, b)) K = K a b := rfl
@[simp] theorem bsel_true {p q : Prop} : bsel (.bool true) p q = p := rfl
@[simp] theorem bsel_false {p q : Prop} : bsel (.bool false) p q = q := rfl
theorem bsel_dec {c p q : Prop} [Decidable c] : bsel (.bool (decide c)) p q ↔ (c → p) ∧ (¬ c → q) := by
  by_cases h : c <;> simp [h]
theorem bsel_bool {b : Bool} {p q : Prop} : bsel (.bool b) p q ↔ (b = true → p) ∧ (b = false → q) := by
  cases b <;> simp

@[simp] theorem nw_eq {K : LV → LState → Prop} : nw st l K = K (.ptr st.length 0) (st ++ [.cells .rw l]) := rfl
@[simp] theorem nwM_eq {K : LV → LState → Prop} : nwM m st l K = K (.ptr st.length 0) (st ++ [.cells m l]) := rfl
@[simp] theorem nwMap_eq {K : LV → LState → Prop} : nwMap st K = K (.map st.length) (st ++ [.map .rw [] [] 0]) := rfl
@[simp] theorem lmk_some {s : LState} : lmk (some s) = some (lundef, s) := rfl
@[simp] theorem slNew_some {cs : List LV} : slNew st n (some cs) = some (.sl st.length 0 n (.ex n), st ++ [.cells .rw cs]) := rfl
@[simp] theorem lnilCheck_ptr : lnilCheck (.ptr o k) = some (.ptr o k) := rfl
@[simp] theorem fAddr_ptr {d : Nat} : fAddr d (.ptr o k) = some (.ptr o (k + d)) := rfl
@[simp] theorem eqPtr_nn {b : Bool} : eqPtr b .nilp .nilp = some true := rfl
@[simp] theorem eqPtr_pn {b : Bool} : eqPtr b (.ptr o k) .nilp = some false := rfl
@[simp] theorem eqPtr_np {b : Bool} : eqPtr b .nilp (.ptr o k) = some false := rfl
@[simp] theorem eqPtr_pp : eqPtr true (.ptr o k) (.ptr o k) = some true := by simp [eqPtr]
@[simp] theorem lnilCheck_glob {g : Nat} : lnilCheck (.glob g k) = some (.glob g k) := rfl
@[simp] theorem fAddr_glob {g d : Nat} : fAddr d (.glob g k) = some (.glob g (k + d)) := rfl
@[simp] theorem mdJoin_rw : mdJoin .rw .rw k = .rw := by unfold mdJoin; split <;> rfl
@[simp] theorem mdJoin_bt {t : TypeId} : mdJoin (.bt t) (.bt t) 0 = .bt t := by unfold mdJoin; simp
@[simp] theorem Md.w_bt {t : TypeId} : Md.w (.bt t) = true := rfl
@[simp] theorem Md.w_rw' : Md.w .rw = true := rfl
@[simp] theorem eqB_some {op : BinOp} {r : Bool} : eqB op (some r) = eqOut op r := rfl
@[simp] theorem eqOut_eql {r : Bool} : eqOut .eql r = some (.bool r) := rfl
@[simp] theorem eqOut_neq {r : Bool} : eqOut .neq r = some (.bool (!r)) := rfl
@[simp] theorem lenSl_nils : lenSl .nils = some (.int .i64 0) := rfl
@[simp] theorem lenSl_emp : lenSl .emp = some (.int .i64 0) := rfl
@[simp] theorem lenSl_sl {c : CapI} : lenSl (.sl o k len c) = some (.int .i64 len) := rfl
@[simp] theorem lenStr_str {s : List UInt8} : lenStr (.str s) = some (.int .i64 s.length) := rfl
@[simp] theorem lun_not {b : Bool} : lun .not (.bool b) = some (.bool (!b)) := rfl
@[simp] theorem cvInt_int {k k' : IntKind} {x : Int} : cvInt k (.int k' x) = some (.int k (k.wrap x)) := rfl
@[simp] theorem lpick_bool {b : Bool} {x y : LV} : lpick (.bool b) x y = some (cond b x y) := rfl
@[simp] theorem lextract_tup {vs : List LV} {i : Nat} : lextract (.tup vs) i = vs[i]? := rfl

@[simp] theorem bInt_int {op : BinOp} {k : IntKind} {x y : Int} : bInt op (.int k x) (.int k y) = lint op k x y := by simp [bInt]
@[simp] theorem lint_add {k : IntKind} {x y : Int} : lint .add k x y = some (.int k (k.wrap (x + y))) := rfl
@[simp] theorem lint_sub {k : IntKind} {x y : Int} : lint .sub k x y = some (.int k (k.wrap (x - y))) := rfl
@[simp] theorem lint_mul {k : IntKind} {x y : Int} : lint .mul k x y = some (.int k (k.wrap (x * y))) := rfl
@[simp] theorem lint_eql {k : IntKind} {x y : Int} : lint .eql k x y = some (.bool (x == y)) := rfl
@[simp] theorem lint_neq {k : IntKind} {x y : Int} : lint .neq k x y = some (.bool (x != y)) := rfl
@[simp] theorem lint_lss {k : IntKind} {x y : Int} : lint .lss k x y = some (.bool (decide (x < y))) := rfl
@[simp] theorem lint_leq {k : IntKind} {x y : Int} : lint .leq k x y = some (.bool (decide (x ≤ y))) := rfl
@[simp] theorem lint_gtr {k : IntKind} {x y : Int} : lint .gtr k x y = some (.bool (decide (x > y))) := rfl
@[simp] theorem lint_geq {k : IntKind} {x y : Int} : lint .geq k x y = some (.bool (decide (x ≥ y))) := rfl
@[simp] theorem bStr_str {op : BinOp} {x y : List UInt8} : bStr op (.str x) (.str y) = lstr op x y := rfl
@[simp] theorem lstr_eql {x y : List UInt8} : lstr .eql x y = some (.bool (x == y)) := rfl
@[simp] theorem lstr_neq {x y : List UInt8} : lstr .neq x y = some (.bool (!(x == y))) := rfl

theorem ld1_of (h : st[o]? = some (.cells m l)) : ld1 st (.ptr o k) = l[k]? := by simp [ld1, h]
theorem ldA_of (h : st[o]? = some (.cells m l)) (hk : k + n ≤ l.length) : ldA st (.ptr o k) n = some (.agg ((l.drop k).take n)) := by simp [ldA, h, hk]
theorem stV_of {v : LV} (h : st[o]? = some (.cells m l)) (hk : k < l.length) (hv : v.one = true) (hm : m.w = true := by rfl) : stV st 1 (.ptr o k) v = some (st.set o (.cells m (l.set k v))) := by
  unfold stV
  cases v <;> simp_all [LV.one, LV.cells, LV.ok, st1]
theorem stV_agg {vs : List LV} (h : st[o]? = some (.cells m l)) (hk : k + vs.length ≤ l.length) (hv : vs.all LV.one = true) (hn : vs.length = n) (hm : m.w = true := by rfl) :
    stV st n (.ptr o k) (.agg vs) = some (st.set o (.cells m (splice l k vs))) := by
  unfold stV
  rw [if_pos ⟨hn, rfl⟩]
  simp only [stA, h]
  rw [if_pos ⟨hk, hv, hm⟩]
theorem ixSl_of {c : CapI} {sz : Nat} {i : Int} {kk : IntKind} (h0 : 0 ≤ i) (h1 : i < len) : ixSl sz (.sl o k len c) (.int kk i) = some (.ptr o (k + i.toNat * sz)) := by
  simp [ixSl, h0, h1]

theorem get_app {x y : LObj} (h : st[o]? = some x) : (st ++ [y])[o]? = some x := by
  rw [List.getElem?_append_left (by exact (List.getElem?_eq_some_iff.1 h).1)]; exact h
theorem get_app_new {y : LObj} : (st ++ [y])[st.length]? = some y := by simp
theorem get_set {x y : LObj} (h : st[o]? = some x) : (st.set o y)[o]? = some y := by
  rw [List.getElem?_set_self (List.getElem?_eq_some_iff.1 h).1]
theorem get_set_ne {o' : Nat} {y : LObj} (h : o' ≠ o) : (st.set o' y)[o]? = st[o]? := by
  rw [List.getElem?_set_ne h]
theorem get_lt {x : LObj} (h : st[o]? = some x) : o < st.length := (List.getElem?_eq_some_iff.1 h).1

theorem wrap_i64 {n : Int} (h1 : -9223372036854775808 ≤ n) (h2 : n < 9223372036854775808) : IntKind.i64.wrap n = n := by
  rw [IntKind.wrap_i64]; omega

/-- What of a store stays: all but the objects of a set. -/
structure Fr (st st' : LState) (S : Nat → Prop) : Prop where
  len : st.length ≤ st'.length
  same : ∀ j, j < st.length → ¬ S j → st'[j]? = st[j]?

theorem Fr.refl {S : Nat → Prop} : Fr st st S := ⟨Nat.le_refl _, fun _ _ _ => rfl⟩
theorem Fr.mono {st' : LState} {S S' : Nat → Prop} (h : Fr st st' S) (hs : ∀ j, j < st.length → S j → S' j) : Fr st st' S' := ⟨h.len, fun j hj hn => h.same j hj fun hc => hn (hs j hj hc)⟩
theorem Fr.trans {st' st'' : LState} {S S' : Nat → Prop} (h : Fr st st' S) (h' : Fr st' st'' S') (hs : ∀ j, j < st.length → S' j → S j) : Fr st st'' S :=
  ⟨Nat.le_trans h.len h'.len, fun j hj hn => by rw [h'.same j (Nat.lt_of_lt_of_le hj h.len) fun hc => hn (hs j hj hc), h.same j hj hn]⟩
theorem Fr.app {S : Nat → Prop} {y : LObj} : Fr st (st ++ [y]) S := ⟨by simp, fun j hj _ => by rw [List.getElem?_append_left hj]⟩
theorem Fr.set {S : Nat → Prop} {y : LObj} (h : S o) : Fr st (st.set o y) S := ⟨by simp, fun j _ hn => List.getElem?_set_ne (fun e => by subst e; exact hn h)⟩
theorem Fr.get {st' : LState} {S : Nat → Prop} {x : LObj} (h : Fr st st' S) (hg : st[o]? = some x) (hn : ¬ S o) : st'[o]? = some x := by rw [h.same o (get_lt hg) hn]; exact hg

end
end Go.CP

namespace Go.CP

/-- A slice value that owns its object, or nil. -/
def osl (f : Option Nat) (sz n : Nat) : LV := match f with
  | none => .nils
  | some o => .sl o 0 n (.rest sz)

/-- The cells that such a slice shows. -/
def OwnM (m0 : Md) (st : LState) (f : Option Nat) (sz n : Nat) (cs : List LV) : Prop := cs.length = n * sz ∧ match f with
  | none => n = 0
  | some o => ∃ rest, st[o]? = some (.cells m0 (cs ++ rest))

abbrev Own := OwnM .rw

section
variable {m0 : Md} {st st' : LState} {f : Option Nat} {sz n bytes : Nat} {cs new : List LV}

theorem OwnM.lenSl (h : OwnM m0 st f sz n cs) : lenSl (osl f sz n) = some (.int .i64 n) := by
  cases f with
  | none => obtain ⟨_, rfl⟩ := h; rfl
  | some o => rfl

theorem OwnM.nil {sz : Nat} : OwnM m0 st none sz 0 [] := ⟨by simp, rfl⟩

theorem OwnM.fr {S : Nat → Prop} (h : OwnM m0 st f sz n cs) (hf : Fr st st' S) (hs : ∀ o, f = some o → ¬ S o) : OwnM m0 st' f sz n cs := by
  refine ⟨h.1, ?_⟩
  cases f with
  | none => exact h.2
  | some o => obtain ⟨rest, h2⟩ := h.2; exact ⟨rest, hf.get h2 (hs o rfl)⟩

theorem OwnM.lt {o : Nat} (h : OwnM m0 st (some o) sz n cs) : o < st.length := by obtain ⟨_, h2⟩ := h.2; exact get_lt h2

/-- An element's cell. -/
theorem OwnM.ix {i : Int} {kk : IntKind} (h : OwnM m0 st f sz n cs) (h0 : 0 ≤ i) (h1 : i < n) : ∃ o, f = some o ∧ ixSl sz (osl f sz n) (.int kk i) = some (.ptr o (i.toNat * sz)) := by
  cases f with
  | none => have := h.2; simp only at this; omega
  | some o => exact ⟨o, rfl, by simp only [osl]; rw [ixSl_of h0 h1, Nat.zero_add]⟩

theorem OwnM.ld {o k : Nat} {x : LV} (h : OwnM m0 st (some o) sz n cs) (hk : cs[k]? = some x) : ld1 st (.ptr o k) = some x := by
  obtain ⟨rest, h2⟩ := h.2
  rw [ld1_of h2, List.getElem?_append_left (List.getElem?_eq_some_iff.1 hk).1, hk]

theorem OwnM.ldA {o k m : Nat} (h : OwnM m0 st (some o) sz n cs) (hk : k + m ≤ cs.length) : ldA st (.ptr o k) m = some (.agg ((cs.drop k).take m)) := by
  obtain ⟨rest, h2⟩ := h.2
  rw [ldA_of h2 (by simp; omega), List.drop_append_of_le_length (by omega), List.take_append_of_le_length (by simp; omega)]

theorem splice_app {a b new : List LV} : splice (a ++ b) a.length new = a ++ new ++ b.drop new.length := by
  unfold splice
  rw [List.take_left, List.drop_append, List.drop_eq_nil_of_le (Nat.le_add_right ..), Nat.add_sub_cancel_left, List.nil_append]

/-- append: what is taken up is the slice's own object, or a new one. -/
theorem OwnM.append {x : LV} {k : Nat} (h : OwnM m0 st f sz n cs) (hx : lsrc st sz x = some (k, new)) (hk : 0 < k) (hn : new.length = k * sz) (h1 : new.all LV.one = true)
    (hr : room47 (n + k) bytes = true) (hm : m0.w = true := by rfl) :
    ∃ st2 f2, lappend st sz bytes m0 (osl f sz n) x = some (osl f2 sz (n + k), st2) ∧ OwnM m0 st2 f2 sz (n + k) (cs ++ new) ∧ Fr st st2 (fun j => f = some j) ∧
      (∀ j, f2 = some j → f = some j ∨ st.length ≤ j) ∧ st2.length ≤ st.length + 1 := by
  have hk0 : ¬ k = 0 := by omega
  have hlen : (cs ++ new).length = (n + k) * sz := by rw [List.length_append, h.1, hn, Nat.add_mul]
  cases f with
  | none =>
    obtain ⟨hc, hz⟩ := h
    simp only at hz; subst hz
    have hc' : cs = [] := by simpa using hc
    subst hc'
    rw [Nat.zero_add] at hr
    refine ⟨st ++ [.cells m0 new], some st.length, ?_, ⟨hlen, [], by simp⟩, Fr.app, ?_, by simp⟩
    · simp only [osl, lappend, hx, hk0, if_false, hr, if_true, Nat.zero_add]
    · intro j e; right; simp at e; omega
  | some o =>
    obtain ⟨hc, rest, h2⟩ := h
    by_cases hfit : 0 + (n + k) * sz ≤ (cs ++ rest).length
    · refine ⟨st.set o (.cells m0 (splice (cs ++ rest) (0 + n * sz) new)), some o, ?_, ⟨hlen, rest.drop new.length, ?_⟩, Fr.set rfl, fun j e => .inl e, by simp⟩
      · simp only [osl, lappend, hx, hk0, if_false, h2, h1, hm, if_true, and_self, hfit]
      · rw [get_set h2, Nat.zero_add, ← hc, splice_app]
    · refine ⟨st.set o .dead ++ [.cells m0 (((cs ++ rest).drop 0).take (n * sz) ++ new)], some st.length, ?_, ⟨hlen, [], ?_⟩, ?_, ?_, by simp⟩
      · have h3 : 0 + n * sz ≤ (cs ++ rest).length := by simp [hc]
        simp only [osl, lappend, hx, hk0, if_false, h2, h1, hm, if_true, and_self, hfit, hr, h3, mdJoin]
      · rw [List.drop_zero, ← hc, List.take_left, List.append_nil]
        have : st.length = (st.set o LObj.dead).length := by simp
        rw [this, get_app_new]
      · exact (Fr.set (S := fun j => some o = some j) rfl).trans Fr.app (fun _ _ h => h)
      · intro j e; right; simp at e; omega

end
end Go.CP

namespace Go.CP

theorem optNat_nat {k : IntKind} {n : Nat} : optNat (some (.int k (n : Int))) = some (some n) := by simp [optNat]
theorem optNat_none : optNat none = some none := rfl

/-- What slices.Delete does. -/
def wDelete (sz bytes : Nat) (zero : List LV) (a0 a1 a2 : LV) (R : LV → LState → Prop) (st : LState) : Prop :=
  bd (lenSl a0) fun v0 =>
    bd (ob3 (some a1) (some a2) (some v0) fun l h m => slRoom st sz a0 l h m) fun _ =>
      bd (bInt BinOp.eql a1 a2) fun v2 =>
        bsel v2 (R a0 st)
          (bd (lenSl a0) fun v3 =>
            bd (ob3 none (some a1) none fun l h m => slRoom st sz a0 l h m) fun v4 =>
              bd (ob3 (some a2) none none fun l h m => slRoom st sz a0 l h m) fun v5 =>
                bd2 (lappend st sz bytes .rw v4 v5) fun v6 st7 =>
                  bd (lenSl v6) fun v8 =>
                    bd (ob3 (some v8) (some v3) none fun l h m => slRoom st7 sz v6 l h m) fun v9 =>
                      bd2 (lmk (lclear st7 zero v9)) fun _ st11 => R v6 st11)

/-- One element goes. -/
theorem wDelete_spec {sz bytes : Nat} {zero : List LV} {R : LV → LState → Prop} {st : LState} {f : Option Nat} {a e b : List LV} {i n : Nat} (hz : zero.length = sz) (hz1 : zero.all LV.one = true) (hsz : 0 < sz)
    (ho : Own st f sz (i + 1 + n) (a ++ e ++ b)) (ha : a.length = i * sz) (he : e.length = sz) (hb : b.all LV.one = true)
    (h : ∀ st', Own st' f sz (i + n) (a ++ b) → Fr st st' (fun j => f = some j) → R (osl f sz (i + n)) st') :
    wDelete sz bytes zero (osl f sz (i + 1 + n)) (.int .i64 i) (.int .i64 (i + 1 : Nat)) R st := by
  obtain ⟨hlen, ho⟩ := ho
  cases f with
  | none => simp only at ho; omega
  | some o =>
    obtain ⟨rest, hg⟩ := ho
    have hbl : b.length = n * sz := by
      simp only [List.length_append, ha, he, Nat.add_mul, Nat.one_mul] at hlen; omega
    have hne : (((i : Nat) : Int) == ((i + 1 : Nat) : Int)) = false := by simp; omega
    have e1 : ob3 (some (.int .i64 (i : Nat))) (some (.int .i64 (i + 1 : Nat))) (some (.int .i64 (i + 1 + n : Nat))) (fun l h m => slRoom st sz (.sl o 0 (i + 1 + n) (.rest sz)) l h m)
        = some (.sl o (if i + 1 + n = i then 0 else 0 + i * sz) (i + 1 - i) (.ex (i + 1 + n - i))) := by
      have c1 : i + 1 ≤ i + 1 + n := by omega
      have c2 : i ≤ i + 1 := by omega
      simp only [ob3, optNat_nat, slRoom, slSl, lslice, Option.getD_some, c1, c2, Nat.le_refl, Option.isSome_some, and_self, if_true]
    have e2 : ob3 none (some (.int .i64 (i : Nat))) none (fun l h m => slRoom st sz (.sl o 0 (i + 1 + n) (.rest sz)) l h m) = some (.sl o 0 i (.rest sz)) := by
      have c1 : i ≤ i + 1 + n := by omega
      simp only [ob3, optNat_nat, optNat_none, slRoom, slSl, lslice, Option.getD_some, Option.getD_none, c1, hsz, Nat.zero_le, and_self, if_true, Nat.sub_zero]
    have e3 : ob3 (some (.int .i64 (i + 1 : Nat))) none none (fun l h m => slRoom st sz (.sl o 0 (i + 1 + n) (.rest sz)) l h m) = some (if 0 < n then .sl o ((i + 1) * sz) n (.rest sz) else .emp) := by
      have c1 : i + 1 ≤ i + 1 + n := by omega
      have c2 : i + 1 < i + 1 + n ↔ 0 < n := by omega
      have c3 : i + 1 + n - (i + 1) = n := by omega
      simp only [ob3, optNat_nat, optNat_none, slRoom, slSl, lslice, if_true, Option.getD_some, Option.getD_none, hsz, c1, Nat.le_refl, and_self, Nat.zero_add, c2, c3, Nat.succ_ne_zero, if_false, Nat.add_one_ne_zero]
      split <;> rfl
    have hcells : i * sz + sz + n * sz + rest.length = (a ++ e ++ b ++ rest).length := by simp only [List.length_append, ha, he, hbl]
    -- the store behind append
    have app : ∃ st7, lappend st sz bytes .rw (.sl o 0 i (.rest sz)) (if 0 < n then .sl o ((i + 1) * sz) n (.rest sz) else .emp) = some (.sl o 0 (i + n) (.rest sz), st7) ∧
        Fr st st7 (fun j => some o = some j) ∧ ∃ e', e'.length = sz ∧ st7[o]? = some (.cells .rw (a ++ b ++ e' ++ rest)) := by
      by_cases hn : 0 < n
      · rw [if_pos hn]
        have hs : lsrc st sz (.sl o ((i + 1) * sz) n (.rest sz)) = some (n, b) := by
          have c : (i + 1) * sz + n * sz ≤ (a ++ e ++ b ++ rest).length := by rw [← hcells, Nat.add_mul]; omega
          simp only [lsrc, hg, c, if_true]
          rw [show (i + 1) * sz = (a ++ e).length by simp [ha, he, Nat.add_mul], List.append_assoc (a ++ e), List.drop_left, ← hbl, List.take_left]
        refine ⟨st.set o (.cells .rw (splice (a ++ e ++ b ++ rest) (0 + i * sz) b)), ?_, Fr.set rfl, ?_⟩
        · have c : 0 + (i + n) * sz ≤ (a ++ e ++ b ++ rest).length := by rw [← hcells, Nat.add_mul]; omega
          have hn0 : ¬ n = 0 := by omega
          simp only [lappend, hs, hn0, if_false, hg, hb, and_self, if_true, c, Md.w_rw']
        · -- a ++ b ++ (what is left of e ++ b)
          have h1 : splice (a ++ e ++ b ++ rest) (0 + i * sz) b = a ++ b ++ (e ++ b ++ rest).drop b.length := by
            rw [Nat.zero_add, ← ha, List.append_assoc a e b, List.append_assoc a (e ++ b) rest, splice_app]
          refine ⟨(e ++ b).drop b.length, by simp [he], ?_⟩
          rw [get_set hg, h1, List.drop_append_of_le_length (by simp)]
          simp only [List.append_assoc]
      · have hn0 : n = 0 := by omega
        subst hn0
        have hb0 : b = [] := by simpa using hbl
        subst hb0
        exact ⟨st, by simp [lappend, lsrc], Fr.refl, e, he, by simpa using hg⟩
    obtain ⟨st7, ha7, fr7, e', he', hg7⟩ := app
    have hcells7 : i * sz + n * sz + sz + rest.length = (a ++ b ++ e' ++ rest).length := by simp only [List.length_append, ha, he', hbl]
    have e4 : ∃ k, k = (i + n) * sz ∧ ob3 (some (.int .i64 (i + n : Nat))) (some (.int .i64 (i + 1 + n : Nat))) none (fun l h m => slRoom st7 sz (.sl o 0 (i + n) (.rest sz)) l h m) = some (.sl o k 1 (.rest sz)) := by
      refine ⟨_, rfl, ?_⟩
      have c1 : ¬ i + 1 + n ≤ i + n := by omega
      have c2 : (i + 1 + n) * sz ≤ (a ++ b ++ e' ++ rest).length := by rw [← hcells7, Nat.add_mul, Nat.add_mul]; omega
      have c3 : i + n ≤ i + 1 + n := by omega
      have c4 : i + n < i + 1 + n := by omega
      have c5 : i + 1 + n - (i + n) = 1 := by omega
      simp only [ob3, optNat_nat, optNat_none, slRoom, slSl, lslice, if_true, Option.getD_some, hsz, c1, if_false, hg7, c2, and_self, c3, Nat.le_refl, c4, c5, Nat.zero_add]
      split
      · rename_i h0; rw [h0]; simp; omega
      · rfl
    obtain ⟨k, hk, e4⟩ := e4
    have hclear : lclear st7 zero (.sl o k 1 (.rest sz)) = some (st7.set o (.cells .rw (a ++ b ++ zero ++ rest))) := by
      have c : k + 1 * zero.length ≤ (a ++ b ++ e' ++ rest).length := by rw [← hcells7, hk, hz, Nat.add_mul]; omega
      simp only [lclear, hg7, c, hz1, and_self, if_true, Md.w_rw']
      have h1 : splice (a ++ b ++ e' ++ rest) k (List.replicate 1 zero).flatten = a ++ b ++ zero ++ rest := by
        rw [show k = (a ++ b).length by simp [hk, ha, hbl, Nat.add_mul], show (List.replicate 1 zero).flatten = zero by simp, List.append_assoc (a ++ b), splice_app, hz, ← he', List.drop_left]
      rw [h1]
    unfold wDelete
    simp only [osl, lenSl_sl, bd_some, e1, bInt_int, lint_eql, hne, bsel_false, e2, e3, ha7, bd2_some, e4, hclear, lmk_some]
    refine h _ ⟨by simp [ha, hbl, Nat.add_mul], zero ++ rest, ?_⟩ (fr7.trans (Fr.set rfl) fun _ _ h => congrArg some h)
    rw [get_set hg7]; simp only [List.append_assoc]

end Go.CP

namespace Go.CP
open Go.ChangeShapes Go.WideShapes Go.ChangeAt Go.RowKit

theorem Rel.init (w : World) : Rel w (Lay.nil w.heap.size) [] w where
  below := Bw.refl _ _
  dom := fun _ _ => rfl
  obj := fun _ _ h => by simp at h
  sep := fun _ _ _ _ _ _ h => by simp at h
  base := rfl
  froz := fun _ _ h => by cases h
  sepf := fun _ _ _ h => by simp at h

/-- A function with a body is no function without one. -/
theorem LCalls.body {P : Program} {f : FuncId} {xs : List LV} {st : LState} {R : LV → LState → Prop} (hb : Callable P f) (h : LCalls P f xs st R) :
    Callable P f ∧ ∀ w0 β w vs, Rel w0 β st w → Rps β xs vs → Calls P f ⟨vs⟩ w (Back w0 R β) := by
  rcases h with h | h
  · exact h
  · refine ⟨hb, fun w0 β w vs h1 h2 => ?_⟩
    obtain ⟨u, w', h3, _⟩ := h w0 β w vs h1 h2
    obtain ⟨fn, body, e1, e2, e3⟩ := hb
    have : (callFunc f ⟨vs⟩).run P w = .ok (.enter f ⟨vs⟩) w := by
      simp only [callFunc, Sem.run_bind, Sem.run_pure, Result.andThen_ok, run_program, e1, e3, e2, Option.isNone_some, Bool.false_eq_true, if_false]
    rw [this] at h3
    cases h3

/-- A law's walk, from its logical call. -/
theorem LCalls.law {P : Program} {f : FuncId} {xs : List LV} {st : LState} {β : Lay} {w : World} {vs : List Value} (hb : Callable P f) (h : LCalls P f xs st fun r _ => r = .bool true) (hr : Rel w β st w) (hx : Rps β xs vs) :
    Calls P f ⟨vs⟩ w fun e w' => e = .returned (.bool true) ∧ Below w.heap.size w w' :=
  ((h.body hb).2 w β w vs hr hx).mono fun e w' ⟨β', r, st', v, h1, h2, h3, h4, _⟩ => by
    subst h1
    simp only [Rp] at h3
    subst h3
    exact ⟨h2, h4.below.toBelow⟩

/-- The row's last step: arguments that read as they did. -/
theorem post_of_below {H : Type} {enc : TypeId × Value → H} {P : Program} {f : Func} {s : ChangeSpec} {apart fresh handsOn : Bool} {W W' : World} {args : Array Value} {v : Value} {ds gs : List (DataW H)} {before pa pv : List MemPlace}
    (hW : DataW.Whole enc P f.params.toList s.vars apart W args.toList ds gs before)
    (hres : ∀ (b : Nat) (sp : Nat → Bool) (hd : Bool), DataW.TrodAll enc P W' b sp hd f.resultTypes.toList (v.resultList f.resultTypes.size) (s.fn H (ds ++ gs)).results [])
    (hargs : ∀ sp : Nat → Bool, (∀ p ∈ before, sp p.block = true) → DataW.TrodAll enc P W' 0 sp true f.params.toList args.toList (s.fn H (ds ++ gs)).args pa)
    (hvars : ∀ sp : Nat → Bool, (∀ p ∈ before, sp p.block = true) → DataW.TrodVars enc P W' sp s.vars (s.fn H (ds ++ gs)).vars pv)
    (hb : Below W.heap.size W W') : s.post enc P f apart fresh handsOn false W args v W' := by
  have hold : ∀ p ∈ before, (fun b => decide (b < W.heap.size)) p.block = true := fun p hp => by simpa using hW.lt p hp
  exact ⟨ds, gs, before, [], pa, pv, hW, hres _ _ _, hargs _ hold, hvars _ hold, hb.frame _, fun h => by cases h⟩

end Go.CP

