/- The clean machine, part 25: what the primitives say of values that are known. -/
import Derived.Test.YthiaahbmibndkaaGreatDoorCp24
namespace Go.CP

section
variable {α β : Type} {st : LState} {o k len n : Nat} {l : List LV} {m : Md} {K1 : LV → Prop}

@[simp] theorem bd_some {v : α} {K : α → Prop} : bd (some v) K = K v := rfl
@[simp] theorem bd_none {K : α → Prop} : bd none K = False := rfl
@[simp] theorem bd2_some {a : α} {b : β} {K : α → β → Prop} : bd2 (some (a, b)) K = K a b := rfl
@[simp] theorem bsel_true {p q : Prop} : bsel (.bool true) p q = p := rfl
@[simp] theorem bsel_false {p q : Prop} : bsel (.bool false) p q = q := rfl
theorem bsel_dec {c p q : Prop} [Decidable c] : bsel (.bool (decide c)) p q ↔ (c → p) ∧ (¬ c → q) := by
  by_cases h : c <;> simp [h]
theorem bsel_bool {b : Bool} {p q : Prop} : bsel (.bool b) p q ↔ (b = true → p) ∧ (b = false → q) := by
  cases b <;> simp

@[simp] theorem nw_eq {K : LV → LState → Prop} : nw st l K = K (.ptr st.length 0) (st ++ [.cells .rw l]) := rfl
@[simp] theorem nwM_eq {K : LV → LState → Prop} : nwM m st l K = K (.ptr st.length 0) (st ++ [.cells m l]) := rfl
@[simp] theorem nwMap_eq {K : LV → LState → Prop} : nwMap st K = K (.map st.length) (st ++ [.map .rw [] [] 0]) := rfl
@[simp] theorem lmk_some {s : LState} : lmk (some s) = some (lundef, s) := rfl
@[simp] theorem slNew_some {cs : List LV} : slNew st n (some cs) = some (.sl st.length 0 n (.ex n), st ++ [.cells .rw cs]) := rfl
@[simp] theorem lnilCheck_ptr : lnilCheck (.ptr o k) = some (.ptr o k) := rfl
@[simp] theorem fAddr_ptr {d : Nat} : fAddr d (.ptr o k) = some (.ptr o (k + d)) := rfl
@[simp] theorem eqPtr_nn {b : Bool} : eqPtr b .nilp .nilp = some true := rfl
@[simp] theorem eqPtr_pn {b : Bool} : eqPtr b (.ptr o k) .nilp = some false := rfl
@[simp] theorem eqPtr_np {b : Bool} : eqPtr b .nilp (.ptr o k) = some false := rfl
@[simp] theorem eqPtr_pp : eqPtr true (.ptr o k) (.ptr o k) = some true := by simp [eqPtr]
@[simp] theorem lnilCheck_glob {g : Nat} : lnilCheck (.glob g k) = some (.glob g k) := rfl
@[simp] theorem fAddr_glob {g d : Nat} : fAddr d (.glob g k) = some (.glob g (k + d)) := rfl
@[simp] theorem mdJoin_rw : mdJoin .rw .rw k = .rw := by unfold mdJoin; split <;> rfl
@[simp] theorem mdJoin_bt {t : TypeId} : mdJoin (.bt t) (.bt t) 0 = .bt t := by unfold mdJoin; simp
@[simp] theorem Md.w_bt {t : TypeId} : Md.w (.bt t) = true := rfl
@[simp] theorem Md.w_rw' : Md.w .rw = true := rfl
@[simp] theorem eqB_some {op : BinOp} {r : Bool} : eqB op (some r) = eqOut op r := rfl
@[simp] theorem eqOut_eql {r : Bool} : eqOut .eql r = some (.bool r) := rfl
@[simp] theorem eqOut_neq {r : Bool} : eqOut .neq r = some (.bool (!r)) := rfl
@[simp] theorem lenSl_nils : lenSl .nils = some (.int .i64 0) := rfl
@[simp] theorem lenSl_emp : lenSl .emp = some (.int .i64 0) := rfl
@[simp] theorem lenSl_sl {c : CapI} : lenSl (.sl o k len c) = some (.int .i64 len) := rfl
@[simp] theorem lenStr_str {s : List UInt8} : lenStr (.str s) = some (.int .i64 s.length) := rfl
@[simp] theorem lun_not {b : Bool} : lun .not (.bool b) = some (.bool (!b)) := rfl
@[simp] theorem cvInt_int {k k' : IntKind} {x : Int} : cvInt k (.int k' x) = some (.int k (k.wrap x)) := rfl
@[simp] theorem lpick_bool {b : Bool} {x y : LV} : lpick (.bool b) x y = some (cond b x y) := rfl
@[simp] theorem lextract_tup {vs : List LV} {i : Nat} : lextract (.tup vs) i = vs[i]? := rfl

@[simp] theorem bInt_int {op : BinOp} {k : IntKind} {x y : Int} : bInt op (.int k x) (.int k y) = lint op k x y := by simp [bInt]
@[simp] theorem lint_add {k : IntKind} {x y : Int} : lint .add k x y = some (.int k (k.wrap (x + y))) := rfl
@[simp] theorem lint_sub {k : IntKind} {x y : Int} : lint .sub k x y = some (.int k (k.wrap (x - y))) := rfl
@[simp] theorem lint_mul {k : IntKind} {x y : Int} : lint .mul k x y = some (.int k (k.wrap (x * y))) := rfl
@[simp] theorem lint_eql {k : IntKind} {x y : Int} : lint .eql k x y = some (.bool (x == y)) := rfl
@[simp] theorem lint_neq {k : IntKind} {x y : Int} : lint .neq k x y = some (.bool (x != y)) := rfl
@[simp] theorem lint_lss {k : IntKind} {x y : Int} : lint .lss k x y = some (.bool (decide (x < y))) := rfl
@[simp] theorem lint_leq {k : IntKind} {x y : Int} : lint .leq k x y = some (.bool (decide (x ≤ y))) := rfl
@[simp] theorem lint_gtr {k : IntKind} {x y : Int} : lint .gtr k x y = some (.bool (decide (x > y))) := rfl
@[simp] theorem lint_geq {k : IntKind} {x y : Int} : lint .geq k x y = some (.bool (decide (x ≥ y))) := rfl
@[simp] theorem bStr_str {op : BinOp} {x y : List UInt8} : bStr op (.str x) (.str y) = lstr op x y := rfl
@[simp] theorem lstr_eql {x y : List UInt8} : lstr .eql x y = some (.bool (x == y)) := rfl
@[simp] theorem lstr_neq {x y : List UInt8} : lstr .neq x y = some (.bool (!(x == y))) := rfl

theorem ld1_of (h : st[o]? = some (.cells m l)) : ld1 st (.ptr o k) = l[k]? := by simp [ld1, h]
theorem ldA_of (h : st[o]? = some (.cells m l)) (hk : k + n ≤ l.length) : ldA st (.ptr o k) n = some (.agg ((l.drop k).take n)) := by simp [ldA, h, hk]
theorem stV_of {v : LV} (h : st[o]? = some (.cells m l)) (hk : k < l.length) (hv : v.one = true) (hm : m.w = true := by rfl) : stV st 1 (.ptr o k) v = some (st.set o (.cells m (l.set k v))) := by
  unfold stV
  cases v <;> simp_all [LV.one, LV.cells, LV.ok, st1]
theorem stV_agg {vs : List LV} (h : st[o]? = some (.cells m l)) (hk : k + vs.length ≤ l.length) (hv : vs.all LV.one = true) (hn : vs.length = n) (hm : m.w = true := by rfl) :
    stV st n (.ptr o k) (.agg vs) = some (st.set o (.cells m (splice l k vs))) := by
  unfold stV
  rw [if_pos ⟨hn, rfl⟩]
  simp only [stA, h]
  rw [if_pos ⟨hk, hv, hm⟩]
theorem ixSl_of {c : CapI} {sz : Nat} {i : Int} {kk : IntKind} (h0 : 0 ≤ i) (h1 : i < len) : ixSl sz (.sl o k len c) (.int kk i) = some (.ptr o (k + i.toNat * sz)) := by
  simp [ixSl, h0, h1]

theorem get_app {x y : LObj} (h : st[o]? = some x) : (st ++ [y])[o]? = some x := by
  rw [List.getElem?_append_left (by exact (List.getElem?_eq_some_iff.1 h).1)]; exact h
theorem get_app_new {y : LObj} : (st ++ [y])[st.length]? = some y := by simp
theorem get_set {x y : LObj} (h : st[o]? = some x) : (st.set o y)[o]? = some y := by
  rw [List.getElem?_set_self (List.getElem?_eq_some_iff.1 h).1]
theorem get_set_ne {o' : Nat} {y : LObj} (h : o' ≠ o) : (st.set o' y)[o]? = st[o]? := by
  rw [List.getElem?_set_ne h]
theorem get_lt {x : LObj} (h : st[o]? = some x) : o < st.length := (List.getElem?_eq_some_iff.1 h).1

theorem wrap_i64 {n : Int} (h1 : -9223372036854775808 ≤ n) (h2 : n < 9223372036854775808) : IntKind.i64.wrap n = n := by
  rw [IntKind.wrap_i64]; omega

/-- What of a store stays: all but the objects of a set. -/
structure Fr (st st' : LState) (S : Nat → Prop) : Prop where
  len : st.length ≤ st'.length
  same : ∀ j, j < st.length → ¬ S j → st'[j]? = st[j]?

theorem Fr.refl {S : Nat → Prop} : Fr st st S := ⟨Nat.le_refl _, fun _ _ _ => rfl⟩
theorem Fr.mono {st' : LState} {S S' : Nat → Prop} (h : Fr st st' S) (hs : ∀ j, j < st.length → S j → S' j) : Fr st st' S' := ⟨h.len, fun j hj hn => h.same j hj fun hc => hn (hs j hj hc)⟩
theorem Fr.trans {st' st'' : LState} {S S' : Nat → Prop} (h : Fr st st' S) (h' : Fr st' st'' S') (hs : ∀ j, j < st.length → S' j → S j) : Fr st st'' S :=
  ⟨Nat.le_trans h.len h'.len, fun j hj hn => by rw [h'.same j (Nat.lt_of_lt_of_le hj h.len) fun hc => hn (hs j hj hc), h.same j hj hn]⟩
theorem Fr.app {S : Nat → Prop} {y : LObj} : Fr st (st ++ [y]) S := ⟨by simp, fun j hj _ => by rw [List.getElem?_append_left hj]⟩
theorem Fr.set {S : Nat → Prop} {y : LObj} (h : S o) : Fr st (st.set o y) S := ⟨by simp, fun j _ hn => List.getElem?_set_ne (fun e => by subst e; exact hn h)⟩
theorem Fr.get {st' : LState} {S : Nat → Prop} {x : LObj} (h : Fr st st' S) (hg : st[o]? = some x) (hn : ¬ S o) : st'[o]? = some x := by rw [h.same o (get_lt hg) hn]; exact hg

end
end Go.CP
