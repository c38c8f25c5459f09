/- Cleaning a text: what the functions beneath do, over the clean machine. -/
import Derived.Test.YtkjmpjaahgficaaAmW
import Derived.Test.YtkjmpjaahgficaaAmP
import Derived.Test.YtkjmpjaahgficaaCn36
namespace Go.Proofs.Ytkjmpjaahgficaa
open Go Go.CN
set_option maxRecDepth 100000

abbrev i64 (n : Int) : LV := .int .i64 n
abbrev u8 (c : UInt8) : LV := .int .u8 (c.toNat : Nat)

variable {R : LV → LState → Prop} {st : LState}

theorem wrap1 {i : Nat} (h : i < 1000000) : IntKind.i64.wrap ((i : Int) + 1) = ((i + 1 : Nat) : Int) := by rw [wrap_i64 (by omega) (by omega)]; simp
theorem wrap2 {i k : Nat} (h : i < 1000000) (hk : k < 1000000) : IntKind.i64.wrap ((i : Int) + (k : Int)) = ((i + k : Nat) : Int) := by rw [wrap_i64 (by omega) (by omega)]; simp

theorem slStr_head {s : List UInt8} {m : Nat} (h : m ≤ s.length) : (ob3 none (some (i64 m)) none fun l h m => slStr (.str s) l h m) = some (.str (s.take m)) := by
  simp only [ob3, optNat, Int.natCast_nonneg, if_true, Int.toNat_natCast, slStr, Option.getD_none, Option.getD_some]
  rw [if_pos ⟨by omega, h⟩]; simp
theorem slStr_rest {s : List UInt8} {m : Nat} (h : m ≤ s.length) : (ob3 (some (i64 m)) none none fun l h m => slStr (.str s) l h m) = some (.str (s.drop m)) := by
  simp only [ob3, optNat, Int.natCast_nonneg, if_true, Int.toNat_natCast, slStr, Option.getD_none, Option.getD_some]
  rw [if_pos ⟨h, Nat.le_refl _⟩, List.take_of_length_le (by simp)]
theorem slStr_part {s : List UInt8} {a b : Nat} (h : a ≤ b) (hb : b ≤ s.length) : (ob3 (some (i64 a)) (some (i64 b)) none fun l h m => slStr (.str s) l h m) = some (.str ((s.drop a).take (b - a))) := by
  simp only [ob3, optNat, Int.natCast_nonneg, if_true, Int.toNat_natCast, slStr, Option.getD_some]
  rw [if_pos ⟨h, hb⟩]
theorem lmaxs_two {a b : Nat} : lmaxs [i64 a, i64 b] = some (i64 (max a b : Nat)) := by
  have : lmaxs [i64 a, i64 b] = some (i64 (if (a : Int) < (b : Int) then (b : Int) else (a : Int))) := rfl
  rw [this]
  split
  · rw [Nat.max_eq_right (by omega)]
  · rw [Nat.max_eq_left (by omega)]
theorem bStr_add {x y : List UInt8} (h : x.length + y.length ≤ 1000000) : bStr .add (.str x) (.str y) = some (.str (x ++ y)) := by
  simp only [bStr_str, lstr]
  rw [if_neg]
  show ¬ (((x.length + y.length : Nat) : Int) > 9223372036854775807)
  omega

theorem prefix_take {s t : List UInt8} : s.isPrefixOf t = true ↔ s.length ≤ t.length ∧ t.take s.length = s := by
  rw [List.isPrefixOf_iff_prefix, List.prefix_iff_eq_take]
  constructor
  · intro h
    refine ⟨?_, h.symm⟩
    have := congrArg List.length h
    simp only [List.length_take] at this; omega
  · rintro ⟨_, h⟩; exact h.symm

/-- strings.HasPrefix -/
theorem prefix_spec {t s : List UInt8} (h : R (.bool (s.isPrefixOf t)) st) : LCalls Try.prog 44 [.str t, .str s] st R := by
  apply c44
  apply c50
  simp only [w50, lenStr_str, bd_some, bInt_int, lint_geq]
  rw [bsel_dec]
  refine ⟨fun e => ?_, fun e => ?_⟩
  · rw [slStr_head (by omega), bd_some, bStr_str, lstr_eql, bd_some]
    rwa [show (t.take s.length == s) = s.isPrefixOf t by rw [Bool.eq_iff_iff, beq_iff_eq, prefix_take]; exact ⟨fun h => ⟨by omega, h⟩, fun h => h.2⟩]
  · rwa [show s.isPrefixOf t = false by rw [Bool.eq_false_iff, Ne, prefix_take]; rintro ⟨h, _⟩; omega] at h

/-- the texts of a slice -/
abbrev rowsOf (l : List (List UInt8)) : List (List LV) := l.map fun s => [LV.str s]

theorem row_at {x : LV} {l : List (List UInt8)} {i : Nat} (h : SlA st 1 x (rowsOf l)) (hi : i < l.length) : ∃ o, ixSl 1 x (i64 i) = some (.ptr o (i * 1)) ∧ ld1 st (.ptr o (i * 1)) = some (.str l[i]) := by
  obtain ⟨o, h1, _, h3⟩ := h.at (i := i) (r := [LV.str l[i]]) (kk := .i64) (by simp [List.getElem?_eq_getElem hi])
  exact ⟨o, h1, h3 0 _ rfl⟩

theorem rows_len {x : LV} {l : List (List UInt8)} (h : SlA st 1 x (rowsOf l)) : lenSl x = some (i64 l.length) := by
  rw [h.lenSl, List.length_map]

theorem most_step {l : List (List UInt8)} {t : List UInt8} {i m : Nat} (h : i < l.length) : mostB (l.drop i) t m = mostB (l.drop (i + 1)) t (if 4 ≤ l[i].length ∧ l[i].isPrefixOf t = true then max m l[i].length else m) := by
  rw [List.drop_eq_getElem_cons h]; rfl

/-- begins -/
theorem begins_loop {x : LV} {l : List (List UInt8)} {t : List UInt8} (hx : SlA st 1 x (rowsOf l)) (hl : l.length ≤ 1000) :
    ∀ (n i m : Nat), n = l.length - i → i ≤ l.length → R (i64 (mostB (l.drop i) t m : Nat)) st → P34_1 (.str t) (i64 m) x (i64 l.length) (i64 i) R st := by
  intro n
  induction n with
  | zero =>
    intro i m hn hi h
    apply p34_1
    simp only [w34_1, bInt_int, lint_lss, bd_some]
    rw [show decide ((i : Int) < (l.length : Nat)) = false by simp; omega, bsel_false]
    rwa [List.drop_eq_nil_of_le (by omega)] at h
  | succ n ih =>
    intro i m hn hi h
    have hlt : i < l.length := by omega
    obtain ⟨o, h1, h2⟩ := row_at hx hlt
    rw [most_step hlt] at h
    apply p34_1
    simp only [w34_1, bInt_int, lint_lss, bd_some, h1, h2, lenStr_str, lint_geq, lint_add, wrap1 (show i < 1000000 by omega)]
    rw [show decide ((i : Int) < (l.length : Nat)) = true by simp; omega, bsel_true, bsel_dec]
    refine ⟨fun e => prefix_spec ?_, fun e => ?_⟩
    · simp only [lenStr_str, bd_some, lmaxs_two, wrap1 (show i < 1000000 by omega)]
      rw [bsel_bool]
      refine ⟨fun e2 => ih (i + 1) _ (by omega) (by omega) ?_, fun e2 => ih (i + 1) _ (by omega) (by omega) ?_⟩
      · rwa [if_pos ⟨by omega, e2⟩] at h
      · rwa [if_neg (by rw [e2]; simp)] at h
    · refine ih (i + 1) _ (by omega) (by omega) ?_
      rwa [if_neg (by omega)] at h

theorem begins_spec {x : LV} {l : List (List UInt8)} {t : List UInt8} (hx : SlA st 1 x (rowsOf l)) (hl : l.length ≤ 1000) (h : R (i64 (mostB l t 0 : Nat)) st) : LCalls Try.prog 34 [.str t, x] st R := by
  apply c34
  simp only [w34, rows_len hx, bd_some]
  exact begins_loop hx hl _ 0 0 rfl (Nat.zero_le _) h

/-- the document's longest -/
theorem longest_loop {x : LV} {l : List (List UInt8)} {t : List UInt8} {a : Nat} (hx : SlA st 1 x (rowsOf l)) (hl : l.length ≤ 1000) (hs : ∀ s, s ∈ l → s.length ≤ 1000) (ha : a ≤ t.length) (ht : t.length ≤ 1000) :
    ∀ (n i m : Nat), n = l.length - i → i ≤ l.length → R (i64 (mostB (l.drop i) (t.drop a) m : Nat)) st → P37_1 (.str t) (i64 a) x (i64 m) (i64 i) R st := by
  intro n
  induction n with
  | zero =>
    intro i m hn hi h
    apply p37_1
    simp only [w37_1, rows_len hx, bInt_int, lint_lss, bd_some]
    rw [show decide ((i : Int) < (l.length : Nat)) = false by simp; omega, bsel_false]
    rwa [List.drop_eq_nil_of_le (by omega)] at h
  | succ n ih =>
    intro i m hn hi h
    have hlt : i < l.length := by omega
    obtain ⟨o, h1, h2⟩ := row_at hx hlt
    rw [most_step hlt] at h
    have hsl := hs l[i] (List.getElem_mem hlt)
    apply p37_1
    simp only [w37_1, rows_len hx, bInt_int, lint_lss, bd_some, h1, h2, lenStr_str, lint_geq, lint_leq, lint_add, wrap1 (show i < 1000000 by omega), wrap2 (show a < 1000000 by omega) (show l[i].length < 1000000 by omega), lmaxs_two]
    rw [show decide ((i : Int) < (l.length : Nat)) = true by simp; omega, bsel_true, bsel_dec]
    refine ⟨fun e => ?_, fun e => ih (i + 1) _ (by omega) (by omega) (by rwa [if_neg (by omega)] at h)⟩
    rw [bsel_dec]
    refine ⟨fun e2 => ?_, fun e2 => ih (i + 1) _ (by omega) (by omega) ?_⟩
    · rw [slStr_part (by omega) (by omega), bd_some]
      simp only [bStr_str, lstr_eql, bd_some]
      rw [show a + l[i].length - a = l[i].length by omega, bsel_bool]
      have key : ((t.drop a).take l[i].length == l[i]) = l[i].isPrefixOf (t.drop a) := by
        rw [Bool.eq_iff_iff, beq_iff_eq, prefix_take]
        exact ⟨fun h => ⟨by simp only [List.length_drop]; omega, h⟩, fun h => h.2⟩
      rw [key]
      refine ⟨fun e3 => ih (i + 1) _ (by omega) (by omega) ?_, fun e3 => ih (i + 1) _ (by omega) (by omega) ?_⟩
      · rwa [if_pos ⟨by omega, e3⟩] at h
      · rwa [if_neg (by rw [e3]; simp)] at h
    · rwa [if_neg (by
        rintro ⟨_, h⟩
        have := prefix_len h
        simp only [List.length_drop] at this; omega)] at h

theorem longest_spec {x : LV} {l : List (List UInt8)} {t : List UInt8} {a : Nat} (hx : SlA st 1 x (rowsOf l)) (hl : l.length ≤ 1000) (hs : ∀ s, s ∈ l → s.length ≤ 1000) (ha : a ≤ t.length) (ht : t.length ≤ 1000)
    (h : R (i64 (mostB l (t.drop a) 0 : Nat)) st) : LCalls Try.prog 37 [.str t, i64 a, x] st R := by
  apply c37
  exact longest_loop hx hl hs ha ht _ 0 0 rfl (Nat.zero_le _) h

/-! ### strings.Builder -/

def bytes (t : List UInt8) : List LV := t.map fun c => .int .u8 c.toNat

theorem bytes_of {t : List UInt8} : bytesOf (bytes t) = some t := by
  induction t with
  | nil => rfl
  | cons c t ih =>
    have : bytes (c :: t) = .int .u8 c.toNat :: bytes t := rfl
    rw [this, bytesOf, ih]
    simp

/-- A builder that holds a text. -/
def Bld (n0 : Nat) (st : LState) (ob : Nat) (t : List UInt8) : Prop :=
  ∃ f a, n0 ≤ ob ∧ st[ob]? = some (.cells (.bt 77) [a, osl f 1 t.length]) ∧ (a = .nilp ∨ a = .ptr ob 0) ∧ OwnM (.bt 5) st f 1 t.length (bytes t) ∧ (∀ j, f = some j → n0 ≤ j ∧ j ≠ ob) ∧ (f ≠ none → t ≠ [])

theorem noEscape_spec {x : LV} (h : R x st) : LCalls Try.prog 51 [x] st R :=
  same_call Try.func51 (by kernel_rfl) (by kernel_rfl) (by kernel_rfl) (show Extern.find Try.f51 = some Extern.AbiNoEscape.same by kernel_rfl) h

/-- copyCheck -/
theorem check_spec {n0 ob : Nat} {a b : LV} (h0 : n0 ≤ ob) (ho : st[ob]? = some (.cells (.bt 77) [a, b])) (ha : a = .nilp ∨ a = .ptr ob 0)
    (hR : ∀ st', Fr st st' (fun j => j = ob) → st'[ob]? = some (.cells (.bt 77) [.ptr ob 0, b]) → R (.tup []) st') : LCalls Try.prog 45 [.ptr ob 0] st R := by
  apply c45
  simp only [w45, lnilCheck_ptr, bd_some, fAddr_ptr, Nat.zero_add, ld1_of ho, List.getElem?_cons_zero]
  rcases ha with rfl | rfl
  · have e1 : cvUp st (.ptr ob 0) = some (.ptr ob 0) := by simp [cvUp, ho]
    have e2 : cvPu st 77 2 (.ptr ob 0) = some (.ptr ob 0) := by simp [cvPu, ho]
    simp only [eqPtr_nn, eqB_some, eqOut_eql, bd_some, bsel_true, e1]
    refine noEscape_spec ?_
    simp only [e2, bd_some]
    rw [stV_of ho (by simp) rfl, lmk_some, bd2_some]
    exact hR _ (Fr.set rfl) (get_set ho)
  · simp only [eqPtr_pn, eqPtr_pp, eqB_some, eqOut_eql, eqOut_neq, bd_some, bsel_false, Bool.not_true]
    exact hR _ Fr.refl ho

theorem osl_one {f : Option Nat} {n : Nat} : (osl f 1 n).one = true := by cases f <;> rfl

/-- WriteString -/
theorem write_spec {n0 ob : Nat} {t x : List UInt8} (hb : Bld n0 st ob t) (_h0 : n0 ≤ st.length) (hx : x ≠ []) (hl : t.length + x.length ≤ 1000000)
    (hR : ∀ r st', Bld n0 st' ob (t ++ x) → Fr st st' (fun j => n0 ≤ j) → R r st') : LCalls Try.prog 35 [.ptr ob 0, .str x] st R := by
  obtain ⟨f, a, hob, ho, ha, hown, hf, hne⟩ := hb
  apply c35
  refine check_spec hob ho ha fun s1 f1 g1 => ?_
  simp only [lnilCheck_ptr, bd_some, fAddr_ptr, Nat.zero_add, ld1_of g1, List.getElem?_cons_zero, List.getElem?_cons_succ]
  have own1 : OwnM (.bt 5) s1 f 1 t.length (bytes t) := hown.fr f1 fun j hj => (hf j hj).2
  have hpos : 0 < x.length := List.length_pos_iff.2 hx
  obtain ⟨s2, f2, e1, own2, fr2, hj2, _⟩ := own1.append (bytes := 1) (x := .str x) (k := x.length) (new := bytes x) rfl hpos (by simp [bytes]) (by simp [bytes, LV.one]) (by simp [room47]; omega) rfl
  rw [e1, bd2_some]
  have nob : ∀ j, f2 = some j → n0 ≤ j ∧ j ≠ ob := by
    intro j hj
    rcases hj2 j hj with h | h
    · exact hf j h
    · have := f1.len
      exact ⟨by omega, by have := get_lt g1; omega⟩
  have g2 := fr2.get g1 fun h => (hf ob h).2 rfl
  rw [stV_of g2 (by simp) osl_one, lmk_some, bd2_some, lenStr_str, bd_some]
  refine hR _ _ ⟨f2, .ptr ob 0, hob, ?_, .inr rfl, ?_, nob, fun _ => by simp [hx]⟩ ?_
  · rw [get_set g2, List.length_append]; rfl
  · have := own2.fr (st' := s2.set ob (.cells (.bt 77) [.ptr ob 0, osl f2 1 (t.length + x.length)])) (S := fun j => j = ob) (Fr.set rfl) fun j hj => (nob j hj).2
    rw [List.length_append]
    rwa [show bytes (t ++ x) = bytes t ++ bytes x by simp [bytes]]
  · refine ((f1.mono fun j _ e => ?_).trans (fr2.mono fun j _ e => ?_) fun _ _ h => h).trans (Fr.set ?_) fun _ _ h => h
    · subst e; exact hob
    · exact (hf j e).1
    · exact hob

/-- String -/
theorem string_spec {n0 ob : Nat} {t : List UInt8} (hb : Bld n0 st ob t) (hl : t.length ≤ 1000000)
    (hR : ∀ st', Fr st st' (fun j => n0 ≤ j) → R (.str t) st') : LCalls Try.prog 36 [.ptr ob 0] st R := by
  obtain ⟨f, a, hob, ho, ha, hown, hf, hne⟩ := hb
  apply c36
  simp only [w36, lnilCheck_ptr, bd_some, fAddr_ptr, Nat.zero_add, ld1_of ho, List.getElem?_cons_zero, List.getElem?_cons_succ]
  have ev : lopA Try.prog [.ptr ob 0, LV.tup [], LV.str [], .ptr ob 0, .ptr ob 0, .ptr ob 1, osl f 1 t.length, LV.tup [], LV.tup [], LV.tup [], LV.tup [], LV.tup [], LV.tup [], LV.tup []]
      (Op.call { callee := Callee.builtin Builtin.unsafeSliceData, args := { toList := [Operand.tmp 6] }, argTypes := { toList := [75] } }) = lslData (osl f 1 t.length) := rfl
  rw [ev]
  cases f with
  | none =>
    obtain ⟨_, hz⟩ := hown
    have ht : t = [] := List.eq_nil_of_length_eq_zero hz
    subst ht
    exact hR _ Fr.refl
  | some j =>
    obtain ⟨hlen, rest, hj⟩ := hown
    have ht : t ≠ [] := hne (by simp)
    have hlen0 : t.length ≠ 0 := fun e => ht (List.eq_nil_of_length_eq_zero e)
    rw [show lslData (osl (some j) 1 t.length) = some (.ptr j 0) by simp [osl, lslData, ht], bd_some]
    simp only [osl, lenSl_sl, bd_some]
    have hu : luStr st 5 (.ptr j 0) (i64 t.length) = some (.str t, st.set j (.cells .ro (bytes t ++ rest))) := by
      simp only [luStr, hj, Int.toNat_natCast]
      rw [if_neg (by omega), if_pos ⟨by omega, by omega⟩]
      rw [if_pos ⟨trivial, by simp [bytes]⟩, List.drop_zero]
      have : (bytes t ++ rest).take t.length = bytes t := by
        have : t.length = (bytes t).length := by simp [bytes]
        rw [this, List.take_left]
      rw [this, bytes_of]
    rw [hu, bd2_some]
    exact hR _ (Fr.set (hf j rfl).1)

end Go.Proofs.Ytkjmpjaahgficaa
