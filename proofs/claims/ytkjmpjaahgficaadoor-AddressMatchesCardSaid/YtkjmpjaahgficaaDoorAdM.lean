/- AddressMatches, over the clean machine. -/
import Derived.Test.YtkjmpjaahgficaaDoorAdS
namespace Go.Proofs.YtkjmpjaahgficaaDoor
open Go Go.CM
set_option maxRecDepth 100000

variable {R : LV → LState → Prop} {st : LState}

theorem ext_ok : OraOk Tryd.prog (extO 75 106) :=
  extO_ok Tryd.func75 (by kernel_rfl) (by kernel_rfl) (by kernel_rfl) (by kernel_rfl) Tryd.func106 (by kernel_rfl) (by kernel_rfl) (by kernel_rfl) (by kernel_rfl)

theorem awake_run : (lrunX Tryd.prog (extO 75 106) 100000 60 9 [] []).map (·.1) = some (.bool true) := by kernel_rfl

theorem bBool_eql {a b : Bool} : bBool .eql (.bool a) (.bool b) = some (.bool (a == b)) := by cases a <;> cases b <;> rfl
theorem lmins_two {k : IntKind} {a b : Int} : lmins [.int k a, .int k b] = some (.int k (if b < a then b else a)) := rfl

/-- strings.Index of one byte -/
theorem index_spec {s : List UInt8} (h : R (i64 (Lib.indexByte s 46)) st) : LCalls Tryd.prog 56 [.str s, .str [46]] st R := by
  apply c56
  apply c76
  have ib : ∀ {K : LV → LState → Prop}, K (i64 (Lib.indexByte s 46)) st → LCalls Tryd.prog 94 [.str s, u8 46] st K := by
    intro K hK
    apply c94
    exact indexByte_call (c := 46) Tryd.func106 (by kernel_rfl) (by kernel_rfl) (by kernel_rfl) (by kernel_rfl) hK
  simp only [w76, lenStr_str, List.length_cons, List.length_nil, Nat.zero_add, bd_some, bInt_int, lint_eql, bStr_str, lstr_eql]
  rw [show (((1 : Nat) : Int) == 0) = false from rfl, show (((1 : Nat) : Int) == 1) = true from rfl]
  simp only [bsel_false, bsel_true]
  rw [bsel_bool]
  refine ⟨fun e => ?_, fun _ => ?_⟩
  · have : [46] = s := beq_iff_eq.1 e
    subst this
    exact h
  · rw [show ixStr (.str [46]) (.int .i64 0) = some (u8 46) from rfl, bd_some]
    exact ib h

/-- strings.Count of one byte -/
theorem count_spec {s : List UInt8} (h : R (i64 (Lib.countByte s 46 : Nat)) st) : LCalls Tryd.prog 55 [.str s, .str [46]] st R := by
  apply c55
  simp only [w55, lenStr_str, List.length_cons, List.length_nil, Nat.zero_add, bd_some, bInt_int, lint_eql]
  rw [show (((1 : Nat) : Int) == 0) = false from rfl, show (((1 : Nat) : Int) == 1) = true from rfl]
  simp only [bsel_false, bsel_true]
  rw [show ixStr (.str [46]) (.int .i64 0) = some (u8 46) from rfl, bd_some]
  exact count_call (c := 46) Tryd.func75 (by kernel_rfl) (by kernel_rfl) (by kernel_rfl) (by kernel_rfl) h

theorem split_zero : ∀ {s : List UInt8}, Lib.countByte s 46 = 0 → splitB 46 s = [s]
  | [], _ => rfl
  | b :: l, h => by
    unfold Lib.countByte at h
    rw [List.count_cons] at h
    rw [splitB_cons]
    split at h
    · omega
    · rename_i e
      rw [if_neg e, split_zero (s := l) (by unfold Lib.countByte; omega)]

theorem set_at {A B : List LV} {x y : LV} {i : Nat} (h : A.length = i) : (A ++ x :: B).set i y = A ++ y :: B := by
  subst h
  induction A with
  | nil => rfl
  | cons a A ih => simp [ih]

def strs (l : List (List UInt8)) : List LV := l.map LV.str

theorem slStr_head {s : List UInt8} {m : Nat} (h : m ≤ s.length) : (ob3 none (some (i64 m)) none fun l h m => slStr (.str s) l h m) = some (.str (s.take m)) := by
  simp only [ob3, optNat, Int.natCast_nonneg, if_true, Int.toNat_natCast, slStr, Option.getD_none, Option.getD_some]
  rw [if_pos ⟨by omega, h⟩]; simp
theorem slStr_rest {s : List UInt8} {m : Nat} (h : m ≤ s.length) : (ob3 (some (i64 m)) none none fun l h m => slStr (.str s) l h m) = some (.str (s.drop m)) := by
  simp only [ob3, optNat, Int.natCast_nonneg, if_true, Int.toNat_natCast, slStr, Option.getD_none, Option.getD_some]
  rw [if_pos ⟨h, Nat.le_refl _⟩]
  congr 2
  exact List.take_of_length_le (by simp)
theorem slStr_part {s : List UInt8} {a b : Nat} (h : a ≤ b) (hb : b ≤ s.length) : (ob3 (some (i64 a)) (some (i64 b)) none fun l h m => slStr (.str s) l h m) = some (.str ((s.drop a).take (b - a))) := by
  simp only [ob3, optNat, Int.natCast_nonneg, if_true, Int.toNat_natCast, slStr, Option.getD_some]
  rw [if_pos ⟨h, hb⟩]

/-- The splitting loop. -/
theorem split_loop {s : List UInt8} {N o : Nat} (hN : N ≤ 1000) (hs : s.length ≤ 1000) (hR : ∀ st', st'[o]? = some (.cells .rw (strs (splitB 46 s))) → Fr st st' (fun j => j = o) → R (.sl o 0 (N + 1) (.ex (N + 1))) st') :
    ∀ (n i : Nat) (pre : List (List UInt8)) (rest : List UInt8) (s1 : LState), n = N - i → i ≤ N → pre.length = i → splitB 46 s = pre ++ splitB 46 rest → Lib.countByte rest 46 = N - i → rest.length ≤ s.length → Fr st s1 (fun j => j = o) →
      s1[o]? = some (.cells .rw (strs pre ++ List.replicate (N + 1 - i) (.str []))) → LT Tryd.prog [.tmp 8] (pointN Tryd.f43 1) R [.str rest, .str [46], i64 0, i64 (N : Nat), .junk, .junk, .junk, .junk, .junk, .sl o 0 (N + 1) (.ex (N + 1)), i64 (i : Nat), .junk, .junk, .junk, .junk, .junk, .junk, .junk, .junk, .junk, .junk, .junk, .junk, .junk, .junk, .junk, .junk, .junk, .junk, .junk, .junk, .junk, .junk, .junk, .junk, .junk, .junk, .junk, .junk, .junk, .junk, .junk, .junk, .junk, .junk, .junk, .junk, .junk, .junk, .junk, .junk, .junk, .junk, .junk, .junk, .junk, .junk, .junk, .junk, .junk, .junk, .junk, .junk, .junk, .junk, .junk] s1 := by
  intro n
  induction n with
  | zero =>
    intro i pre rest s1 hn hi hp hsp hc hrl hfr ho
    apply p43_1
    have hiN : i = N := by omega
    subst hiN
    have hw := wrap1 (show i < 1000000 by omega)
    have hix : ixSl 1 (.sl o 0 (i + 1) (.ex (i + 1))) (i64 i) = some (.ptr o i) := by rw [ixSl_of (by omega) (by omega)]; simp
    have hset : (strs pre ++ List.replicate (i + 1 - i) (LV.str [])).set i (.str rest) = strs (splitB 46 s) := by
      rw [hsp, split_zero (by omega), show i + 1 - i = 1 by omega]
      simp only [strs, List.map_append, List.replicate_one, List.map_cons, List.map_nil]
      exact set_at (by simp [hp])
    simp only [w43_1, bInt_int, lint_lss, bd_some, bsel_dec]
    refine ⟨fun h => by omega, fun _ => ?_⟩
    rw [hix, bd_some, stV_of ho (by simp [strs, hp]) rfl, hset]
    simp only [lmk_some, bd2_some, lint_add, hw, bd_some]
    rw [show (ob3 none (some (i64 ((i + 1 : Nat) : Int))) none fun l h m => slRoom (s1.set o (.cells .rw (strs (splitB 46 s)))) 1 (.sl o 0 (i + 1) (.ex (i + 1))) l h m) = some (.sl o 0 (i + 1) (.ex (i + 1))) by
      simp only [ob3, optNat, Int.natCast_nonneg, if_true, Int.toNat_natCast, slRoom, slSl, lslice, Option.getD_none, Option.getD_some]
      rw [if_pos ⟨by omega, by omega⟩]
      simp]
    rw [bd_some]
    exact hR _ (get_set ho) (hfr.trans (Fr.set (S := fun j => j = o) rfl) fun _ _ h => h)
  | succ n ih =>
    intro i pre rest s1 hn hi hp hsp hc hrl hfr ho
    apply p43_1
    have hw := wrap1 (show i < 1000000 by omega)
    have hix : ixSl 1 (.sl o 0 (N + 1) (.ex (N + 1))) (i64 i) = some (.ptr o i) := by rw [ixSl_of (by omega) (by omega)]; simp
    simp only [w43_1, bInt_int, lint_lss, bd_some, bsel_dec]
    refine ⟨fun _ => ?_, fun h => by omega⟩
    refine index_spec ?_
    have hne : Lib.indexByte rest 46 ≠ -1 := by
      intro e
      have h1 := split_none e
      have h2 := splitB_len (c := 46) (s := rest)
      rw [h1, hc] at h2
      simp at h2; omega
    have hge := Lib.indexByte_ge rest 46
    obtain ⟨m, hm⟩ : ∃ m : Nat, Lib.indexByte rest 46 = m := ⟨(Lib.indexByte rest 46).toNat, by omega⟩
    obtain ⟨h1, h2⟩ := split_some hm
    rw [hm]
    have hw0 : IntKind.i64.wrap ((m : Int) + 0) = (m : Nat) := by rw [wrap_i64 (by omega) (by omega)]; simp
    have hw1 := wrap1 (show m < 1000000 by omega)
    simp only [bInt_int, lint_lss, bd_some, bsel_dec, lint_add, hw0]
    refine ⟨fun h => by omega, fun _ => ?_⟩
    rw [slStr_head (by omega), bd_some, hix, bd_some, stV_of ho (by simp [strs, hp]; omega) rfl]
    simp only [lmk_some, bd2_some, lenStr_str, List.length_cons, List.length_nil, Nat.zero_add, bd_some, bInt_int, lint_add]
    rw [show ((1 : Nat) : Int) = 1 from rfl, hw1, slStr_rest (by omega), bd_some, hw]
    have hset : (strs pre ++ List.replicate (N + 1 - i) (LV.str [])).set i (.str (rest.take m)) = strs (pre ++ [rest.take m]) ++ List.replicate (N + 1 - (i + 1)) (.str []) := by
      rw [show N + 1 - i = (N + 1 - (i + 1)) + 1 by omega, List.replicate_succ]
      simp only [strs, List.map_append, List.map_cons, List.map_nil]
      rw [set_at (by simp [hp])]
      simp
    rw [hset]
    refine ih (i + 1) (pre ++ [rest.take m]) (rest.drop (m + 1)) _ (by omega) (by omega) (by simp [hp]) (by rw [hsp, h1]; simp) ?_ (by simp; omega) (hfr.trans (Fr.set (S := fun j => j = o) rfl) fun _ _ h => h) (get_set ho)
    have h3 := splitB_len (c := 46) (s := rest)
    have h4 := splitB_len (c := 46) (s := rest.drop (m + 1))
    rw [h1] at h3
    simp at h3
    omega

/-- strings.Split at '.' -/
theorem split_spec {s : List UInt8} (hs : s.length ≤ 1000) (h : ∀ st' o, st'[o]? = some (.cells .rw (strs (splitB 46 s))) → Fr st st' (fun _ => False) → R (.sl o 0 (splitB 46 s).length (.ex (splitB 46 s).length)) st') :
    LCalls Tryd.prog 23 [.str s, .str [46]] st R := by
  apply c23
  apply c43
  have hc : Lib.countByte s 46 ≤ s.length := List.count_le_length
  simp only [w43, bInt_int, lint_eql, bd_some, bStr_str, lstr_eql, lint_lss]
  rw [show ((-1 : Int) == 0) = false from rfl, show (([46] : List UInt8) == []) = false from rfl, show decide ((-1 : Int) < 0) = true from rfl]
  simp only [bsel_false, bsel_true]
  refine count_spec ?_
  generalize hN : Lib.countByte s 46 = N at hc
  simp only [bInt_int, lint_add, bd_some, lenStr_str, wrap1 (show N < 1000000 by omega), wrap1 (show s.length < 1000000 by omega), lmins_two]
  rw [if_neg (by omega)]
  have hmk : lmakeSl 16 [LV.str []] st (i64 ((N + 1 : Nat) : Int)) (i64 ((N + 1 : Nat) : Int)) = some (.sl st.length 0 (N + 1) (.ex (N + 1)), st ++ [.cells .rw (List.replicate (N + 1) (.str []))]) := by
    simp only [lmakeSl]
    rw [if_pos ⟨by omega, by omega, by omega, by omega⟩]
    have hfl : ∀ n : Nat, (List.replicate n [LV.str []]).flatten = List.replicate n (LV.str []) := by
      intro n
      induction n with
      | zero => rfl
      | succ n ih => rw [List.replicate_succ, List.flatten_cons, ih, List.replicate_succ]; rfl
    rw [Int.toNat_natCast, hfl]
  have hws : IntKind.i64.wrap (((N + 1 : Nat) : Int) - 1) = (N : Nat) := by rw [wrap_i64 (by omega) (by omega)]; omega
  rw [hmk, bd2_some, lint_sub, hws, bd_some]
  have hl := splitB_len (c := 46) (s := s)
  rw [hN] at hl
  rw [hl] at h
  refine split_loop (s := s) (st := st ++ [.cells .rw (List.replicate (N + 1) (.str []))]) (by omega) hs (fun st' h1 h2 => h st' _ h1 ?_) _ 0 [] s _ rfl (by omega) rfl rfl (by omega) (Nat.le_refl _) Fr.refl (by simp [strs])
  exact Fr.app.trans h2 fun j hj e => by omega

/-! ### patterns -/

def Ad.words (a : Ad) : List (List UInt8) := [a.p, a.k, a.n]

def matchW : List (List UInt8) → List (List UInt8) → Bool
  | [], _ => true
  | p :: ps, w :: ws => (p == [42] || p == w) && matchW ps ws
  | _ :: _, [] => false

theorem matchW_long : ∀ {ps ws : List (List UInt8)}, ws.length < ps.length → matchW ps ws = false
  | [], _, h => by simp at h
  | _ :: _, [], _ => rfl
  | p :: ps, w :: ws, h => by simp [matchW, matchW_long (ps := ps) (ws := ws) (by simpa using h)]

theorem match_loop {ps ws : List (List UInt8)} {o1 o2 : Nat} (hps : st[o1]? = some (.cells .rw (strs ps))) (hws : st[o2]? = some (.cells .rw (strs ws))) (hw3 : ws.length = 3) (hl : ps.length ≤ 3) :
    ∀ (n i : Nat), n = ps.length - i → i ≤ ps.length → R (.bool (matchW (ps.drop i) (ws.drop i))) st → LT Tryd.prog [.tmp 4] (pointN Tryd.f12 1) R [.junk, .junk, .junk, .junk, .junk, .junk, .sl o2 0 3 (.ex 3), .junk, .junk, .junk, .junk, .junk, .junk, .junk, .junk, .junk, .junk, .junk, .junk, .junk, .junk, .junk, .junk, .sl o1 0 ps.length (.ex ps.length), i64 ps.length, i64 (i : Nat), .junk, .junk, .junk, .junk, .junk, .junk, .junk, .junk, .junk, .junk, .junk, .junk, .junk, .junk, .junk] st := by
  intro n
  induction n with
  | zero =>
    intro i hn hi h
    apply p12_1
    simp only [w12_1, bInt_int, lint_lss, bd_some, bsel_dec]
    refine ⟨fun h => by omega, fun _ => ?_⟩
    rw [List.drop_eq_nil_of_le (by omega)] at h
    exact h
  | succ n ih =>
    intro i hn hi h
    apply p12_1
    have hip : i < ps.length := by omega
    have hiw : i < ws.length := by omega
    rw [List.drop_eq_getElem_cons hip, List.drop_eq_getElem_cons hiw] at h
    have g1 : (strs ps)[i]? = some (.str ps[i]) := by simp [strs, List.getElem?_eq_getElem hip]
    have g2 : (strs ws)[i]? = some (.str ws[i]) := by simp [strs, List.getElem?_eq_getElem hiw]
    have x1 : ixSl 1 (.sl o1 0 ps.length (.ex ps.length)) (i64 i) = some (.ptr o1 i) := by rw [ixSl_of (by omega) (by omega)]; simp
    have x2 : ixSl 1 (.sl o2 0 3 (.ex 3)) (i64 i) = some (.ptr o2 i) := by rw [ixSl_of (by omega) (by omega)]; simp
    simp only [w12_1, bInt_int, lint_lss, bd_some, bsel_dec]
    refine ⟨fun _ => ?_, fun h => by omega⟩
    simp only [x1, ld1_of hps, g1, x2, ld1_of hws, g2, bd_some, bStr_str, lstr_neq, bsel_bool, bInt_int, lint_add, wrap1 (show i < 1000000 by omega)]
    refine ⟨fun h1 => ⟨fun h2 => ?_, fun h2 => ?_⟩, fun h1 => ?_⟩
    · have e1 : (ps[i] == [42]) = false := by simpa using h1
      have e2 : (ps[i] == ws[i]) = false := by simpa using h2
      simpa [matchW, e1, e2] using h
    · have e2 : (ps[i] == ws[i]) = true := by simpa using h2
      exact ih (i + 1) (by omega) (by omega) (by simpa [matchW, e2] using h)
    · have e1 : (ps[i] == [42]) = true := by simpa using h1
      exact ih (i + 1) (by omega) (by omega) (by simpa [matchW, e1] using h)

/-- Match -/
theorem match_spec {a : Ad} {s : List UInt8} (ha : a.small) (hs : s.length ≤ 1000) (h : ∀ st', Fr st st' (fun _ => False) → R (.bool (a.right && matchW (splitB 46 s) a.words)) st') : LCalls Tryd.prog 12 [.str s, a.lv] st R := by
  apply c12
  have f0 : Fr st (st ++ [LObj.cells .rw [LV.str a.p, .str a.k, .str a.n, i64 a.ix]]) (fun _ => False) := Fr.app
  have lda : ∀ {s1 : LState}, Fr (st ++ [LObj.cells .rw [LV.str a.p, .str a.k, .str a.n, i64 a.ix]]) s1 (fun _ => False) → ldA s1 (.ptr st.length 0) 4 = some a.lv := fun hf => by
    rw [ldA_of (hf.get box_get fun h => h) (by simp)]; rfl
  simp only [w12, box_ad, bd2_some]
  rw [lda Fr.refl, bd_some]
  refine split_spec hs fun s1 o1 h1 f1 => ?_
  refine ⟨lda f1, ?_⟩
  refine words_spec fun s2 o2 h2 f2 => ?_
  have f12 := f1.trans f2 fun _ _ h => h
  rw [lda f12, bd_some]
  refine right_spec ha fun s3 f3 => ?_
  have f123 := f12.trans f3 fun _ _ h => h
  have h := h s3 (f0.trans f123 fun _ _ h => h)
  have h1 := (f2.trans f3 fun _ _ h => h).get h1 fun h => h
  have h2 := f3.get h2 fun h => h
  simp only [lun_not, bd_some, bsel_bool]
  refine ⟨fun e => ?_, fun e => ?_⟩
  · have e : a.right = false := by simpa using e
    simpa [e] using h
  · have e : a.right = true := by simpa using e
    simp only [lenSl_sl, bd_some, bInt_int, lint_gtr, bsel_dec]
    refine ⟨fun hl => ?_, fun hl => ?_⟩
    · rw [e, matchW_long (by simp [Ad.words]; omega)] at h
      exact h
    · exact match_loop h1 (ws := a.words) h2 rfl (by omega) _ 0 rfl (by omega) (by simpa [e] using h)

/-! ### the law -/

def glue (cur : List UInt8) : List (List UInt8) → List (List UInt8)
  | p :: ps => (cur ++ p) :: ps
  | [] => [cur]

theorem glue_nil {l : List (List UInt8)} (h : l ≠ []) : glue [] l = l := by
  cases l with
  | nil => exact absurd rfl h
  | cons p ps => rfl

theorem glue_cons {c : UInt8} {l cur : List UInt8} (h : c ≠ 46) : glue cur (splitB 46 (c :: l)) = glue (cur ++ [c]) (splitB 46 l) := by
  have e : (c == 46) = false := by simpa using h
  rw [splitB_cons, if_neg (by simp [e])]
  cases hl : splitB 46 l with
  | nil => exact absurd hl splitB_ne
  | cons p ps => simp [glue]

theorem glue_dot {l cur : List UInt8} : glue cur (splitB 46 (46 :: l)) = cur :: splitB 46 l := by
  have e : splitB 46 (46 :: l) = [] :: splitB 46 l := rfl
  rw [e]; simp [glue]

theorem u8_dot {c : UInt8} : ((c.toNat : Nat) : Int) ≠ 46 ↔ c ≠ 46 := by
  constructor
  · intro h e; subst e; exact h rfl
  · intro h e
    have : c.toNat = (46 : UInt8).toNat := by
      have : c.toNat = 46 := by omega
      exact this
    exact h (UInt8.toNat_inj.1 this)

section
variable {a : Ad} {s : List UInt8} {st0 : LState} {b m : Nat}

theorem law_end (ha : a.small) (hs : s.length ≤ 1000) (hb : st[b]? = some (.cells .rw [.str a.p, .str a.k, .str a.n, i64 a.ix])) (hR : ∀ st', R (.bool true) st') {w : Bool} (hw : (a.right && matchW (splitB 46 s) a.words) = w) :
    bd (ldA st (.ptr b 0) 4) fun v47 => LCalls Tryd.prog 12 [.str s, v47] st fun v48 st49 => bd (bBool BinOp.eql v48 (.bool w)) fun v50 => R v50 st49 := by
  rw [ldA_of hb (by simp)]
  refine (show bd (some a.lv) _ from ?_)
  rw [bd_some]
  refine match_spec ha hs fun st' _ => ?_
  rw [hw, bBool_eql, bd_some]
  simp only [beq_self_eq_true]
  exact hR _

theorem law_loop (ha : a.small) (hs : s.length ≤ 100) (hb : st[b]? = some (.cells .rw [.str a.p, .str a.k, .str a.n, i64 a.ix])) (hm : st[m]? = some (.cells .rw [.str a.p, .str a.k, .str a.n, i64 a.ix])) (hR : ∀ st', R (.bool true) st') :
    ∀ (n i k fr : Nat), n = s.length + 1 - i → (i ≤ s.length ∧ fr ≤ i ∧ k ≤ 3 ∧ matchW (splitB 46 s) a.words = matchW (glue ((s.drop fr).take (i - fr)) (splitB 46 (s.drop i))) (a.words.drop k) ∨ i = s.length + 1 ∧ k ≤ 3 ∧ matchW (splitB 46 s) a.words = true) →
      LT Tryd.prog [.tmp 4] (pointN Tryd.f3 1) R [.str s, .junk, .junk, .ptr b 0, .junk, .ptr m 0, .bool a.right, i64 (k : Nat), i64 (fr : Nat), i64 (i : Nat), .junk, .junk, .junk, .junk, .junk, .junk, .junk, .junk, .junk, .junk, .junk, .junk, .junk, .junk, .junk, .junk, .junk, .junk, .junk, .junk, .junk, .junk, .junk, .junk, .junk, .junk, .junk, .junk, .junk, .junk, .junk, .junk, .junk, .junk, .junk, .junk, .junk, .junk, .junk, .junk, .junk, .junk, .junk, .junk, .junk, .junk, .junk, .junk, .junk, .junk, .junk, .junk, .junk, .junk, .junk, .junk, .junk, .junk, .junk, .junk] st := by
  intro n
  induction n with
  | zero =>
    intro i k fr hn h
    apply p3_1
    rcases h with ⟨h1, _⟩ | ⟨h1, _, h2⟩
    · omega
    · simp only [w3_1, lenStr_str, bd_some, bInt_int, lint_leq, bsel_dec]
      refine ⟨fun h => by omega, fun _ => ?_⟩
      exact law_end ha (by omega) hb hR (by rw [h2, Bool.and_true])
  | succ n ih =>
    intro i k fr hn h
    apply p3_1
    rcases h with ⟨h1, h2, hk, h3⟩ | ⟨h1, _, _⟩
    · have hw := wrap1 (show i < 1000000 by omega)
      have hwk := wrap1 (show k < 1000000 by omega)
      have hpart := slStr_part (s := s) h2 h1
      generalize hcur : (s.drop fr).take (i - fr) = cur at *
      -- a piece that is whole
      have piece : ∀ (more : List (List UInt8)), matchW (splitB 46 s) a.words = matchW (cur :: more) (a.words.drop k) →
          (k < 3 → (matchW (splitB 46 s) a.words = matchW more (a.words.drop (k + 1))) → LT Tryd.prog [.tmp 4] (pointN Tryd.f3 1) R [.str s, .junk, .junk, .ptr b 0, .junk, .ptr m 0, .bool a.right, i64 (k + 1 : Nat), i64 (i + 1 : Nat), i64 (i + 1 : Nat), .junk, .junk, .junk, .junk, .junk, .junk, .junk, .junk, .junk, .junk, .junk, .junk, .junk, .junk, .junk, .junk, .junk, .junk, .junk, .junk, .junk, .junk, .junk, .junk, .junk, .junk, .junk, .junk, .junk, .junk, .junk, .junk, .junk, .junk, .junk, .junk, .junk, .junk, .junk, .junk, .junk, .junk, .junk, .junk, .junk, .junk, .junk, .junk, .junk, .junk, .junk, .junk, .junk, .junk, .junk, .junk, .junk, .junk, .junk, .junk] st) →
          bd (lint BinOp.gtr .i64 k 2) fun v29 =>
            bsel v29 (bd (ldA st (.ptr b 0) 4) fun v30 => LCalls Tryd.prog 12 [.str s, v30] st fun v31 st32 => bd (bBool BinOp.eql v31 (LV.bool false)) fun v33 => R v33 st32)
              (bd (lstr BinOp.neq cur [42]) fun v34 =>
                bsel v34
                  (bd (ixArr 3 1 (.ptr m 0) (i64 k)) fun v36 =>
                    bd (ld1 st v36) fun v37 =>
                      bd (bStr BinOp.neq (.str cur) v37) fun v38 =>
                        bsel v38
                          (bd (ldA st (.ptr b 0) 4) fun v39 => LCalls Tryd.prog 12 [.str s, v39] st fun v40 st41 => bd (bBool BinOp.eql v40 (LV.bool false)) fun v42 => R v42 st41)
                          (LT Tryd.prog [.tmp 4] (pointN Tryd.f3 1) R [.str s, .junk, .junk, .ptr b 0, .junk, .ptr m 0, .bool a.right, i64 (k + 1 : Nat), i64 (i + 1 : Nat), i64 (i + 1 : Nat), .junk, .junk, .junk, .junk, .junk, .junk, .junk, .junk, .junk, .junk, .junk, .junk, .junk, .junk, .junk, .junk, .junk, .junk, .junk, .junk, .junk, .junk, .junk, .junk, .junk, .junk, .junk, .junk, .junk, .junk, .junk, .junk, .junk, .junk, .junk, .junk, .junk, .junk, .junk, .junk, .junk, .junk, .junk, .junk, .junk, .junk, .junk, .junk, .junk, .junk, .junk, .junk, .junk, .junk, .junk, .junk, .junk, .junk, .junk, .junk] st))
                  (LT Tryd.prog [.tmp 4] (pointN Tryd.f3 1) R [.str s, .junk, .junk, .ptr b 0, .junk, .ptr m 0, .bool a.right, i64 (k + 1 : Nat), i64 (i + 1 : Nat), i64 (i + 1 : Nat), .junk, .junk, .junk, .junk, .junk, .junk, .junk, .junk, .junk, .junk, .junk, .junk, .junk, .junk, .junk, .junk, .junk, .junk, .junk, .junk, .junk, .junk, .junk, .junk, .junk, .junk, .junk, .junk, .junk, .junk, .junk, .junk, .junk, .junk, .junk, .junk, .junk, .junk, .junk, .junk, .junk, .junk, .junk, .junk, .junk, .junk, .junk, .junk, .junk, .junk, .junk, .junk, .junk, .junk, .junk, .junk, .junk, .junk, .junk, .junk] st)) := by
        intro more hm3 next
        have fin : matchW (cur :: more) (a.words.drop k) = false → bd (ldA st (.ptr b 0) 4) fun v30 => LCalls Tryd.prog 12 [.str s, v30] st fun v31 st32 => bd (bBool BinOp.eql v31 (LV.bool false)) fun v33 => R v33 st32 :=
          fun e => law_end ha (by omega) hb hR (by rw [hm3, e, Bool.and_false])
        simp only [lint_gtr, bd_some, bsel_dec]
        refine ⟨fun hk2 => fin ?_, fun hk2 => ?_⟩
        · have : k = 3 := by omega
          subst this; rfl
        · have hk3 : k < 3 := by omega
          have hwl : k < a.words.length := by simp [Ad.words]; omega
          have hdk : a.words.drop k = a.words[k] :: a.words.drop (k + 1) := List.drop_eq_getElem_cons hwl
          have hg : [LV.str a.p, .str a.k, .str a.n, i64 a.ix][k]? = some (.str a.words[k]) := by
            have e1 : [LV.str a.p, .str a.k, .str a.n, i64 a.ix] = a.words.map LV.str ++ [i64 a.ix] := rfl
            rw [e1, List.getElem?_append_left (by simpa using hwl)]
            simp
          have hix : ixArr 3 1 (.ptr m 0) (i64 k) = some (.ptr m k) := by simp [ixArr]; omega
          simp only [lstr_neq, bd_some, bsel_bool, hix, ld1_of hm, hg, bStr_str]
          refine ⟨fun e1 => ⟨fun e2 => fin ?_, fun e2 => next hk3 ?_⟩, fun e1 => next hk3 ?_⟩
          · have e1 : (cur == [42]) = false := by simpa using e1
            have e2 : (cur == a.words[k]) = false := by simpa using e2
            rw [hdk]; simp [matchW, e1, e2]
          · have e2 : (cur == a.words[k]) = true := by simpa using e2
            rw [hm3, hdk]; simp [matchW, e2]
          · have e1 : (cur == [42]) = true := by simpa using e1
            rw [hm3, hdk]; simp [matchW, e1]
      simp only [w3_1, lenStr_str, bd_some, bInt_int, lint_leq, lint_lss, bsel_dec]
      refine ⟨fun _ => ⟨fun hlt => ?_, fun hlt => ?_⟩, fun h => by omega⟩
      · have hlt : i < s.length := by omega
        have hd : s.drop i = s[i] :: s.drop (i + 1) := List.drop_eq_getElem_cons hlt
        rw [ixStr_at (List.getElem?_eq_getElem hlt), bd_some]
        simp only [bInt_int, lint_neq, bd_some, bsel_bool, bne_iff_ne, lint_add, hw]
        refine ⟨fun e => ?_, fun e => ?_⟩
        · -- within a piece
          refine ih (i + 1) k fr (by omega) (.inl ⟨by omega, by omega, hk, ?_⟩)
          rw [h3, hd, glue_cons (u8_dot.1 e)]
          have : (s.drop fr).take (i + 1 - fr) = cur ++ [s[i]] := by
            rw [← hcur, show i + 1 - fr = (i - fr) + 1 by omega, List.take_add_one, List.getElem?_drop, show fr + (i - fr) = i by omega, List.getElem?_eq_getElem hlt]
            rfl
          rw [this]
        · have hdot : s[i] = 46 := by
            refine Classical.byContradiction fun hc => ?_
            have := u8_dot.2 hc
            simp at e
            exact this e
          rw [hpart, bd_some]
          simp only [fAddr_ptr, Nat.zero_add, bd_some, hwk, bStr_str]
          refine piece (splitB 46 (s.drop (i + 1))) (by rw [h3, hd, hdot, glue_dot]) fun hk3 hmm => ?_
          refine ih (i + 1) (k + 1) (i + 1) (by omega) (.inl ⟨by omega, Nat.le_refl _, by omega, ?_⟩)
          rw [hmm, Nat.sub_self, List.take_zero, glue_nil splitB_ne]
      · have hie : i = s.length := by omega
        have hd : s.drop i = [] := List.drop_eq_nil_of_le (by omega)
        rw [hpart, bd_some]
        simp only [lint_add, hw, fAddr_ptr, Nat.zero_add, bd_some, hwk, bStr_str]
        refine piece [] (by rw [h3, hd]; simp [splitB, glue]) fun hk3 hmm => ?_
        exact ih (i + 1) (k + 1) (i + 1) (by omega) (.inr ⟨by omega, by omega, hmm⟩)
    · omega

/-- AddressMatches -/
theorem matches_law (hR : ∀ st', R (.bool true) st') : LCalls Tryd.prog 3 [.str s, a.lv] st R := by
  apply c3
  have aw : ∀ {K : LV → LState → Prop} {s1 : LState}, K (.bool true) s1 → LCalls Tryd.prog 9 [] s1 K := fun h => lrunX_forget cm_mixed ext_ok awake_run rfl rfl h
  have lda : ∀ {s1 : LState}, Fr (st ++ [LObj.cells .rw [LV.str a.p, .str a.k, .str a.n, i64 a.ix]]) s1 (fun _ => False) → ldA s1 (.ptr st.length 0) 4 = some a.lv := fun hf => by
    rw [ldA_of (hf.get box_get fun h => h) (by simp)]; rfl
  simp only [w3, box_ad, bd2_some, lenStr_str, bd_some, bInt_int, lint_gtr, bsel_dec]
  refine ⟨fun _ => aw (hR _), fun hl => ?_⟩
  rw [lda Fr.refl, bd_some]
  refine great_spec fun g s1 hg f1 => ?_
  cases g with
  | true => rw [bsel_true]; exact aw (hR _)
  | false =>
    have ha := hg rfl
    rw [bsel_false]
    refine aw ?_
    simp only [lun_not, Bool.not_true, bd_some, bsel_false]
    rw [lda f1, bd_some]
    refine of_spec fun s2 f2 => ?_
    have f12 := f1.trans f2 fun _ _ h => h
    rw [nw_eq]
    refine (show bd2 (lmk (stV _ 4 _ (.agg [.str a.p, .str a.k, .str a.n, i64 a.ix]))) _ from ?_)
    rw [stV_agg (n := 4) get_app_new (by simp) rfl rfl]
    simp only [lmk_some, bd2_some]
    have hmm : ((s2 ++ [LObj.cells .rw [LV.str [], .str [], .str [], .int .i64 0]]).set s2.length (.cells .rw (splice [LV.str [], .str [], .str [], .int .i64 0] 0 [.str a.p, .str a.k, .str a.n, i64 a.ix])))[s2.length]? = some (.cells .rw [.str a.p, .str a.k, .str a.n, i64 a.ix]) := by
      rw [get_set get_app_new]; rfl
    have f3 : Fr s2 ((s2 ++ [LObj.cells .rw [LV.str [], .str [], .str [], .int .i64 0]]).set s2.length (.cells .rw (splice [LV.str [], .str [], .str [], .int .i64 0] 0 [.str a.p, .str a.k, .str a.n, i64 a.ix]))) (fun _ => False) :=
      Fr.app.trans (Fr.set (S := fun j => j = s2.length) rfl) fun j hj e => by omega
    generalize ((s2 ++ [LObj.cells .rw [LV.str [], .str [], .str [], .int .i64 0]]).set s2.length (.cells .rw (splice [LV.str [], .str [], .str [], .int .i64 0] 0 [.str a.p, .str a.k, .str a.n, i64 a.ix]))) = s3 at *
    have f123 := f12.trans f3 fun _ _ h => h
    rw [ldA_of hmm (by simp)]
    refine (show bd (some a.lv) _ from ?_)
    rw [bd_some]
    refine refRight_spec ha fun s4 f4 => ?_
    have f1234 := f123.trans f4 fun _ _ h => h
    exact law_loop ha (by omega) (f1234.get box_get fun h => h) (f4.get hmm fun h => h) hR _ 0 0 0 rfl (.inl ⟨by omega, Nat.le_refl _, by omega, by simp [glue_nil splitB_ne]⟩)

end
end Go.Proofs.YtkjmpjaahgficaaDoor
