/- AddressMatches, over the clean machine. -/
import Derived.Test.YtkjmpjaahgficaaDoorBoS
namespace Go.Proofs.YtkjmpjaahgficaaDoor
open Go Go.CO
set_option maxRecDepth 100000

variable {R : LV → LState → Prop} {st : LState}

def extK : List (FuncId × ExtK) := [(75, .count), (106, .indexByte), (82, .same), (83, .noZero 5)]
theorem ext_ok : OraOk Tryd.prog (extT extK) := extT_ok fun p hp => by
  simp only [extK, List.mem_cons, List.not_mem_nil, or_false] at hp
  rcases hp with rfl | rfl | rfl | rfl
  · exact ⟨Tryd.f75, Tryd.func75, by kernel_rfl, by kernel_rfl, by kernel_rfl, (show Extern.find Tryd.f75 = some Extern.BytealgCount.count by kernel_rfl)⟩
  · exact ⟨Tryd.f106, Tryd.func106, by kernel_rfl, by kernel_rfl, by kernel_rfl, (show Extern.find Tryd.f106 = some Extern.BytealgIndexByte.indexByte by kernel_rfl)⟩
  · exact ⟨Tryd.f82, Tryd.func82, by kernel_rfl, by kernel_rfl, by kernel_rfl, (show Extern.find Tryd.f82 = some Extern.AbiNoEscape.same by kernel_rfl)⟩
  · exact ⟨Tryd.f83, Tryd.func83, by kernel_rfl, by kernel_rfl, by kernel_rfl, #[3], 71, by kernel_rfl, by kernel_rfl⟩

theorem awake_run : (lrunX Tryd.prog (extT extK) 100000 60 9 [] []).map (·.1) = some (.bool true) := by kernel_rfl

theorem awake_spec (h : R (.bool true) st) : LCalls Tryd.prog 9 [] st R := lrunX_forget cm_mixed ext_ok awake_run rfl rfl h

theorem bBool_eql {a b : Bool} : bBool .eql (.bool a) (.bool b) = some (.bool (a == b)) := by cases a <;> cases b <;> rfl
theorem lmins_two {k : IntKind} {a b : Int} : lmins [.int k a, .int k b] = some (.int k (if b < a then b else a)) := rfl

/-- strings.Index of one byte -/
theorem index_spec {s : List UInt8} (h : R (i64 (Lib.indexByte s 46)) st) : LCalls Tryd.prog 56 [.str s, .str [46]] st R := by
  apply c56
  apply c76
  have ib : ∀ {K : LV → LState → Prop}, K (i64 (Lib.indexByte s 46)) st → LCalls Tryd.prog 94 [.str s, u8 46] st K := by
    intro K hK
    apply c94
    exact indexByte_call (c := 46) Tryd.func106 (by kernel_rfl) (by kernel_rfl) (by kernel_rfl) (by kernel_rfl) hK
  simp only [w76, lenStr_str, List.length_cons, List.length_nil, Nat.zero_add, bd_some, bInt_int, lint_eql, bStr_str, lstr_eql]
  rw [show (((1 : Nat) : Int) == 0) = false from rfl, show (((1 : Nat) : Int) == 1) = true from rfl]
  simp only [bsel_false, bsel_true]
  rw [bsel_bool]
  refine ⟨fun e => ?_, fun _ => ?_⟩
  · have : [46] = s := beq_iff_eq.1 e
    subst this
    exact h
  · rw [show ixStr (.str [46]) (.int .i64 0) = some (u8 46) from rfl, bd_some]
    exact ib h

/-- strings.Count of one byte -/
theorem count_spec {s : List UInt8} (h : R (i64 (Lib.countByte s 46 : Nat)) st) : LCalls Tryd.prog 55 [.str s, .str [46]] st R := by
  apply c55
  simp only [w55, lenStr_str, List.length_cons, List.length_nil, Nat.zero_add, bd_some, bInt_int, lint_eql]
  rw [show (((1 : Nat) : Int) == 0) = false from rfl, show (((1 : Nat) : Int) == 1) = true from rfl]
  simp only [bsel_false, bsel_true]
  rw [show ixStr (.str [46]) (.int .i64 0) = some (u8 46) from rfl, bd_some]
  exact count_call (c := 46) Tryd.func75 (by kernel_rfl) (by kernel_rfl) (by kernel_rfl) (by kernel_rfl) h

theorem split_zero : ∀ {s : List UInt8}, Lib.countByte s 46 = 0 → splitB 46 s = [s]
  | [], _ => rfl
  | b :: l, h => by
    unfold Lib.countByte at h
    rw [List.count_cons] at h
    rw [splitB_cons]
    split at h
    · omega
    · rename_i e
      rw [if_neg e, split_zero (s := l) (by unfold Lib.countByte; omega)]

theorem set_at {A B : List LV} {x y : LV} {i : Nat} (h : A.length = i) : (A ++ x :: B).set i y = A ++ y :: B := by
  subst h
  induction A with
  | nil => rfl
  | cons a A ih => simp [ih]

def strs (l : List (List UInt8)) : List LV := l.map LV.str

theorem slStr_head {s : List UInt8} {m : Nat} (h : m ≤ s.length) : (ob3 none (some (i64 m)) none fun l h m => slStr (.str s) l h m) = some (.str (s.take m)) := by
  simp only [ob3, optNat, Int.natCast_nonneg, if_true, Int.toNat_natCast, slStr, Option.getD_none, Option.getD_some]
  rw [if_pos ⟨by omega, h⟩]; simp
theorem slStr_rest {s : List UInt8} {m : Nat} (h : m ≤ s.length) : (ob3 (some (i64 m)) none none fun l h m => slStr (.str s) l h m) = some (.str (s.drop m)) := by
  simp only [ob3, optNat, Int.natCast_nonneg, if_true, Int.toNat_natCast, slStr, Option.getD_none, Option.getD_some]
  rw [if_pos ⟨h, Nat.le_refl _⟩]
  congr 2
  exact List.take_of_length_le (by simp)
theorem slStr_part {s : List UInt8} {a b : Nat} (h : a ≤ b) (hb : b ≤ s.length) : (ob3 (some (i64 a)) (some (i64 b)) none fun l h m => slStr (.str s) l h m) = some (.str ((s.drop a).take (b - a))) := by
  simp only [ob3, optNat, Int.natCast_nonneg, if_true, Int.toNat_natCast, slStr, Option.getD_some]
  rw [if_pos ⟨h, hb⟩]

/-- The splitting loop. -/
theorem split_loop {s : List UInt8} {N o : Nat} (hN : N ≤ 1000) (hs : s.length ≤ 1000) (hR : ∀ st', st'[o]? = some (.cells .rw (strs (splitB 46 s))) → Fr st st' (fun j => j = o) → R (.sl o 0 (N + 1) (.ex (N + 1))) st') :
    ∀ (n i : Nat) (pre : List (List UInt8)) (rest : List UInt8) (s1 : LState), n = N - i → i ≤ N → pre.length = i → splitB 46 s = pre ++ splitB 46 rest → Lib.countByte rest 46 = N - i → rest.length ≤ s.length → Fr st s1 (fun j => j = o) →
      s1[o]? = some (.cells .rw (strs pre ++ List.replicate (N + 1 - i) (.str []))) → P43_1 (.str rest) (.str [46]) (i64 0) (i64 (N : Nat)) (.sl o 0 (N + 1) (.ex (N + 1))) (i64 (i : Nat)) R s1 := by
  intro n
  induction n with
  | zero =>
    intro i pre rest s1 hn hi hp hsp hc hrl hfr ho
    apply p43_1
    have hiN : i = N := by omega
    subst hiN
    have hw := wrap1 (show i < 1000000 by omega)
    have hix : ixSl 1 (.sl o 0 (i + 1) (.ex (i + 1))) (i64 i) = some (.ptr o i) := by rw [ixSl_of (by omega) (by omega)]; simp
    have hset : (strs pre ++ List.replicate (i + 1 - i) (LV.str [])).set i (.str rest) = strs (splitB 46 s) := by
      rw [hsp, split_zero (by omega), show i + 1 - i = 1 by omega]
      simp only [strs, List.map_append, List.replicate_one, List.map_cons, List.map_nil]
      exact set_at (by simp [hp])
    simp only [w43_1, bInt_int, lint_lss, bd_some, bsel_dec]
    refine ⟨fun h => by omega, fun _ => ?_⟩
    rw [hix, bd_some, stV_of ho (by simp [strs, hp]) rfl, hset]
    simp only [lmk_some, bd2_some, lint_add, hw, bd_some]
    rw [show (ob3 none (some (i64 ((i + 1 : Nat) : Int))) none fun l h m => slRoom (s1.set o (.cells .rw (strs (splitB 46 s)))) 1 (.sl o 0 (i + 1) (.ex (i + 1))) l h m) = some (.sl o 0 (i + 1) (.ex (i + 1))) by
      simp only [ob3, optNat, Int.natCast_nonneg, if_true, Int.toNat_natCast, slRoom, slSl, lslice, Option.getD_none, Option.getD_some]
      rw [if_pos ⟨by omega, by omega⟩]
      simp]
    rw [bd_some]
    exact hR _ (get_set ho) (hfr.trans (Fr.set (S := fun j => j = o) rfl) fun _ _ h => h)
  | succ n ih =>
    intro i pre rest s1 hn hi hp hsp hc hrl hfr ho
    apply p43_1
    have hw := wrap1 (show i < 1000000 by omega)
    have hix : ixSl 1 (.sl o 0 (N + 1) (.ex (N + 1))) (i64 i) = some (.ptr o i) := by rw [ixSl_of (by omega) (by omega)]; simp
    simp only [w43_1, bInt_int, lint_lss, bd_some, bsel_dec]
    refine ⟨fun _ => ?_, fun h => by omega⟩
    refine index_spec ?_
    have hne : Lib.indexByte rest 46 ≠ -1 := by
      intro e
      have h1 := split_none e
      have h2 := splitB_len (c := 46) (s := rest)
      rw [h1, hc] at h2
      simp at h2; omega
    have hge := Lib.indexByte_ge rest 46
    obtain ⟨m, hm⟩ : ∃ m : Nat, Lib.indexByte rest 46 = m := ⟨(Lib.indexByte rest 46).toNat, by omega⟩
    obtain ⟨h1, h2⟩ := split_some hm
    rw [hm]
    have hw0 : IntKind.i64.wrap ((m : Int) + 0) = (m : Nat) := by rw [wrap_i64 (by omega) (by omega)]; simp
    have hw1 := wrap1 (show m < 1000000 by omega)
    simp only [bInt_int, lint_lss, bd_some, bsel_dec, lint_add, hw0]
    refine ⟨fun h => by omega, fun _ => ?_⟩
    rw [slStr_head (by omega), bd_some, hix, bd_some, stV_of ho (by simp [strs, hp]; omega) rfl]
    simp only [lmk_some, bd2_some, lenStr_str, List.length_cons, List.length_nil, Nat.zero_add, bd_some, bInt_int, lint_add]
    rw [show ((1 : Nat) : Int) = 1 from rfl, hw1, slStr_rest (by omega), bd_some, hw]
    have hset : (strs pre ++ List.replicate (N + 1 - i) (LV.str [])).set i (.str (rest.take m)) = strs (pre ++ [rest.take m]) ++ List.replicate (N + 1 - (i + 1)) (.str []) := by
      rw [show N + 1 - i = (N + 1 - (i + 1)) + 1 by omega, List.replicate_succ]
      simp only [strs, List.map_append, List.map_cons, List.map_nil]
      rw [set_at (by simp [hp])]
      simp
    rw [hset]
    refine ih (i + 1) (pre ++ [rest.take m]) (rest.drop (m + 1)) _ (by omega) (by omega) (by simp [hp]) (by rw [hsp, h1]; simp) ?_ (by simp; omega) (hfr.trans (Fr.set (S := fun j => j = o) rfl) fun _ _ h => h) (get_set ho)
    have h3 := splitB_len (c := 46) (s := rest)
    have h4 := splitB_len (c := 46) (s := rest.drop (m + 1))
    rw [h1] at h3
    simp at h3
    omega

/-- strings.Split at '.' -/
theorem split_spec {s : List UInt8} (hs : s.length ≤ 1000) (h : ∀ st' o, st'[o]? = some (.cells .rw (strs (splitB 46 s))) → Fr st st' (fun _ => False) → R (.sl o 0 (splitB 46 s).length (.ex (splitB 46 s).length)) st') :
    LCalls Tryd.prog 23 [.str s, .str [46]] st R := by
  apply c23
  apply c43
  have hc : Lib.countByte s 46 ≤ s.length := List.count_le_length
  simp only [w43, bInt_int, lint_eql, bd_some, bStr_str, lstr_eql, lint_lss]
  rw [show ((-1 : Int) == 0) = false from rfl, show (([46] : List UInt8) == []) = false from rfl, show decide ((-1 : Int) < 0) = true from rfl]
  simp only [bsel_false, bsel_true]
  refine count_spec ?_
  generalize hN : Lib.countByte s 46 = N at hc
  simp only [bInt_int, lint_add, bd_some, lenStr_str, wrap1 (show N < 1000000 by omega), wrap1 (show s.length < 1000000 by omega), lmins_two]
  rw [if_neg (by omega)]
  have hmk : lmakeSl 16 [LV.str []] st (i64 ((N + 1 : Nat) : Int)) (i64 ((N + 1 : Nat) : Int)) = some (.sl st.length 0 (N + 1) (.ex (N + 1)), st ++ [.cells .rw (List.replicate (N + 1) (.str []))]) := by
    simp only [lmakeSl]
    rw [if_pos ⟨by omega, by omega, by omega, by omega⟩]
    have hfl : ∀ n : Nat, (List.replicate n [LV.str []]).flatten = List.replicate n (LV.str []) := by
      intro n
      induction n with
      | zero => rfl
      | succ n ih => rw [List.replicate_succ, List.flatten_cons, ih, List.replicate_succ]; rfl
    rw [Int.toNat_natCast, hfl]
  have hws : IntKind.i64.wrap (((N + 1 : Nat) : Int) - 1) = (N : Nat) := by rw [wrap_i64 (by omega) (by omega)]; omega
  rw [hmk, bd2_some, lint_sub, hws, bd_some]
  have hl := splitB_len (c := 46) (s := s)
  rw [hN] at hl
  rw [hl] at h
  refine split_loop (s := s) (st := st ++ [.cells .rw (List.replicate (N + 1) (.str []))]) (by omega) hs (fun st' h1 h2 => h st' _ h1 ?_) _ 0 [] s _ rfl (by omega) rfl rfl (by omega) (Nat.le_refl _) Fr.refl (by simp [strs])
  exact Fr.app.trans h2 fun j hj e => by omega

/-! ### patterns -/

def Ad.words (a : Ad) : List (List UInt8) := [a.p, a.k, a.n]

def matchW : List (List UInt8) → List (List UInt8) → Bool
  | [], _ => true
  | p :: ps, w :: ws => (p == [42] || p == w) && matchW ps ws
  | _ :: _, [] => false

theorem matchW_long : ∀ {ps ws : List (List UInt8)}, ws.length < ps.length → matchW ps ws = false
  | [], _, h => by simp at h
  | _ :: _, [], _ => rfl
  | p :: ps, w :: ws, h => by simp [matchW, matchW_long (ps := ps) (ws := ws) (by simpa using h)]

theorem match_loop {ps ws : List (List UInt8)} {o1 o2 : Nat} (hps : st[o1]? = some (.cells .rw (strs ps))) (hws : st[o2]? = some (.cells .rw (strs ws))) (hw3 : ws.length = 3) (hl : ps.length ≤ 3) :
    ∀ (n i : Nat), n = ps.length - i → i ≤ ps.length → R (.bool (matchW (ps.drop i) (ws.drop i))) st → P12_1 (.sl o2 0 3 (.ex 3)) (.sl o1 0 ps.length (.ex ps.length)) (i64 ps.length) (i64 (i : Nat)) R st := by
  intro n
  induction n with
  | zero =>
    intro i hn hi h
    apply p12_1
    simp only [w12_1, bInt_int, lint_lss, bd_some, bsel_dec]
    refine ⟨fun h => by omega, fun _ => ?_⟩
    rw [List.drop_eq_nil_of_le (by omega)] at h
    exact h
  | succ n ih =>
    intro i hn hi h
    apply p12_1
    have hip : i < ps.length := by omega
    have hiw : i < ws.length := by omega
    rw [List.drop_eq_getElem_cons hip, List.drop_eq_getElem_cons hiw] at h
    have g1 : (strs ps)[i]? = some (.str ps[i]) := by simp [strs, List.getElem?_eq_getElem hip]
    have g2 : (strs ws)[i]? = some (.str ws[i]) := by simp [strs, List.getElem?_eq_getElem hiw]
    have x1 : ixSl 1 (.sl o1 0 ps.length (.ex ps.length)) (i64 i) = some (.ptr o1 i) := by rw [ixSl_of (by omega) (by omega)]; simp
    have x2 : ixSl 1 (.sl o2 0 3 (.ex 3)) (i64 i) = some (.ptr o2 i) := by rw [ixSl_of (by omega) (by omega)]; simp
    simp only [w12_1, bInt_int, lint_lss, bd_some, bsel_dec]
    refine ⟨fun _ => ?_, fun h => by omega⟩
    simp only [x1, ld1_of hps, g1, x2, ld1_of hws, g2, bd_some, bStr_str, lstr_neq, bsel_bool, bInt_int, lint_add, wrap1 (show i < 1000000 by omega)]
    refine ⟨fun h1 => ⟨fun h2 => ?_, fun h2 => ?_⟩, fun h1 => ?_⟩
    · have e1 : (ps[i] == [42]) = false := by simpa using h1
      have e2 : (ps[i] == ws[i]) = false := by simpa using h2
      simpa [matchW, e1, e2] using h
    · have e2 : (ps[i] == ws[i]) = true := by simpa using h2
      exact ih (i + 1) (by omega) (by omega) (by simpa [matchW, e2] using h)
    · have e1 : (ps[i] == [42]) = true := by simpa using h1
      exact ih (i + 1) (by omega) (by omega) (by simpa [matchW, e1] using h)

/-- Match -/
theorem match_spec {a : Ad} {s : List UInt8} (ha : a.small) (hs : s.length ≤ 1000) (h : ∀ st', Fr st st' (fun _ => False) → R (.bool (a.right && matchW (splitB 46 s) a.words)) st') : LCalls Tryd.prog 12 [.str s, a.lv] st R := by
  apply c12
  have f0 : Fr st (st ++ [LObj.cells .rw [LV.str a.p, .str a.k, .str a.n, i64 a.ix]]) (fun _ => False) := Fr.app
  have lda : ∀ {s1 : LState}, Fr (st ++ [LObj.cells .rw [LV.str a.p, .str a.k, .str a.n, i64 a.ix]]) s1 (fun _ => False) → ldA s1 (.ptr st.length 0) 4 = some a.lv := fun hf => by
    rw [ldA_of (hf.get box_get fun h => h) (by simp)]; rfl
  simp only [w12, box_ad, bd2_some]
  rw [lda Fr.refl, bd_some]
  refine split_spec hs fun s1 o1 h1 f1 => ?_
  refine ⟨lda f1, ?_⟩
  refine words_spec fun s2 o2 h2 f2 => ?_
  have f12 := f1.trans f2 fun _ _ h => h
  rw [lda f12, bd_some]
  refine right_spec ha fun s3 f3 => ?_
  have f123 := f12.trans f3 fun _ _ h => h
  have h := h s3 (f0.trans f123 fun _ _ h => h)
  have h1 := (f2.trans f3 fun _ _ h => h).get h1 fun h => h
  have h2 := f3.get h2 fun h => h
  simp only [lun_not, bd_some, bsel_bool]
  refine ⟨fun e => ?_, fun e => ?_⟩
  · have e : a.right = false := by simpa using e
    simpa [e] using h
  · have e : a.right = true := by simpa using e
    simp only [lenSl_sl, bd_some, bInt_int, lint_gtr, bsel_dec]
    refine ⟨fun hl => ?_, fun hl => ?_⟩
    · rw [e, matchW_long (by simp [Ad.words]; omega)] at h
      exact h
    · exact match_loop h1 (ws := a.words) h2 rfl (by omega) _ 0 rfl (by omega) (by simpa [e] using h)

/-! ### the law -/

end Go.Proofs.YtkjmpjaahgficaaDoor
