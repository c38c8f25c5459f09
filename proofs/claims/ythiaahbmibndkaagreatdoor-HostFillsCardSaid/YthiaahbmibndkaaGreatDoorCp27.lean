/- The clean machine, part 27: slices.Delete of one element, as its code has it. -/
import Derived.Test.YthiaahbmibndkaaGreatDoorCp26
namespace Go.CP

theorem optNat_nat {k : IntKind} {n : Nat} : optNat (some (.int k (n : Int))) = some (some n) := by simp [optNat]
theorem optNat_none : optNat none = some none := rfl

/-- What slices.Delete does. -/
def wDelete (sz bytes : Nat) (zero : List LV) (a0 a1 a2 : LV) (R : LV → LState → Prop) (st : LState) : Prop :=
  bd (lenSl a0) fun v0 =>
    bd (ob3 (some a1) (some a2) (some v0) fun l h m => slRoom st sz a0 l h m) fun _ =>
      bd (bInt BinOp.eql a1 a2) fun v2 =>
        bsel v2 (R a0 st)
          (bd (lenSl a0) fun v3 =>
            bd (ob3 none (some a1) none fun l h m => slRoom st sz a0 l h m) fun v4 =>
              bd (ob3 (some a2) none none fun l h m => slRoom st sz a0 l h m) fun v5 =>
                bd2 (lappend st sz bytes .rw v4 v5) fun v6 st7 =>
                  bd (lenSl v6) fun v8 =>
                    bd (ob3 (some v8) (some v3) none fun l h m => slRoom st7 sz v6 l h m) fun v9 =>
                      bd2 (lmk (lclear st7 zero v9)) fun _ st11 => R v6 st11)

/-- One element goes. -/
theorem wDelete_spec {sz bytes : Nat} {zero : List LV} {R : LV → LState → Prop} {st : LState} {f : Option Nat} {a e b : List LV} {i n : Nat} (hz : zero.length = sz) (hz1 : zero.all LV.one = true) (hsz : 0 < sz)
    (ho : Own st f sz (i + 1 + n) (a ++ e ++ b)) (ha : a.length = i * sz) (he : e.length = sz) (hb : b.all LV.one = true)
    (h : ∀ st', Own st' f sz (i + n) (a ++ b) → Fr st st' (fun j => f = some j) → R (osl f sz (i + n)) st') :
    wDelete sz bytes zero (osl f sz (i + 1 + n)) (.int .i64 i) (.int .i64 (i + 1 : Nat)) R st := by
  obtain ⟨hlen, ho⟩ := ho
  cases f with
  | none => simp only at ho; omega
  | some o =>
    obtain ⟨rest, hg⟩ := ho
    have hbl : b.length = n * sz := by
      simp only [List.length_append, ha, he, Nat.add_mul, Nat.one_mul] at hlen; omega
    have hne : (((i : Nat) : Int) == ((i + 1 : Nat) : Int)) = false := by simp; omega
    have e1 : ob3 (some (.int .i64 (i : Nat))) (some (.int .i64 (i + 1 : Nat))) (some (.int .i64 (i + 1 + n : Nat))) (fun l h m => slRoom st sz (.sl o 0 (i + 1 + n) (.rest sz)) l h m)
        = some (.sl o (if i + 1 + n = i then 0 else 0 + i * sz) (i + 1 - i) (.ex (i + 1 + n - i))) := by
      have c1 : i + 1 ≤ i + 1 + n := by omega
      have c2 : i ≤ i + 1 := by omega
      simp only [ob3, optNat_nat, slRoom, slSl, lslice, Option.getD_some, c1, c2, Nat.le_refl, Option.isSome_some, and_self, if_true]
    have e2 : ob3 none (some (.int .i64 (i : Nat))) none (fun l h m => slRoom st sz (.sl o 0 (i + 1 + n) (.rest sz)) l h m) = some (.sl o 0 i (.rest sz)) := by
      have c1 : i ≤ i + 1 + n := by omega
      simp only [ob3, optNat_nat, optNat_none, slRoom, slSl, lslice, Option.getD_some, Option.getD_none, c1, hsz, Nat.zero_le, and_self, if_true, Nat.sub_zero]
    have e3 : ob3 (some (.int .i64 (i + 1 : Nat))) none none (fun l h m => slRoom st sz (.sl o 0 (i + 1 + n) (.rest sz)) l h m) = some (if 0 < n then .sl o ((i + 1) * sz) n (.rest sz) else .emp) := by
      have c1 : i + 1 ≤ i + 1 + n := by omega
      have c2 : i + 1 < i + 1 + n ↔ 0 < n := by omega
      have c3 : i + 1 + n - (i + 1) = n := by omega
      simp only [ob3, optNat_nat, optNat_none, slRoom, slSl, lslice, if_true, Option.getD_some, Option.getD_none, hsz, c1, Nat.le_refl, and_self, Nat.zero_add, c2, c3, Nat.succ_ne_zero, if_false, Nat.add_one_ne_zero]
      split <;> rfl
    have hcells : i * sz + sz + n * sz + rest.length = (a ++ e ++ b ++ rest).length := by simp only [List.length_append, ha, he, hbl]
    -- the store behind append
    have app : ∃ st7, lappend st sz bytes .rw (.sl o 0 i (.rest sz)) (if 0 < n then .sl o ((i + 1) * sz) n (.rest sz) else .emp) = some (.sl o 0 (i + n) (.rest sz), st7) ∧
        Fr st st7 (fun j => some o = some j) ∧ ∃ e', e'.length = sz ∧ st7[o]? = some (.cells .rw (a ++ b ++ e' ++ rest)) := by
      by_cases hn : 0 < n
      · rw [if_pos hn]
        have hs : lsrc st sz (.sl o ((i + 1) * sz) n (.rest sz)) = some (n, b) := by
          have c : (i + 1) * sz + n * sz ≤ (a ++ e ++ b ++ rest).length := by rw [← hcells, Nat.add_mul]; omega
          simp only [lsrc, hg, c, if_true]
          rw [show (i + 1) * sz = (a ++ e).length by simp [ha, he, Nat.add_mul], List.append_assoc (a ++ e), List.drop_left, ← hbl, List.take_left]
        refine ⟨st.set o (.cells .rw (splice (a ++ e ++ b ++ rest) (0 + i * sz) b)), ?_, Fr.set rfl, ?_⟩
        · have c : 0 + (i + n) * sz ≤ (a ++ e ++ b ++ rest).length := by rw [← hcells, Nat.add_mul]; omega
          have hn0 : ¬ n = 0 := by omega
          simp only [lappend, hs, hn0, if_false, hg, hb, and_self, if_true, c, Md.w_rw']
        · -- a ++ b ++ (what is left of e ++ b)
          have h1 : splice (a ++ e ++ b ++ rest) (0 + i * sz) b = a ++ b ++ (e ++ b ++ rest).drop b.length := by
            rw [Nat.zero_add, ← ha, List.append_assoc a e b, List.append_assoc a (e ++ b) rest, splice_app]
          refine ⟨(e ++ b).drop b.length, by simp [he], ?_⟩
          rw [get_set hg, h1, List.drop_append_of_le_length (by simp)]
          simp only [List.append_assoc]
      · have hn0 : n = 0 := by omega
        subst hn0
        have hb0 : b = [] := by simpa using hbl
        subst hb0
        exact ⟨st, by simp [lappend, lsrc], Fr.refl, e, he, by simpa using hg⟩
    obtain ⟨st7, ha7, fr7, e', he', hg7⟩ := app
    have hcells7 : i * sz + n * sz + sz + rest.length = (a ++ b ++ e' ++ rest).length := by simp only [List.length_append, ha, he', hbl]
    have e4 : ∃ k, k = (i + n) * sz ∧ ob3 (some (.int .i64 (i + n : Nat))) (some (.int .i64 (i + 1 + n : Nat))) none (fun l h m => slRoom st7 sz (.sl o 0 (i + n) (.rest sz)) l h m) = some (.sl o k 1 (.rest sz)) := by
      refine ⟨_, rfl, ?_⟩
      have c1 : ¬ i + 1 + n ≤ i + n := by omega
      have c2 : (i + 1 + n) * sz ≤ (a ++ b ++ e' ++ rest).length := by rw [← hcells7, Nat.add_mul, Nat.add_mul]; omega
      have c3 : i + n ≤ i + 1 + n := by omega
      have c4 : i + n < i + 1 + n := by omega
      have c5 : i + 1 + n - (i + n) = 1 := by omega
      simp only [ob3, optNat_nat, optNat_none, slRoom, slSl, lslice, if_true, Option.getD_some, hsz, c1, if_false, hg7, c2, and_self, c3, Nat.le_refl, c4, c5, Nat.zero_add]
      split
      · rename_i h0; rw [h0]; simp; omega
      · rfl
    obtain ⟨k, hk, e4⟩ := e4
    have hclear : lclear st7 zero (.sl o k 1 (.rest sz)) = some (st7.set o (.cells .rw (a ++ b ++ zero ++ rest))) := by
      have c : k + 1 * zero.length ≤ (a ++ b ++ e' ++ rest).length := by rw [← hcells7, hk, hz, Nat.add_mul]; omega
      simp only [lclear, hg7, c, hz1, and_self, if_true, Md.w_rw']
      have h1 : splice (a ++ b ++ e' ++ rest) k (List.replicate 1 zero).flatten = a ++ b ++ zero ++ rest := by
        rw [show k = (a ++ b).length by simp [hk, ha, hbl, Nat.add_mul], show (List.replicate 1 zero).flatten = zero by simp, List.append_assoc (a ++ b), splice_app, hz, ← he', List.drop_left]
      rw [h1]
    unfold wDelete
    simp only [osl, lenSl_sl, bd_some, e1, bInt_int, lint_eql, hne, bsel_false, e2, e3, ha7, bd2_some, e4, hclear, lmk_some]
    refine h _ ⟨by simp [ha, hbl, Nat.add_mul], zero ++ rest, ?_⟩ (fr7.trans (Fr.set rfl) fun _ _ h => congrArg some h)
    rw [get_set hg7]; simp only [List.append_assoc]

end Go.CP
