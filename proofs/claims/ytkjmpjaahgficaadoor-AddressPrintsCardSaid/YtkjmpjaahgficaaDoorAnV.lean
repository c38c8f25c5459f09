/- Parse and Print of the program, over the clean machine. -/
import Derived.Test.YtkjmpjaahgficaaDoorAnQ
namespace Go.Proofs.YtkjmpjaahgficaaDoor
open Go Go.CN
set_option maxRecDepth 100000

variable {R : LV → LState → Prop} {st : LState}

theorem lbox_agg {l : List LV} : lbox st (.agg l) = some (.ptr st.length 0, st ++ [.cells .rw l]) := rfl

/-- What Parse answers. -/
def codeR : PR → LV
  | .bad a => .tup [.agg zad, i64 a, i64 4]
  | .ok x => .tup [x.lv, i64 0, i64 0]

section
variable {z : List LV} {r : LObj} {a b c d : LV} {x : List UInt8} {s : List UInt8} {l : List LV} {p : Nat}
theorem sw0 : stV (S3 st z r [a, b, c, d]) 1 (.ptr (st.length + 2) 0) (.str x) = some (S3 st z r [.str x, b, c, d]) := S3_w2 (by simp) rfl
theorem sw1 : stV (S3 st z r [a, b, c, d]) 1 (.ptr (st.length + 2) 1) (.str x) = some (S3 st z r [a, .str x, c, d]) := S3_w2 (by simp) rfl
theorem sw2 : stV (S3 st z r [a, b, c, d]) 1 (.ptr (st.length + 2) 2) (.str x) = some (S3 st z r [a, b, .str x, d]) := S3_w2 (by simp) rfl
theorem sw3 {v : Int} : stV (S3 st z r [a, b, c, d]) 1 (.ptr (st.length + 2) 3) (i64 v) = some (S3 st z r [a, b, c, i64 v]) := S3_w2 (by simp) rfl

theorem word_at (hs : s.length ≤ 1000) (hp : p ≤ s.length) (hR : R (.str (cut s p (word s p).1)) (S3 st z (rd s (p + (word s p).1) (word s p).2) l)) :
    LCalls Tryd.prog 25 [.ptr (st.length + 1) 0, .fn (.func 26) [] [], .fn (.func 27) [] [], .int .i64 20] (S3 st z (rd s p false) l) R := by
  refine run_spec kinds_word (most := 20) hs (by omega) (by omega) hp S3_1 ?_
  rw [S3_s1]
  exact hR

theorem must_at {ch : UInt8} (hs : s.length ≤ 1000) (hp : p ≤ s.length)
    (h1 : s[p]? = some ch → R (.tup []) (S3 st z (rd s (p + 1) false) l)) (h2 : s[p]? ≠ some ch → R (.tup []) (S3 st z (rd s p true) l)) :
    LCalls Tryd.prog 28 [.ptr (st.length + 1) 0, u8 ch] (S3 st z (rd s p false) l) R := by
  refine must_spec hp hs S3_1 (fun e => ?_) (fun e => ?_) <;> rw [S3_s1]
  · exact h1 e
  · exact h2 e

theorem is_at {ch : UInt8} (hs : s.length ≤ 1000) (hp : p ≤ s.length)
    (h1 : s[p]? = some ch → R (.bool true) (S3 st z (rd s (p + 1) false) l)) (h2 : s[p]? ≠ some ch → R (.bool false) (S3 st z (rd s p false) l)) :
    LCalls Tryd.prog 29 [.ptr (st.length + 1) 0, u8 ch] (S3 st z (rd s p false) l) R := by
  refine is_spec hp hs S3_1 (fun e => ?_) h2
  rw [S3_s1]
  exact h1 e
end

theorem get_le {s : List UInt8} {p : Nat} {c : UInt8} (h : s[p]? = some c) : p + 1 ≤ s.length := (List.getElem?_eq_some_iff.1 h).1

theorem codeR_end {s : List UInt8} {a : Nat} {x : Ad} : codeR (parseEnd s a x) = if a < s.length then .tup [.agg zad, i64 a, i64 4] else .tup [x.lv, i64 0, i64 0] := by
  unfold parseEnd; split <;> rfl

/-- Parse -/
theorem parse_spec {s : List UInt8} {o1 o3 : Nat} {u : TypeId} (hs : s.length ≤ 1000) (h1 : st[o1]? = some (noNum u)) (h3 : st[o3]? = some pow10)
    (hR : ∀ st', Fr st st' (fun _ => False) → R (codeR (parseB s)) st') : LCalls Tryd.prog 13 [.str s] st R := by
  apply c13
  have mkr : mkAgg (lfill (placesL [(0, 1), (1, 1), (2, 1)]) [LV.str [], LV.int IntKind.i64 0, LV.bool false] [(0, .str s)]) = some (.agg [.str s, i64 0, .bool false]) := rfl
  have mka : mkAgg (lfill (placesL [(0, 1), (1, 1), (2, 1), (3, 1)]) [LV.str [], LV.str [], LV.str [], LV.int IntKind.i64 0] [(3, LV.int IntKind.i64 (-1))]) = some (.agg [.str [], .str [], .str [], i64 (-1)]) := rfl
  have len1 : (st ++ [LObj.cells .rw zad]).length = st.length + 1 := by simp
  have len2 : ((st ++ [LObj.cells .rw zad]) ++ [LObj.cells .rw [.str s, i64 0, .bool false]]).length = st.length + 2 := by simp
  have mkS : ((st ++ [LObj.cells .rw zad]) ++ [LObj.cells .rw [.str s, i64 0, .bool false]]) ++ [LObj.cells .rw zad] = S3 st zad (rd s 0 false) zad := by simp [S3]
  have z1 : zad.length = 4 := rfl
  simp only [w13, nw_eq, mkr, mka, bd_some, lbox_agg, bd2_some, len1, len2, mkS]
  rw [S3_w2a (l := zad) (vs := [.str [], .str [], .str [], i64 (-1)]) rfl rfl rfl, lmk_some, bd2_some]
  refine word_at hs (Nat.zero_le _) ?_
  have l1 := word_le (s := s) (a := 0) (Nat.zero_le _)
  simp only [fAddr_ptr, Nat.zero_add, bd_some, sw0, lmk_some, bd2_some]
  unfold parseB at hR
  simp only [Nat.zero_add] at hR l1 ⊢
  -- a fault: nothing more is read
  have isb : ∀ {p : Nat} {l : List LV}, p ≤ s.length → l.length = 4 → l.all LV.one = true → (∀ st', Fr st st' (fun _ => False) → R (codeR (.bad p)) st') →
      e13 (.ptr st.length 0) (.ptr (st.length + 1) 0) (.ptr (st.length + 2) 0) (.str s) R (S3 st zad (rd s p true) l) :=
    fun hp hl ho h => e13_spec hp hl ho (fun _ => h) fun h => by cases h
  by_cases e1 : (word s 0).2 = true
  · rw [e1]
    rw [if_pos e1] at hR
    refine must_bad S3_1 (run_bad l1 S3_1 ?_)
    simp only [bd_some, sw1, lmk_some, bd2_some]
    refine must_bad S3_1 (run_bad l1 S3_1 ?_)
    simp only [bd_some, sw2, lmk_some, bd2_some]
    refine is_bad S3_1 ?_
    rw [bsel_false]
    exact isb l1 rfl rfl hR
  have e1' : (word s 0).2 = false := by simpa using e1
  rw [if_neg e1] at hR
  rw [e1']
  refine must_at (ch := 46) hs l1 (fun d1 => ?_) (fun d1 => ?_)
  rotate_left
  · rw [if_neg d1] at hR
    refine run_bad l1 S3_1 ?_
    simp only [bd_some, sw1, lmk_some, bd2_some]
    refine must_bad S3_1 (run_bad l1 S3_1 ?_)
    simp only [bd_some, sw2, lmk_some, bd2_some]
    refine is_bad S3_1 ?_
    rw [bsel_false]
    exact isb l1 rfl rfl hR
  rw [if_pos d1] at hR
  have l2 := get_le d1
  have l3 := word_le l2
  generalize (word s 0).1 + 1 = a at *
  refine word_at hs l2 ?_
  simp only [bd_some, sw1, lmk_some, bd2_some]
  unfold parse2 at hR
  by_cases e2 : (word s a).2 = true
  · rw [e2]
    rw [if_pos e2] at hR
    refine must_bad S3_1 (run_bad l3 S3_1 ?_)
    simp only [bd_some, sw2, lmk_some, bd2_some]
    refine is_bad S3_1 ?_
    rw [bsel_false]
    exact isb l3 rfl rfl hR
  have e2' : (word s a).2 = false := by simpa using e2
  rw [if_neg e2] at hR
  rw [e2']
  refine must_at (ch := 46) hs l3 (fun d2 => ?_) (fun d2 => ?_)
  rotate_left
  · rw [if_neg d2] at hR
    refine run_bad l3 S3_1 ?_
    simp only [bd_some, sw2, lmk_some, bd2_some]
    refine is_bad S3_1 ?_
    rw [bsel_false]
    exact isb l3 rfl rfl hR
  rw [if_pos d2] at hR
  have l4 := get_le d2
  have l5 := word_le l4
  generalize a + (word s a).1 + 1 = b at *
  refine word_at hs l4 ?_
  simp only [bd_some, sw2, lmk_some, bd2_some]
  unfold parse3 at hR
  by_cases e3 : (word s b).2 = true
  · rw [e3]
    rw [if_pos e3] at hR
    refine is_bad S3_1 ?_
    rw [bsel_false]
    exact isb l5 rfl rfl hR
  have e3' : (word s b).2 = false := by simpa using e3
  rw [if_neg e3] at hR
  rw [e3']
  unfold parseTail at hR
  refine is_at (ch := 91) hs l5 (fun d3 => ?_) (fun d3 => ?_)
  rotate_left
  · rw [if_neg d3] at hR
    rw [bsel_false]
    rw [codeR_end] at hR
    refine e13_spec l5 rfl rfl (fun h => ?_) (fun _ h => ?_)
    · rw [if_pos (by simpa using h)] at hR; exact hR
    · rw [if_neg (by omega)] at hR; exact hR
  rw [if_pos d3] at hR
  rw [bsel_true]
  have l6 := get_le d3
  generalize b + (word s b).1 + 1 = c at *
  rw [parseIx_eq] at hR
  refine index_spec l6 hs S3_1 (S3_old h1) (S3_old h3) (by have := get_lt h1; omega) (by have := get_lt h3; omega) fun v hv => ?_
  rw [S3_s1]
  simp only [bd_some, sw3, lmk_some, bd2_some]
  have l7 : (ixE s c).1 ≤ s.length := by
    have := digs_le l6
    unfold ixE
    split
    · exact this
    · split
      · exact l6
      · split
        · rename_i h; exact get_le h
        · exact this
  by_cases e4 : (ixE s c).2 = true
  · rw [if_pos e4] at hR
    rw [e4]
    exact isb l7 rfl rfl hR
  · have e4' : (ixE s c).2 = false := by simpa using e4
    rw [if_neg e4, codeR_end] at hR
    rw [e4', hv e4']
    refine e13_spec l7 rfl rfl (fun h => ?_) (fun _ h => ?_)
    · rw [if_pos (by simpa using h)] at hR; exact hR
    · rw [if_neg (by omega)] at hR; exact hR

/-! ### Print -/

theorem bStr_add {x y : List UInt8} (h : x.length + y.length ≤ 1000000) : bStr .add (.str x) (.str y) = some (.str (x ++ y)) := by
  simp only [bStr_str, lstr]
  rw [if_neg]
  show ¬ (((x.length + y.length : Nat) : Int) > 9223372036854775807)
  omega

theorem join3 {a b c : List UInt8} : Lib.join [a, b, c] [46] = a ++ [46] ++ b ++ [46] ++ c := by
  simp [Lib.join, List.intercalate]

theorem right_le {a : Ad} (h : a.right = true) : a.p.length ≤ 20 ∧ a.k.length ≤ 20 ∧ a.n.length ≤ 20 ∧ -1 ≤ a.ix ∧ a.ix ≤ 999 := by
  simp only [Ad.right, Bool.and_eq_true, decide_eq_true_eq] at h
  obtain ⟨h1, h2, h3, h4, h5⟩ := h
  exact ⟨(named_iff.1 h1).2.2, (named_iff.1 h2).2.2, (named_iff.1 h3).2.2, h4, h5⟩

/-- Print -/
theorem print_spec {a : Ad} {o3 : Nat} (hs : a.small) (h3 : st[o3]? = some pow10) (h : ∀ st', Fr st st' (fun _ => False) → R (.str (printB a)) st') : LCalls Tryd.prog 16 [a.lv] st R := by
  apply c16
  have lda : ldA (st ++ [LObj.cells .rw [LV.str a.p, .str a.k, .str a.n, .int .i64 a.ix]]) (.ptr st.length 0) 4 = some a.lv := by
    rw [ldA_of get_app_new (by simp)]; rfl
  simp only [w16, box_ad, bd2_some, lda, bd_some]
  refine right_spec hs fun s1 f1 => ?_
  have g1 : s1[st.length]? = some (.cells .rw [LV.str a.p, .str a.k, .str a.n, .int .i64 a.ix]) := f1.get get_app_new (by simp)
  have F1 : Fr st s1 (fun _ => False) := Fr.app.trans f1 fun _ _ h => h
  simp only [lun_not, bd_some, bsel_bool]
  refine ⟨fun e => ?_, fun e => ?_⟩
  · have e : a.right = false := by simpa using e
    have := h _ F1
    rwa [show printB a = [] by simp [printB, e]] at this
  · have e : a.right = true := by simpa using e
    obtain ⟨k1, k2, k3, k4, k5⟩ := right_le e
    have lda1 : ldA s1 (.ptr st.length 0) 4 = some a.lv := by rw [ldA_of g1 (by simp)]; rfl
    simp only [lda1, bd_some]
    refine words_spec fun s2 o ho f2 => ?_
    refine join_spec ho (by rw [join3]; simp; omega) ?_
    have F2 : Fr st s2 (fun _ => False) := F1.trans f2 fun _ _ h => h
    have g2 := f2.get g1 (by simp)
    simp only [fAddr_ptr, Nat.zero_add, bd_some, ld1_of g2, List.getElem?_cons_zero, List.getElem?_cons_succ, bInt_int, lint_neq, join3]
    rw [bsel_bool]
    have h := h _ F2
    refine ⟨fun e2 => ?_, fun e2 => ?_⟩
    · have e2 : a.ix ≠ -1 := by simpa using e2
      obtain ⟨n, hn⟩ : ∃ n : Nat, a.ix = n := ⟨a.ix.toNat, by omega⟩
      rw [hn]
      refine itoa_spec (F2.get h3 (by simp)) (by omega) ?_
      have hd := (num_dec (n := n) (by omega)).2.2.1
      rw [bStr_add (by simp; omega), bd_some, bStr_add (by simp; omega), bd_some, bStr_add (by simp; omega), bd_some]
      rw [show printB a = a.p ++ [46] ++ a.k ++ [46] ++ a.n ++ ([91] ++ Lib.itoa a.ix ++ [93]) by simp only [printB, e, if_true, e2, if_false], hn, itoa_nat] at h
      exact h
    · have e2 : a.ix = -1 := by simpa using e2
      rwa [show printB a = a.p ++ [46] ++ a.k ++ [46] ++ a.n by simp [printB, e, e2]] at h

end Go.Proofs.YtkjmpjaahgficaaDoor
