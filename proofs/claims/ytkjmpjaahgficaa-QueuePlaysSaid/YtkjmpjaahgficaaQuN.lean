/- QueueNone, over the clean machine. -/
import Derived.Test.YtkjmpjaahgficaaQuS
namespace Go.Proofs.Ytkjmpjaahgficaa
open Go Go.CM

variable {R : LV → LState → Prop} {st : LState}

/-- (*Queue[int]).Numbers, Clear, of no queue -/
theorem numbers_nil (h : R .nils st) : LCalls Try.prog 21 [.nilp] st R := by
  apply c21; simp [w21]; exact h
theorem clear_nil (h : R .nils st) : LCalls Try.prog 17 [.nilp] st R := by
  apply c17; simp [w17]; exact h

/-- awake -/
theorem awake_spec (h : ∀ st', Fr st st' (fun _ => False) → R (.bool true) st') : LCalls Try.prog 8 [] st R := by
  apply c8
  refine new_spec (by omega) (by omega) fun s1 q h1 fr1 hq1 => ?_
  simp only [lextract_tup, List.getElem?_cons_zero, List.getElem?_cons_succ, bd_some]
  refine put_spec h1 (by simp) (by omega) (by omega) (by omega) fun s2 f2 h2 fr2 hf2 => ?_
  simp only [lextract_tup, List.getElem?_cons_zero, List.getElem?_cons_succ, bd_some]
  refine put_spec h2 (by simp) (by omega) (by omega) (by omega) fun s3 f3 h3 fr3 hf3 => ?_
  simp only [lextract_tup, List.getElem?_cons_zero, List.getElem?_cons_succ, bd_some]
  refine drop_spec (pre := []) (suf := [(i64 8, 2)]) (x := i64 7) (n := 1) (by simp) h3 (by simp) (by simp [LV.one]) fun s4 h4 fr4 => ?_
  simp only [lextract_tup, List.getElem?_cons_zero, List.getElem?_cons_succ, bd_some]
  refine take_spec (x := i64 8) (n := 2) (items := []) h4 (by simp) fun s5 h5 fr5 => ?_
  simp
  have l1 := fr1.len
  have l2 := fr2.len
  have g2 : ∀ j, f2 = some j → st.length ≤ j := fun j e => by
    rcases hf2 j e with e' | e'
    · simp at e'
    · omega
  have g3 : ∀ j, f3 = some j → st.length ≤ j := fun j e => by
    rcases hf3 j e with e' | e'
    · exact g2 j e'
    · omega
  have no : ∀ (f : Option Nat), (∀ j, f = some j → st.length ≤ j) → ∀ j, j < st.length → ownQ q f j → False := fun f hf j hj ho => by
    rcases ho with rfl | e
    · omega
    · have := hf j e; omega
  exact h _ ((((fr1.trans fr2 (no _ (by simp))).trans fr3 (no _ g2)).trans fr4 (no _ g3)).trans fr5 (no _ g3))

/-- QueueNone -/
theorem none_spec {n : Int} (h : ∀ st', R (.bool true) st') : LCalls Try.prog 5 [i64 n] st R := by
  apply c5
  refine put_nil ?_
  simp only [lextract_tup, List.getElem?_cons_zero, List.getElem?_cons_succ, bd_some]
  refine take_nil ?_
  simp only [lextract_tup, List.getElem?_cons_zero, List.getElem?_cons_succ, bd_some]
  refine drop_nil fun s1 _ => ?_
  simp only [lextract_tup, List.getElem?_cons_zero, List.getElem?_cons_succ, bd_some]
  refine first_nil ?_
  simp
  refine len_nil ?_
  simp
  refine numbers_nil ?_
  simp
  refine clear_nil ?_
  simp
  exact awake_spec fun _ _ => h _

end Go.Proofs.Ytkjmpjaahgficaa
