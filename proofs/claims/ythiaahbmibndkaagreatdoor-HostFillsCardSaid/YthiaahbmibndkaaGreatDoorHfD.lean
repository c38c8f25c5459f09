/- HostFills: Do, and the loops. -/
import Derived.Test.YthiaahbmibndkaaGreatDoorHfS
namespace Go.Proofs.YthiaahbmibndkaaGreatDoor
open Go Go.CP
set_option maxRecDepth 100000

variable {R : LV → LState → Prop} {st : LState} {f : Option Nat} {j : Nat}

theorem addr_spec {ix : Int} (h : ∀ st', Fr st st' (fun _ => False) → R (.agg [.str [112, 97], .str [118, 109], .str [97], i64 ix]) st') : LCalls Tryz.prog 10 [.agg [.str [112, 97], .str [118, 109], .str [97], i64 ix]] st R := by
  apply c10
  have hb : lbox st (.agg [.str [112, 97], .str [118, 109], .str [97], i64 ix]) = some (.ptr st.length 0, st ++ [.cells .rw [.str [112, 97], .str [118, 109], .str [97], i64 ix]]) := rfl
  unfold w10
  rw [hb, bd2_some, nw_eq]
  have h1 : (st ++ [LObj.cells .rw [.str [112, 97], .str [118, 109], .str [97], i64 ix]])[st.length]? = some (.cells .rw [.str [112, 97], .str [118, 109], .str [97], i64 ix]) := get_app_new
  have f1 : Fr st (st ++ [LObj.cells .rw [.str [112, 97], .str [118, 109], .str [97], i64 ix]]) (fun _ => False) := Fr.app
  have hl : st.length < (st ++ [LObj.cells .rw [.str [112, 97], .str [118, 109], .str [97], i64 ix]]).length := get_lt h1
  generalize st ++ [LObj.cells .rw [.str [112, 97], .str [118, 109], .str [97], i64 ix]] = s1 at *
  have h2 := get_app (y := .cells .rw [LV.str [], LV.str [], LV.str [], LV.int IntKind.i64 0]) h1
  have h3 : (s1 ++ [LObj.cells .rw [LV.str [], LV.str [], LV.str [], LV.int IntKind.i64 0]])[s1.length]? = some (.cells .rw [LV.str [], LV.str [], LV.str [], LV.int IntKind.i64 0]) := get_app_new
  have f2 : Fr s1 (s1 ++ [LObj.cells .rw [LV.str [], LV.str [], LV.str [], LV.int IntKind.i64 0]]) (fun _ => False) := Fr.app
  generalize s1 ++ [LObj.cells .rw [LV.str [], LV.str [], LV.str [], LV.int IntKind.i64 0]] = s2 at *
  have i0 : ixArr 3 1 (.ptr st.length 0) (LV.int IntKind.i64 0) = some (.ptr st.length 0) := rfl
  have i1 : ixArr 3 1 (.ptr st.length 0) (LV.int IntKind.i64 1) = some (.ptr st.length 1) := by simp [ixArr]
  have i2 : ixArr 3 1 (.ptr st.length 0) (LV.int IntKind.i64 2) = some (.ptr st.length 2) := by simp [ixArr]
  simp only [fAddr_ptr, Nat.zero_add, bd_some, i0, i1, i2, ld1_of h2, List.getElem?_cons_zero, List.getElem?_cons_succ]
  rw [show mkAgg (lfill (placesL [(0, 1), (1, 1), (2, 1), (3, 1)]) [LV.str [], LV.str [], LV.str [], LV.int IntKind.i64 0] [(0, .str [112, 97]), (1, .str [118, 109]), (2, .str [97]), (3, i64 ix)]) = some (.agg [.str [112, 97], .str [118, 109], .str [97], i64 ix]) from rfl, bd_some]
  rw [stV_agg (n := 4) h3 (by simp) rfl rfl]
  simp only [lmk_some, bd2_some]
  have h4 := get_set (y := .cells .rw (splice [LV.str [], LV.str [], LV.str [], LV.int IntKind.i64 0] 0 [.str [112, 97], .str [118, 109], .str [97], i64 ix])) h3
  rw [ldA_of h4 (by simp [splice])]
  refine h _ ?_
  refine (f1.trans f2 fun _ _ h => h).trans (Fr.set (S := fun o => o = s1.length) rfl) fun o ho e => ?_
  omega

/-- Do. -/
theorem do_spec {ix : Int} (hs : HS st f j) (h0 : j < 8 → ∀ st' f', HS st' f' (j + 1) → R (.tup [i64 (j + 1), .nils, i64 0]) st') (h1 : 8 ≤ j → ∀ st', HS st' f j → R (.tup [i64 0, .nils, i64 10]) st') :
    LCalls Tryz.prog 9 [.ptr 4 0, .agg (taskL ix)] st R := by
  apply c9
  have hb : lbox st (.agg (taskL ix)) = some (.ptr st.length 0, st ++ [.cells .rw (taskL ix)]) := rfl
  unfold w9
  rw [hb, bd2_some]
  have hs1 : HS (st ++ [.cells .rw (taskL ix)]) f j := hs.fr Fr.app
  have hx1 : (st ++ [LObj.cells .rw (taskL ix)])[st.length]? = some (.cells .rw (taskL ix)) := get_app_new
  generalize st.length = L at *
  generalize st ++ [LObj.cells .rw (taskL ix)] = s1 at *
  simp only [fAddr_ptr, Nat.zero_add, bd_some, ld1_of hx1]
  simp only [taskL, List.getElem?_cons_zero, List.getElem?_cons_succ, bd_some]
  refine of_spec hs1 fun s2 hs2 fr2 hr2 => ?_
  have hx2 := fr2.get hx1 id
  have hL2 := get_lt hx1
  have h14 := get_lt hs1.p
  generalize hrl : s1.length = r at *
  simp only [lextract_tup, List.getElem?_cons_zero, List.getElem?_cons_succ, bd_some, bInt_int, lint_neq, bne_self_eq_false, bsel_false, lnilCheck_ptr, fAddr_ptr, Nat.zero_add, ld1_of hr2, ld1_of hs2.p]
  refine state_spec hs2 ?_
  simp only [bInt_int, lint_eql, bd_some]
  rw [show (((1 : Int) == 5) : Bool) = false from rfl, bsel_false]
  simp only [fAddr_ptr, Nat.zero_add, bd_some, ld1_of hx2]
  simp only [taskL, List.getElem?_cons_zero, List.getElem?_cons_succ, bd_some]
  refine clone_nil ?_
  rw [stV_of hx2 (by simp [taskL]) rfl]
  have hset : s2.set L (.cells .rw ((taskL ix).set 6 .nils)) = s2 := by
    rw [show (taskL ix).set 6 .nils = taskL ix from rfl]
    apply List.ext_getElem?
    intro i
    rw [List.getElem?_set]
    by_cases e : L = i
    · subst e; simp only [if_true, if_pos (get_lt hx2), hx2]
    · simp only [e, if_false]
  simp only [lmk_some, bd2_some, hset, lnilCheck_ptr, fAddr_ptr, Nat.zero_add, bd_some, ld1_of hr2, ld1_of hs2.p, ld1_of hs2.h, List.getElem?_cons_zero, List.getElem?_cons_succ]
  rw [ldA_of hx2 (by simp [taskL])]
  rw [show (List.take 8 (List.drop 0 (taskL ix))) = taskL ix from rfl, bd_some]
  rw [show mkAgg (lfill (placesL [(0, 8), (8, 1)]) [LV.int IntKind.i64 0, LV.str [], LV.str [], LV.str [], LV.int IntKind.i64 0, LV.nili, LV.nils, LV.str [], LV.int IntKind.i64 0] [(0, .agg (taskL ix)), (1, i64 0)])
    = some (.agg (cmdL ix)) from rfl, bd_some]
  rcases Nat.lt_or_ge j 8 with hj | hj
  · refine put_spec hs2 hj fun s3 f3 hs3 hk => ?_
    have hr3 := hk r _ hr2 ⟨by omega, ?_⟩
    · simp only [lextract_tup, List.getElem?_cons_zero, List.getElem?_cons_succ, bd_some, bInt_int, lint_neq, bne_self_eq_false, bsel_false]
      refine pump_spec hs3 hr3 ?_
      simp only [lnilCheck_ptr, fAddr_ptr, Nat.zero_add, bd_some, ld1_of hr3, List.getElem?_cons_zero, List.getElem?_cons_succ]
      exact h0 hj _ _ hs3
    · intro e
      obtain ⟨cs, hcs⟩ := hs1.own
      subst e
      have := hcs.lt
      omega
  · refine put_full hs2 hj fun s3 hs3 => ?_
    simp only [lextract_tup, List.getElem?_cons_zero, List.getElem?_cons_succ, bd_some, bInt_int, lint_neq]
    rw [show (((10 : Int) != 0) : Bool) = true from rfl, bsel_true]
    exact h1 hj _ hs3

end Go.Proofs.YthiaahbmibndkaaGreatDoor
