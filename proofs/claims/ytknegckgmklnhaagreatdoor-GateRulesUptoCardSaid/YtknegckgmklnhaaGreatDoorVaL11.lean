/- GateRules: any rule's name; a value that agrees with a plan all of which is known is the same. O11 and L11 are cut out of VaG's text by carve11.py. -/
import Derived.Test.YtknegckgmklnhaaGreatDoorVaG
import Derived.Test.YtknegckgmklnhaaGreatDoorVaG2
import Derived.Test.YtknegckgmklnhaaGreatDoorCp38
namespace Go.Proofs.YtknegckgmklnhaaGreatDoor
open Go Go.CP Go.ChangeShapes Classical
set_option maxRecDepth 100000

/-- GateRules behind both values. -/
def L11 (a0 want : LV) (R : LV → LState → Prop) (p x q y : LV) (st : LState) : Prop :=
  bd2 (lmk (stV st 1 p x)) fun _v41 st42 => bd2 (lmk (stV st42 1 q y)) fun _v43 st44 => bd (ldA st44 p 1) fun v45 => LCalls Tryz.prog 55 [v45] st44 fun v46 st47 => bsel v46 (bd (ldA st47 p 1) fun v48
  => bd (ldA st47 q 1) fun v49 => bd (ldA st47 p 1) fun v50 => bd (ldA st47 q 1) fun v51 => LCalls Tryz.prog 56 [v48, v49] st47 fun v52 st53 => ldA st53 q 1 = some v51 ∧ ldA st53 p 1 = some v50 ∧
  LCalls Tryz.prog 48 [v50, v51] st53 fun v54 st55 => bd (bBool BinOp.neq v52 v54) fun v56 => bsel v56 (R (LV.bool false) st55) (LCalls Tryz.prog 57 [a0] st55 fun v57 st58 => bd (bStr BinOp.eql v57
  want) fun v59 => R v59 st58)) (LCalls Tryz.prog 57 [a0] st47 fun v60 st61 => bd (bStr BinOp.eql v60 want) fun v62 => R v62 st61)

/-- The orders in which both values may be made. -/
def O11 (a0 want : LV) (R : LV → LState → Prop) (b0 b2 c0 c2 : LV) (st : LState) : Prop :=
  (nw st [LV.nili] fun v29 st30 => ldA st30 b2 7 = some c2 ∧ ldA st30 b0 7 = some c0 ∧ (nw st30 [LV.nili] fun v31 st32 => ldA st32 b2 7 = some c2 ∧ ldA st32 b0 7 = some c0 ∧ LCalls Tryz.prog 27 [c0]
  st32 fun v33 st34 => ldA st34 b2 7 = some c2 ∧ LCalls Tryz.prog 29 [v33] st34 fun v35 st36 => ldA st36 b2 7 = some c2 ∧ LCalls Tryz.prog 27 [c2] st36 fun v37 st38 => LCalls Tryz.prog 29 [v37] st38
  fun v39 st40 => L11 a0 want R v31 v35 v29 v39 st40) ∧ LCalls Tryz.prog 27 [c0] st30 fun v63 st64 => ldA st64 b2 7 = some c2 ∧ (nw st64 [LV.nili] fun v65 st66 => ldA st66 b2 7 = some c2 ∧ ldA st66 b0
  7 = some c0 ∧ LCalls Tryz.prog 29 [v63] st66 fun v67 st68 => ldA st68 b2 7 = some c2 ∧ LCalls Tryz.prog 27 [c2] st68 fun v69 st70 => LCalls Tryz.prog 29 [v69] st70 fun v71 st72 => L11 a0 want R v65
  v67 v29 v71 st72) ∧ LCalls Tryz.prog 29 [v63] st64 fun v95 st96 => ldA st96 b2 7 = some c2 ∧ (nw st96 [LV.nili] fun v97 st98 => ldA st98 b2 7 = some c2 ∧ ldA st98 b0 7 = some c0 ∧ LCalls Tryz.prog 27
  [c2] st98 fun v99 st100 => LCalls Tryz.prog 29 [v99] st100 fun v101 st102 => L11 a0 want R v97 v95 v29 v101 st102) ∧ LCalls Tryz.prog 27 [c2] st96 fun v125 st126 => (nw st126 [LV.nili] fun v127 st128
  => ldA st128 b2 7 = some c2 ∧ ldA st128 b0 7 = some c0 ∧ LCalls Tryz.prog 29 [v125] st128 fun v129 st130 => L11 a0 want R v127 v95 v29 v129 st130) ∧ LCalls Tryz.prog 29 [v125] st126 fun v153 st154 =>
  nw st154 [LV.nili] fun v155 st156 => ldA st156 b2 7 = some c2 ∧ ldA st156 b0 7 = some c0 ∧ L11 a0 want R v155 v95 v29 v153 st156) ∧ (nw st [LV.nili] fun v179 st180 => ldA st180 b2 7 = some c2 ∧ ldA
  st180 b0 7 = some c0 ∧ (nw st180 [LV.nili] fun v181 st182 => ldA st182 b2 7 = some c2 ∧ ldA st182 b0 7 = some c0 ∧ LCalls Tryz.prog 27 [c0] st182 fun v183 st184 => ldA st184 b2 7 = some c2 ∧ LCalls
  Tryz.prog 29 [v183] st184 fun v185 st186 => ldA st186 b2 7 = some c2 ∧ LCalls Tryz.prog 27 [c2] st186 fun v187 st188 => LCalls Tryz.prog 29 [v187] st188 fun v189 st190 => L11 a0 want R v179 v185 v181
  v189 st190) ∧ LCalls Tryz.prog 27 [c0] st180 fun v213 st214 => ldA st214 b2 7 = some c2 ∧ (nw st214 [LV.nili] fun v215 st216 => ldA st216 b2 7 = some c2 ∧ ldA st216 b0 7 = some c0 ∧ LCalls Tryz.prog
  29 [v213] st216 fun v217 st218 => ldA st218 b2 7 = some c2 ∧ LCalls Tryz.prog 27 [c2] st218 fun v219 st220 => LCalls Tryz.prog 29 [v219] st220 fun v221 st222 => L11 a0 want R v179 v217 v215 v221
  st222) ∧ LCalls Tryz.prog 29 [v213] st214 fun v245 st246 => ldA st246 b2 7 = some c2 ∧ (nw st246 [LV.nili] fun v247 st248 => ldA st248 b2 7 = some c2 ∧ ldA st248 b0 7 = some c0 ∧ LCalls Tryz.prog 27
  [c2] st248 fun v249 st250 => LCalls Tryz.prog 29 [v249] st250 fun v251 st252 => L11 a0 want R v179 v245 v247 v251 st252) ∧ LCalls Tryz.prog 27 [c2] st246 fun v275 st276 => (nw st276 [LV.nili] fun
  v277 st278 => ldA st278 b2 7 = some c2 ∧ ldA st278 b0 7 = some c0 ∧ LCalls Tryz.prog 29 [v275] st278 fun v279 st280 => L11 a0 want R v179 v245 v277 v279 st280) ∧ LCalls Tryz.prog 29 [v275] st276 fun
  v303 st304 => nw st304 [LV.nili] fun v305 st306 => ldA st306 b2 7 = some c2 ∧ ldA st306 b0 7 = some c0 ∧ L11 a0 want R v179 v245 v305 v303 st306) ∧ LCalls Tryz.prog 27 [c0] st fun v329 st330 => ldA
  st330 b2 7 = some c2 ∧ (nw st330 [LV.nili] fun v331 st332 => ldA st332 b2 7 = some c2 ∧ ldA st332 b0 7 = some c0 ∧ (nw st332 [LV.nili] fun v333 st334 => ldA st334 b2 7 = some c2 ∧ ldA st334 b0 7 =
  some c0 ∧ LCalls Tryz.prog 29 [v329] st334 fun v335 st336 => ldA st336 b2 7 = some c2 ∧ LCalls Tryz.prog 27 [c2] st336 fun v337 st338 => LCalls Tryz.prog 29 [v337] st338 fun v339 st340 => L11 a0 want
  R v333 v335 v331 v339 st340) ∧ LCalls Tryz.prog 29 [v329] st332 fun v363 st364 => ldA st364 b2 7 = some c2 ∧ (nw st364 [LV.nili] fun v365 st366 => ldA st366 b2 7 = some c2 ∧ ldA st366 b0 7 = some c0
  ∧ LCalls Tryz.prog 27 [c2] st366 fun v367 st368 => LCalls Tryz.prog 29 [v367] st368 fun v369 st370 => L11 a0 want R v365 v363 v331 v369 st370) ∧ LCalls Tryz.prog 27 [c2] st364 fun v393 st394 => (nw
  st394 [LV.nili] fun v395 st396 => ldA st396 b2 7 = some c2 ∧ ldA st396 b0 7 = some c0 ∧ LCalls Tryz.prog 29 [v393] st396 fun v397 st398 => L11 a0 want R v395 v363 v331 v397 st398) ∧ LCalls Tryz.prog
  29 [v393] st394 fun v421 st422 => nw st422 [LV.nili] fun v423 st424 => ldA st424 b2 7 = some c2 ∧ ldA st424 b0 7 = some c0 ∧ L11 a0 want R v423 v363 v331 v421 st424) ∧ (nw st330 [LV.nili] fun v447
  st448 => ldA st448 b2 7 = some c2 ∧ ldA st448 b0 7 = some c0 ∧ (nw st448 [LV.nili] fun v449 st450 => ldA st450 b2 7 = some c2 ∧ ldA st450 b0 7 = some c0 ∧ LCalls Tryz.prog 29 [v329] st450 fun v451
  st452 => ldA st452 b2 7 = some c2 ∧ LCalls Tryz.prog 27 [c2] st452 fun v453 st454 => LCalls Tryz.prog 29 [v453] st454 fun v455 st456 => L11 a0 want R v447 v451 v449 v455 st456) ∧ LCalls Tryz.prog 29
  [v329] st448 fun v479 st480 => ldA st480 b2 7 = some c2 ∧ (nw st480 [LV.nili] fun v481 st482 => ldA st482 b2 7 = some c2 ∧ ldA st482 b0 7 = some c0 ∧ LCalls Tryz.prog 27 [c2] st482 fun v483 st484 =>
  LCalls Tryz.prog 29 [v483] st484 fun v485 st486 => L11 a0 want R v447 v479 v481 v485 st486) ∧ LCalls Tryz.prog 27 [c2] st480 fun v509 st510 => (nw st510 [LV.nili] fun v511 st512 => ldA st512 b2 7 =
  some c2 ∧ ldA st512 b0 7 = some c0 ∧ LCalls Tryz.prog 29 [v509] st512 fun v513 st514 => L11 a0 want R v447 v479 v511 v513 st514) ∧ LCalls Tryz.prog 29 [v509] st510 fun v537 st538 => nw st538
  [LV.nili] fun v539 st540 => ldA st540 b2 7 = some c2 ∧ ldA st540 b0 7 = some c0 ∧ L11 a0 want R v447 v479 v539 v537 st540) ∧ LCalls Tryz.prog 29 [v329] st330 fun v563 st564 => ldA st564 b2 7 = some
  c2 ∧ (nw st564 [LV.nili] fun v565 st566 => ldA st566 b2 7 = some c2 ∧ ldA st566 b0 7 = some c0 ∧ (nw st566 [LV.nili] fun v567 st568 => ldA st568 b2 7 = some c2 ∧ ldA st568 b0 7 = some c0 ∧ LCalls
  Tryz.prog 27 [c2] st568 fun v569 st570 => LCalls Tryz.prog 29 [v569] st570 fun v571 st572 => L11 a0 want R v567 v563 v565 v571 st572) ∧ LCalls Tryz.prog 27 [c2] st566 fun v595 st596 => (nw st596
  [LV.nili] fun v597 st598 => ldA st598 b2 7 = some c2 ∧ ldA st598 b0 7 = some c0 ∧ LCalls Tryz.prog 29 [v595] st598 fun v599 st600 => L11 a0 want R v597 v563 v565 v599 st600) ∧ LCalls Tryz.prog 29
  [v595] st596 fun v623 st624 => nw st624 [LV.nili] fun v625 st626 => ldA st626 b2 7 = some c2 ∧ ldA st626 b0 7 = some c0 ∧ L11 a0 want R v625 v563 v565 v623 st626) ∧ (nw st564 [LV.nili] fun v649 st650
  => ldA st650 b2 7 = some c2 ∧ ldA st650 b0 7 = some c0 ∧ (nw st650 [LV.nili] fun v651 st652 => ldA st652 b2 7 = some c2 ∧ ldA st652 b0 7 = some c0 ∧ LCalls Tryz.prog 27 [c2] st652 fun v653 st654 =>
  LCalls Tryz.prog 29 [v653] st654 fun v655 st656 => L11 a0 want R v649 v563 v651 v655 st656) ∧ LCalls Tryz.prog 27 [c2] st650 fun v679 st680 => (nw st680 [LV.nili] fun v681 st682 => ldA st682 b2 7 =
  some c2 ∧ ldA st682 b0 7 = some c0 ∧ LCalls Tryz.prog 29 [v679] st682 fun v683 st684 => L11 a0 want R v649 v563 v681 v683 st684) ∧ LCalls Tryz.prog 29 [v679] st680 fun v707 st708 => nw st708
  [LV.nili] fun v709 st710 => ldA st710 b2 7 = some c2 ∧ ldA st710 b0 7 = some c0 ∧ L11 a0 want R v649 v563 v709 v707 st710) ∧ LCalls Tryz.prog 27 [c2] st564 fun v733 st734 => (nw st734 [LV.nili] fun
  v735 st736 => ldA st736 b2 7 = some c2 ∧ ldA st736 b0 7 = some c0 ∧ (nw st736 [LV.nili] fun v737 st738 => ldA st738 b2 7 = some c2 ∧ ldA st738 b0 7 = some c0 ∧ LCalls Tryz.prog 29 [v733] st738 fun
  v739 st740 => L11 a0 want R v737 v563 v735 v739 st740) ∧ LCalls Tryz.prog 29 [v733] st736 fun v763 st764 => nw st764 [LV.nili] fun v765 st766 => ldA st766 b2 7 = some c2 ∧ ldA st766 b0 7 = some c0 ∧
  L11 a0 want R v765 v563 v735 v763 st766) ∧ (nw st734 [LV.nili] fun v789 st790 => ldA st790 b2 7 = some c2 ∧ ldA st790 b0 7 = some c0 ∧ (nw st790 [LV.nili] fun v791 st792 => ldA st792 b2 7 = some c2 ∧
  ldA st792 b0 7 = some c0 ∧ LCalls Tryz.prog 29 [v733] st792 fun v793 st794 => L11 a0 want R v789 v563 v791 v793 st794) ∧ LCalls Tryz.prog 29 [v733] st790 fun v817 st818 => nw st818 [LV.nili] fun v819
  st820 => ldA st820 b2 7 = some c2 ∧ ldA st820 b0 7 = some c0 ∧ L11 a0 want R v789 v563 v819 v817 st820) ∧ LCalls Tryz.prog 29 [v733] st734 fun v843 st844 => (nw st844 [LV.nili] fun v845 st846 => ldA
  st846 b2 7 = some c2 ∧ ldA st846 b0 7 = some c0 ∧ nw st846 [LV.nili] fun v847 st848 => ldA st848 b2 7 = some c2 ∧ ldA st848 b0 7 = some c0 ∧ L11 a0 want R v847 v563 v845 v843 st848) ∧ nw st844
  [LV.nili] fun v871 st872 => ldA st872 b2 7 = some c2 ∧ ldA st872 b0 7 = some c0 ∧ nw st872 [LV.nili] fun v873 st874 => ldA st874 b2 7 = some c2 ∧ ldA st874 b0 7 = some c0 ∧ L11 a0 want R v871 v563
  v873 v843 st874

def w11s (a0 a1 a2 : LV) (R : LV → LState → Prop) (st : LState) : Prop :=
  bd2 (lbox st a1) fun v0 st1 => bd2 (lbox st1 a2) fun v2 st3 => bd (ldA st3 v0 7) fun v4 => LCalls Tryz.prog 24 [v4] st3 fun v5 st6 => bd (bInt BinOp.gtr v5 (LV.int IntKind.i64 0)) fun v7 => bsel v7
  (LCalls Tryz.prog 54 [] st6 fun v8 st9 => R v8 st9) (bd (ldA st6 v2 7) fun v10 => LCalls Tryz.prog 24 [v10] st6 fun v11 st12 => bd (bInt BinOp.gtr v11 (LV.int IntKind.i64 0)) fun v13 => bsel v13
  (LCalls Tryz.prog 54 [] st12 fun v14 st15 => R v14 st15) (LCalls Tryz.prog 54 [] st12 fun v16 st17 => bd (lun UnOp.not v16) fun v18 => bsel v18 (LCalls Tryz.prog 54 [] st17 fun v19 st20 => R v19
  st20) (bd2 (slNew st17 8 (lfill (fun i => some (i * 1, 1)) (List.replicate 8 [LV.str []]).flatten [(0, LV.str [102, 105, 110, 101]), (1, LV.str [115, 104, 97, 112, 101]), (2, LV.str [115, 101, 116]),
  (3, LV.str [117, 110, 115, 101, 116]), (4, LV.str [104, 111, 108, 101]), (5, LV.str [98, 114, 111, 107, 101, 110]), (6, LV.str [110, 97, 109, 101]), (7, LV.str [104, 117, 115, 104])])) fun v21 st22
  => bd (bInt BinOp.geq a0 (LV.int IntKind.i64 0)) fun v23 => bsel v23 (bd (bInt BinOp.lss a0 (LV.int IntKind.i64 8)) fun v24 => bsel v24 (bd (ixSl 1 v21 a0) fun v25 => bd (ld1 st22 v25) fun v26 => bd
  (ldA st22 v0 7) fun v27 => bd (ldA st22 v2 7) fun v28 => O11 a0 v26 R v0 v2 v27 v28 st22) (bd (ldA st22 v0 7) fun v897 => bd (ldA st22 v2 7) fun v898 => O11 a0 (LV.str []) R v0 v2 v897 v898 st22))
  (bd (ldA st22 v0 7) fun v1767 => bd (ldA st22 v2 7) fun v1768 => O11 a0 (LV.str []) R v0 v2 v1767 v1768 st22))))

theorem w11s_eq (a0 a1 a2 : LV) (R : LV → LState → Prop) (st : LState) : w11 a0 a1 a2 R st = w11s a0 a1 a2 R st := by kernel_rfl

def ruleNames : List (List UInt8) := [[102, 105, 110, 101], [115, 104, 97, 112, 101], [115, 101, 116], [117, 110, 115, 101, 116], [104, 111, 108, 101], [98, 114, 111, 107, 101, 110], [110, 97, 109, 101], [104, 117, 115, 104]]
def ruleName (n : Int) : List UInt8 := if n < 0 then [] else (ruleNames[n.toNat]?).getD []

theorem names_pu : Pu Tryz.prog 123 [] (.agg (ruleNames.map .str)) := Pu.of (c123 (dp_refl (v := .agg (ruleNames.map .str)) _ rfl)) rfl rfl

theorem rule_pu (n : Int) : Pu Tryz.prog 57 [i64 n] (.str (ruleName n)) := by
  refine Pu.of (c57 _ ?_) rfl rfl
  simp only [w57, bInt_int, lint_lss, lint_geq, bd_some]
  rw [bsel_bool]
  refine ⟨fun h => ?_, fun h => ?_⟩
  · have h0 : n < 0 := of_decide_eq_true h
    unfold ruleName
    rw [if_pos h0]; exact rfl
  have h0 : ¬ n < 0 := of_decide_eq_false h
  rw [bsel_bool]
  refine ⟨fun h => ?_, fun h => ?_⟩
  · have h8 : n ≥ 8 := of_decide_eq_true h
    unfold ruleName
    rw [if_neg h0, List.getElem?_eq_none (by show 8 ≤ _; omega)]; exact rfl
  have h8 : ¬ n ≥ 8 := of_decide_eq_false h
  refine names_pu.call ?_
  obtain rfl | rfl | rfl | rfl | rfl | rfl | rfl | rfl : n = 0 ∨ n = 1 ∨ n = 2 ∨ n = 3 ∨ n = 4 ∨ n = 5 ∨ n = 6 ∨ n = 7 := by omega
  all_goals exact rfl

theorem leaf11 {n : Int} {a b : T} (ha : a.ok) (hb : b.ok) {st : LState} {P Q : Nat} (hP : st[P]? = some (.cells .rw [.nili])) (hQ : st[Q]? = some (.cells .rw [.nili])) (hPQ : P ≠ Q) :
    L11 (i64 n) (.str (ruleName n)) (fun v _ => v = .bool true) (.ptr P 0) (vT a) (.ptr Q 0) (vT b) st := by
  have e1 : stV st 1 (.ptr P 0) (vT a) = some (st.set P (.cells .rw [lvT a])) := by
    rw [stV_agg (k := 0) (vs := [lvT a]) (n := 1) hP (by simp) (by simp [lvT_one]) rfl]; simp [splice]
  have hQ' : (st.set P (.cells .rw [lvT a]))[Q]? = some (.cells .rw [.nili]) := (get_set_ne hPQ).trans hQ
  have hP' : (st.set P (.cells .rw [lvT a]))[P]? = some (.cells .rw [lvT a]) := get_set hP
  have e2 : stV (st.set P (.cells .rw [lvT a])) 1 (.ptr Q 0) (vT b) = some ((st.set P (.cells .rw [lvT a])).set Q (.cells .rw [lvT b])) := by
    rw [stV_agg (k := 0) (vs := [lvT b]) (n := 1) hQ' (by simp) (by simp [lvT_one]) rfl]; simp [splice]
  have h1 : ldA ((st.set P (.cells .rw [lvT a])).set Q (.cells .rw [lvT b])) (.ptr P 0) 1 = some (vT a) := ldA_of ((get_set_ne (Ne.symm hPQ)).trans hP') (by simp)
  have h2 : ldA ((st.set P (.cells .rw [lvT a])).set Q (.cells .rw [lvT b])) (.ptr Q 0) 1 = some (vT b) := ldA_of (get_set hQ') (by simp)
  unfold L11
  rw [e1]
  simp only [lmk_some, bd2_some]
  rw [e2]
  simp only [lmk_some, bd2_some, h1, bd_some]
  refine (known_pu ha).call ?_
  rw [bsel_bool]
  refine ⟨fun hk => ?_, fun hk => ?_⟩
  · simp only [h1, h2, bd_some]
    refine (agrees_pu _ a b (Nat.lt_succ_self _) ha hb).call ⟨h2, h1, ?_⟩
    refine (same_pu _ a b (Nat.lt_succ_self _) ha hb).call ?_
    have he : decide (Agr a b) = decide (a = b) := decide_eq_decide.2 (agr_known _ a b (Nat.lt_succ_self _) hk)
    rw [he]
    have hbb : bBool .neq (.bool (decide (a = b))) (.bool (decide (a = b))) = some (.bool false) := by cases decide (a = b) <;> rfl
    rw [hbb]
    simp only [bd_some, bsel_false]
    refine (rule_pu n).call ?_
    simp only [bStr_str, lstr_eql, beq_self_eq_true, bd_some]
  · refine (rule_pu n).call ?_
    simp only [bStr_str, lstr_eql, beq_self_eq_true, bd_some]

theorem nwI {st : LState} {l : List LV} {K : LV → LState → Prop} (h : K (.ptr st.length 0) (st ++ [.cells .rw l])) : nw st l K := h

theorem orders11 {a0 want : LV} {R : LV → LState → Prop} {b0 b2 c0 c2 k0 k2 : LV} {a b : T} (h1 : Pu Tryz.prog 27 [c0] k0) (h2 : Pu Tryz.prog 29 [k0] (vT a)) (h3 : Pu Tryz.prog 27 [c2] k2) (h4 : Pu Tryz.prog 29 [k2] (vT b)) {st : LState}
    (f0 : ∀ y, ldA (st ++ [y]) b0 7 = some c0) (f1 : ldA st b2 7 = some c2) (f2 : ∀ y, ldA (st ++ [y]) b2 7 = some c2) (g0 : ∀ y z, ldA (st ++ [y] ++ [z]) b0 7 = some c0) (g2 : ∀ y z, ldA (st ++ [y] ++ [z]) b2 7 = some c2)
    (leaf : ∀ P Q s, s[P]? = some (.cells .rw [.nili]) → s[Q]? = some (.cells .rw [.nili]) → P ≠ Q → L11 a0 want R (.ptr P 0) (vT a) (.ptr Q 0) (vT b) s) : O11 a0 want R b0 b2 c0 c2 st := by
  have l1 : ∀ {s : LState}, L11 a0 want R (.ptr (s ++ [LObj.cells .rw [.nili]]).length 0) (vT a) (.ptr s.length 0) (vT b) (s ++ [.cells .rw [.nili]] ++ [.cells .rw [.nili]]) := fun {s} => leaf _ _ _ get_app_new (get_app get_app_new) (by simp)
  have l2 : ∀ {s : LState}, L11 a0 want R (.ptr s.length 0) (vT a) (.ptr (s ++ [LObj.cells .rw [.nili]]).length 0) (vT b) (s ++ [.cells .rw [.nili]] ++ [.cells .rw [.nili]]) := fun {s} => leaf _ _ _ (get_app get_app_new) get_app_new (by simp)
  unfold O11
  repeat' (first
    | exact l1
    | exact l2
    | exact f1
    | exact f0 _
    | exact f2 _
    | exact g0 _ _
    | exact g2 _ _
    | refine And.intro ?_ ?_
    | refine nwI ?_
    | refine h1.call ?_
    | refine h2.call ?_
    | refine h3.call ?_
    | refine h4.call ?_)

theorem law11 {n : Int} {r1 r2 : RV} (h1 : r1.ok) (h2 : r2.ok) : LCalls Tryz.prog 11 [i64 n, vR r1, vR r2] [] fun v _ => v = .bool true := by
  obtain ⟨m1, g1⟩ := great_pu h1
  obtain ⟨m2, g2⟩ := great_pu h2
  refine c11 _ _ _ (Eq.mpr (w11s_eq _ _ _ _ _) ?_)
  have b1 : BoxR [LObj.cells .rw (rc r1), .cells .rw (rc r2)] 0 r1 := rfl
  have b2 : BoxR [LObj.cells .rw (rc r1), .cells .rw (rc r2)] 1 r2 := rfl
  simp only [w11s, lbox_rc, bd2_some, List.nil_append, List.cons_append, List.length_nil, List.length_cons, Nat.zero_add, b1.ldA, bd_some]
  refine g1.call ?_
  simp only [bInt_int, lint_gtr, bd_some]
  rw [bsel_bool]
  refine ⟨fun _ => awake54 rfl, fun _ => ?_⟩
  simp only [b2.ldA, bd_some]
  refine g2.call ?_
  simp only [bInt_int, lint_gtr, bd_some]
  rw [bsel_bool]
  refine ⟨fun _ => awake54 rfl, fun _ => awake54 ?_⟩
  have ef : lfill (fun i => some (i * 1, 1)) (List.replicate 8 [LV.str []]).flatten [(0, LV.str [102, 105, 110, 101]), (1, LV.str [115, 104, 97, 112, 101]), (2, LV.str [115, 101, 116]), (3, LV.str [117, 110, 115, 101, 116]), (4, LV.str [104, 111, 108, 101]), (5, LV.str [98, 114, 111, 107, 101, 110]), (6, LV.str [110, 97, 109, 101]), (7, LV.str [104, 117, 115, 104])] = some (ruleNames.map .str) := rfl
  rw [ef]
  simp only [lun_not, bd_some, Bool.not_true, bsel_false, slNew_some, bd2_some]
  have s1 : ∀ {x : LObj}, ldA ([LObj.cells .rw (rc r1), .cells .rw (rc r2)] ++ [x]) (.ptr 0 0) 7 = some (vR r1) := fun {x} => BoxR.ldA (get_app b1)
  have s2 : ∀ {x : LObj}, ldA ([LObj.cells .rw (rc r1), .cells .rw (rc r2)] ++ [x]) (.ptr 1 0) 7 = some (vR r2) := fun {x} => BoxR.ldA (get_app b2)
  have go : ∀ want, want = .str (ruleName n) → O11 (i64 n) want (fun v _ => v = .bool true) (.ptr 0 0) (.ptr 1 0) (vR r1) (vR r2) ([LObj.cells .rw (rc r1), .cells .rw (rc r2)] ++ [.cells .rw (ruleNames.map .str)]) := by
    rintro _ rfl
    refine orders11 (clean_pu h1) (to_pu _ _ (Nat.lt_succ_self _) (cln_ok h1)) (clean_pu h2) (to_pu _ _ (Nat.lt_succ_self _) (cln_ok h2)) (fun _ => BoxR.ldA (get_app (get_app b1))) s2 (fun _ => BoxR.ldA (get_app (get_app b2)))
      (fun _ _ => BoxR.ldA (get_app (get_app (get_app b1)))) (fun _ _ => BoxR.ldA (get_app (get_app (get_app b2)))) (fun P Q s hP hQ hPQ => leaf11 (cln_ok h1) (cln_ok h2) hP hQ hPQ)
  simp only [bInt_int, lint_geq, bd_some]
  rw [bsel_bool]
  refine ⟨fun h => ?_, fun h => ?_⟩
  · have h0 : n ≥ 0 := of_decide_eq_true h
    simp only [bInt_int, lint_lss, bd_some]
    rw [bsel_bool]
    refine ⟨fun h => ?_, fun h => ?_⟩
    · have h8 : n < 8 := of_decide_eq_true h
      have e1 : ixSl 1 (.sl [LObj.cells .rw (rc r1), .cells .rw (rc r2)].length 0 8 (.ex 8)) (i64 n) = some (.ptr 2 (0 + n.toNat * 1)) := by
        simp only [ixSl]
        rw [if_pos ⟨h0, by omega⟩]; rfl
      have e2 : ld1 ([LObj.cells .rw (rc r1), .cells .rw (rc r2)] ++ [.cells .rw (ruleNames.map .str)]) (.ptr 2 (0 + n.toNat * 1)) = some (.str (ruleName n)) := by
        rw [ld1_of (l := ruleNames.map .str) (m := .rw) rfl]
        have hl : n.toNat < ruleNames.length := by show n.toNat < 8; omega
        unfold ruleName
        rw [if_neg (by omega), List.getElem?_map, Nat.zero_add, Nat.mul_one, List.getElem?_eq_getElem hl]; rfl
      rw [e1]
      simp only [bd_some]
      rw [e2]
      simp only [bd_some, s1, s2]
      exact go _ rfl
    · have h8 : ¬ n < 8 := of_decide_eq_false h
      simp only [bd_some, s1, s2]
      refine go _ ?_
      unfold ruleName
      rw [if_neg (by omega), List.getElem?_eq_none (by show 8 ≤ _; omega)]; rfl
  · have h0 : ¬ n ≥ 0 := of_decide_eq_false h
    simp only [bd_some, s1, s2]
    refine go _ ?_
    unfold ruleName
    rw [if_pos (by omega)]

theorem gateRules_law {H : Type} {xs : List LV} {ds : List (DataW H)} (h : TypedDs Tryz.prog [3, 49, 49] xs ds) (hb : Rows.uptoBulkAll ds ≤ 1048576) : LCalls Tryz.prog 11 xs [] fun v _ => v = .bool true := by
  obtain ⟨x0, _, d0, _, rfl, rfl, ⟨n0, cs0, _, a2, a3⟩, x1, _, d1, _, rfl, rfl, ⟨n1, cs1, b1, _, b3⟩, x2, _, d2, _, rfl, rfl, ⟨n2, cs2, c1, _, c3⟩, rfl, rfl⟩ := h
  have i0 : isStructT Tryz.prog 3 = false := by kernel_rfl
  have i1 : isStructT Tryz.prog 49 = true := by kernel_rfl
  rw [a2 i0] at a3
  obtain ⟨n, e, _⟩ := td_int a3
  simp only [List.cons.injEq, and_true] at e
  subst e
  rw [if_pos i1] at b1 c1
  subst b1 c1
  simp only [Rows.uptoBulkAll] at hb
  obtain ⟨r, rfl, hr⟩ := typed_rv (N := 1048576) (by unfold big; omega) n1 b3 (by omega)
  obtain ⟨r', rfl, hr'⟩ := typed_rv (N := 1048576) (by unfold big; omega) n2 c3 (by omega)
  exact law11 hr hr'

end Go.Proofs.YtknegckgmklnhaaGreatDoor

