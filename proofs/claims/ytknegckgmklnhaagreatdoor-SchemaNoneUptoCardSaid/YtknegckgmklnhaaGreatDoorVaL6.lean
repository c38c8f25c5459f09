/- SchemaNone: of no schema nothing comes. -/
import Derived.Test.YtknegckgmklnhaaGreatDoorVaA
import Derived.Test.YtknegckgmklnhaaGreatDoorVaN2
import Derived.Test.YtknegckgmklnhaaGreatDoorCp38
namespace Go.Proofs.YtknegckgmklnhaaGreatDoor
open Go Go.CP Go.ChangeShapes
set_option maxRecDepth 100000

abbrev aT : LV := .agg [.str [], .nilp, .bool false, .bool false, .bool false, .bool false]

theorem lbox_vT {st : LState} {t : T} : lbox st (vT t) = some (.ptr st.length 0, st ++ [.cells .rw [lvT t]]) := rfl

theorem find_nil (s : List UInt8) : Pu Tryz.prog 39 [.nilp, .str s] (.tup [aT, .bool false]) := by
  refine Pu.of (c39 _ _ ?_) rfl rfl
  exact dp_refl (v := .tup [aT, .bool false]) _ rfl

theorem taken_nil (t : T) : Pu Tryz.prog 110 [.nilp, vT t] (.tup [.str [], i64 11]) := by
  refine Pu.of (c110 _ _ ?_) (by simp only [LV.plains, LV.plain, lvT_plain, Bool.and_true]) rfl
  simp only [w110, lbox_vT, bd2_some, eqPtr_nn, eqB_some, eqOut_eql, bd_some, bsel_true]
  exact dp_refl (v := .tup [.str [], i64 11]) _ rfl

theorem fits_nil (t : T) : Pu Tryz.prog 41 [.nilp, vT t] (.tup [.str [], i64 11]) := by
  refine Pu.of (c41 _ _ ?_) (by simp only [LV.plains, LV.plain, lvT_plain, Bool.and_true]) rfl
  simp only [w41, lbox_vT, bd2_some, get_new, bd_some]
  refine (taken_nil t).call ?_
  have e : ((11 : Int) != 0) = true := by decide
  simp only [lextract_tup, List.getElem?_cons_zero, List.getElem?_cons_succ, bd_some, bInt_int, lint_neq, e, bsel_true]
  exact dp_refl (v := .tup [.str [], i64 11]) _ rfl

theorem holds_nil (t : T) : Pu Tryz.prog 43 [.nilp, vT t] (.tup [.str [], i64 11]) := by
  refine Pu.of (c43 _ _ ?_) (by simp only [LV.plains, LV.plain, lvT_plain, Bool.and_true]) rfl
  simp only [w43, lbox_vT, bd2_some, get_new, bd_some]
  refine (taken_nil t).call ?_
  have e : ((11 : Int) != 0) = true := by decide
  simp only [lextract_tup, List.getElem?_cons_zero, List.getElem?_cons_succ, bd_some, bInt_int, lint_neq, e, bsel_true]
  exact dp_refl (v := .tup [.str [], i64 11]) _ rfl

theorem fill_nil (t : T) : Pu Tryz.prog 42 [.nilp, vT t] (.tup [vT .null, i64 11]) := by
  refine Pu.of (c42 _ _ ?_) (by simp only [LV.plains, LV.plain, lvT_plain, Bool.and_true]) rfl
  simp only [w42, lbox_vT, bd2_some, nw_eq, List.nil_append, List.cons_append, List.length_nil, List.length_cons, Nat.zero_add]
  have e0 : ldA [LObj.cells .rw [lvT t], .cells .rw [.nili]] (.ptr 0 0) 1 = some (vT t) := rfl
  simp only [e0, bd_some]
  refine (fits_nil t).call ?_
  have e : ((11 : Int) != 0) = true := by decide
  simp only [lextract_tup, List.getElem?_cons_zero, List.getElem?_cons_succ, bd_some, bInt_int, lint_neq, e, bsel_true]
  refine unset_pu.call ?_
  exact dp_refl (v := .tup [vT .null, i64 11]) _ rfl

theorem parse_long (s : List UInt8) (h : 1048576 < s.length) : Pu Tryz.prog 21 [.str s] (.tup [.nilp, i64 0, i64 3]) := by
  refine Pu.of (c21 _ ?_) rfl rfl
  have h' : (s.length : Int) > 1048576 := by omega
  simp only [w21, lenStr_str, bd_some, bInt_int, lint_gtr, h', decide_true, bsel_true]
  exact dp_refl (v := .tup [.nilp, i64 0, i64 3]) _ rfl

theorem print_nil : Pu Tryz.prog 22 [.nilp] (.str []) := Pu.of (c22 _ (dp_refl (v := .str []) [] rfl)) rfl rfl
theorem version_nil : Pu Tryz.prog 37 [.nilp] (i64 0) := Pu.of (c37 _ (dp_refl (v := i64 0) [] rfl)) rfl rfl
theorem attrs_nil : Pu Tryz.prog 36 [.nilp] .nils := Pu.of (c36 _ (dp_refl (v := .nils) [] rfl)) rfl rfl
theorem same_nil : Pu Tryz.prog 23 [.nilp, .nilp] (.bool true) := by
  refine Pu.of (c23 _ _ ?_) rfl rfl
  show LCalls Tryz.prog 22 [.nilp] [] _
  refine print_nil.call ?_
  refine print_nil.call ?_
  exact dp_refl (v := .bool true) [] rfl

theorem bytes_zero : ∀ {n : Nat}, bytesOf (List.replicate n (.int .u8 0)) = some (List.replicate n 0)
  | 0 => rfl
  | n + 1 => by
    rw [List.replicate_succ, bytesOf, bytes_zero, List.replicate_succ]; rfl
theorem flat_one {α : Type} {x : α} : ∀ {n : Nat}, (List.replicate n [x]).flatten = List.replicate n x
  | 0 => rfl
  | n + 1 => by rw [List.replicate_succ, List.flatten_cons, flat_one, List.replicate_succ]; rfl

theorem make_zero {st : LState} {N : Nat} {L : Int} (hL : L = (N : Int)) (hN : N ≤ 2 ^ 40) : ∃ s : List UInt8, s.length = N ∧ ∀ {K : LV → LState → Prop}, (∀ st', K (.str s) st') →
    bd2 (lmakeSl 1 [.int .u8 0] st (i64 L) (i64 L)) fun v st' => bd (lbytesStr st' v) fun v55 => K v55 st' := by
  subst hL
  refine ⟨List.replicate N 0, by simp, fun {K} hK => ?_⟩
  have e1 : lmakeSl 1 [.int .u8 0] st (i64 N) (i64 N) = some (.sl st.length 0 N (.ex N), st ++ [.cells .rw (List.replicate N (.int .u8 0))]) := by
    simp only [lmakeSl]
    rw [if_pos ⟨by omega, by omega, by omega, by omega⟩, flat_one]
    simp
  rw [e1]
  simp only [bd2_some]
  have e2 : lbytesStr (st ++ [.cells .rw (List.replicate N (.int .u8 0))]) (.sl st.length 0 N (.ex N)) = some (.str (List.replicate N 0)) := by
    simp only [lbytesStr, lsrc, get_app_new]
    rw [if_pos (by simp)]
    have : ((List.replicate N (LV.int .u8 0)).drop 0).take (N * 1) = List.replicate N (.int .u8 0) := by
      rw [List.drop_zero, List.take_of_length_le (by simp)]
    rw [this]
    simp only [bytes_zero]
  rw [e2]
  exact hK _

/-- SchemaNone, at a text of L bytes. -/
def w6L (L : Int) (a0 a1 : LV) (R : LV → LState → Prop) (st : LState) : Prop :=
  bd2 (lbox st a1) fun v0 st1 => bd (lenStr a0) fun v2 => bd (bInt BinOp.gtr v2 (LV.int IntKind.i64 60)) fun v3 => bsel v3 (LCalls Tryz.prog 17 [] st1 fun v4 st5 => R v4 st5) (bd (ldA st1 v0 7) fun v6 => LCalls Tryz.prog
  24 [v6] st1 fun v7 st8 => bd (bInt BinOp.gtr v7 (LV.int IntKind.i64 0)) fun v9 => bsel v9 (LCalls Tryz.prog 17 [] st8 fun v10 st11 => R v10 st11) (LCalls Tryz.prog 17 [] st8 fun v12 st13 => bd (lun UnOp.not v12) fun v14
  => bsel v14 (LCalls Tryz.prog 17 [] st13 fun v15 st16 => R v15 st16) (bd (ldA st13 v0 7) fun v17 => LCalls Tryz.prog 27 [v17] st13 fun v18 st19 => LCalls Tryz.prog 29 [v18] st19 fun v20 st21 => nw st21 [LV.nili] fun v22
  st23 => bd2 (lmk (stV st23 1 v22 v20)) fun _v24 st25 => LCalls Tryz.prog 39 [LV.nilp, a0] st25 fun v26 st27 => bd (lextract v26 0) fun v28 => bd (lextract v26 1) fun v29 => nw st27 [LV.str [], LV.nilp, LV.bool false,
  LV.bool false, LV.bool false, LV.bool false] fun v30 st31 => bd2 (lmk (stV st31 6 v30 v28)) fun _v32 st33 => bd (ldA st33 v22 1) fun v34 => LCalls Tryz.prog 41 [LV.nilp, v34] st33 fun v35 st36 => bd (lextract v35 0) fun
  _v37 => bd (lextract v35 1) fun v38 => bd (ldA st36 v22 1) fun v39 => LCalls Tryz.prog 42 [LV.nilp, v39] st36 fun v40 st41 => bd (lextract v40 0) fun v42 => bd (lextract v40 1) fun v43 => nw st41 [LV.nili] fun v44 st45
  => bd2 (lmk (stV st45 1 v44 v42)) fun _v46 st47 => bd (ldA st47 v22 1) fun v48 => LCalls Tryz.prog 43 [LV.nilp, v48] st47 fun v49 st50 => bd (lextract v49 0) fun _v51 => bd (lextract v49 1) fun v52 => bd2 (lmakeSl 1
  [LV.int IntKind.u8 0] st50 (LV.int IntKind.i64 L) (LV.int IntKind.i64 L)) fun v53 st54 => bd (lbytesStr st54 v53) fun v55 => LCalls Tryz.prog 21 [v55] st54 fun v56 st57 => bd (lextract v56 0) fun v58 => bd
  (lextract v56 1) fun v59 => bd (lextract v56 2) fun v60 => bd (lun UnOp.not v29) fun v61 => bsel v61 (bd (bInt BinOp.eql v38 (LV.int IntKind.i64 11)) fun v62 => bsel v62 (bd (bInt BinOp.eql v43 (LV.int IntKind.i64 11))
  fun v63 => bsel v63 (bd (bInt BinOp.eql v52 (LV.int IntKind.i64 11)) fun v64 => bsel v64 (LCalls Tryz.prog 22 [LV.nilp] st57 fun v65 st66 => bd (bStr BinOp.eql v65 (LV.str [])) fun v67 => bsel v67 (LCalls Tryz.prog 37
  [LV.nilp] st66 fun v68 st69 => bd (bInt BinOp.eql v68 (LV.int IntKind.i64 0)) fun v70 => bsel v70 (LCalls Tryz.prog 36 [LV.nilp] st69 fun v71 st72 => bd (lenSl v71) fun v73 => bd (bInt BinOp.eql v73 (LV.int IntKind.i64
  0)) fun v74 => bsel v74 (LCalls Tryz.prog 23 [LV.nilp, LV.nilp] st72 fun v75 st76 => bsel v75 (bd (eqB BinOp.eql (eqPtr true v58 LV.nilp)) fun v77 => bsel v77 (bd (bInt BinOp.eql v59 (LV.int IntKind.i64 0)) fun v78 =>
  bsel v78 (bd (bInt BinOp.eql v60 (LV.int IntKind.i64 3)) fun v79 => R v79 st76) (R (LV.bool false) st76)) (R (LV.bool false) st76)) (R (LV.bool false) st76)) (R (LV.bool false) st72)) (R (LV.bool false) st69)) (R
  (LV.bool false) st66)) (R (LV.bool false) st57)) (R (LV.bool false) st57)) (R (LV.bool false) st57)) (R (LV.bool false) st57))))

theorem w6L_eq (a0 a1 : LV) (R : LV → LState → Prop) (st : LState) : w6 a0 a1 R st = w6L 1048577 a0 a1 R st := by kernel_rfl

theorem law6L {s : List UInt8} {r : RV} (hr : r.ok) {L : Int} (hL1 : 1048576 < L) (hL2 : L ≤ 2 ^ 40) : w6L L (.str s) (vR r) (fun v _ => v = .bool true) [] := by
  obtain ⟨n, hg⟩ := great_pu hr
  have hb : BoxR [LObj.cells .rw (rc r)] 0 r := rfl
  simp only [w6L, lbox_rc, bd2_some, lenStr_str, bd_some, bInt_int, lint_gtr, List.nil_append, List.length_nil, hb.ldA, bsel_dec]
  refine ⟨fun _ => awake17 rfl, fun _ => hg.call ?_⟩
  simp only [bInt_int, lint_gtr, bd_some, bsel_dec]
  refine ⟨fun _ => awake17 rfl, fun _ => awake17 ?_⟩
  simp only [lun_not, bd_some, Bool.not_true, bsel_false, hb.ldA]
  refine (clean_pu hr).call ?_
  refine (to_pu _ _ (Nat.lt_succ_self _) (cln_ok hr)).call ?_
  generalize cln r = t
  simp only [nw_eq, put_new, lmk_some, bd2_some]
  refine (find_nil s).call ?_
  have e6 : ∀ {st : LState}, stV (st ++ [.cells .rw [.str [], .nilp, .bool false, .bool false, .bool false, .bool false]]) 6 (.ptr st.length 0) aT = some (st ++ [.cells .rw [.str [], .nilp, .bool false, .bool false, .bool false, .bool false]]) := fun {st} => by
    have h := stV_agg (st := st ++ [LObj.cells .rw [.str [], .nilp, .bool false, .bool false, .bool false, .bool false]]) (o := st.length) (k := 0) (m := .rw) (l := [.str [], .nilp, .bool false, .bool false, .bool false, .bool false]) (vs := [.str [], .nilp, .bool false, .bool false, .bool false, .bool false]) (n := 6) get_app_new (by simp) rfl rfl
    refine h.trans ?_
    congr 1
    simp [splice]
  have g1 : ∀ {y : LObj}, ldA ([LObj.cells .rw (rc r)] ++ [.cells .rw [lvT t]] ++ [y]) (.ptr [LObj.cells .rw (rc r)].length 0) 1 = some (vT t) := get_new2
  simp only [lextract_tup, List.getElem?_cons_zero, List.getElem?_cons_succ, bd_some, e6, lmk_some, bd2_some, g1]
  refine (fits_nil t).call ?_
  simp only [lextract_tup, List.getElem?_cons_zero, List.getElem?_cons_succ, bd_some]
  refine (fill_nil t).call ?_
  have g2 : ∀ {y z : LObj}, ldA ([LObj.cells .rw (rc r)] ++ [.cells .rw [lvT t]] ++ [y] ++ [z]) (.ptr [LObj.cells .rw (rc r)].length 0) 1 = some (vT t) := fun {y z} => ldA_of (get_app (get_app get_app_new)) (by simp)
  simp only [lextract_tup, List.getElem?_cons_zero, List.getElem?_cons_succ, bd_some, put_new, lmk_some, bd2_some, g2]
  refine (holds_nil t).call ?_
  simp only [lextract_tup, List.getElem?_cons_zero, List.getElem?_cons_succ, bd_some]
  obtain ⟨z, hz, hm⟩ := make_zero (st := [LObj.cells .rw (rc r)] ++ [.cells .rw [lvT t]] ++ [.cells .rw [.str [], .nilp, .bool false, .bool false, .bool false, .bool false]] ++ [.cells .rw [lvT .null]]) (N := L.toNat) (L := L) (by omega) (by omega)
  refine hm fun st' => ?_
  refine (parse_long z (by omega)).call ?_
  simp only [lextract_tup, List.getElem?_cons_zero, List.getElem?_cons_succ, bd_some, lun_not, Bool.not_false, bsel_true, bInt_int, lint_eql, beq_self_eq_true]
  refine print_nil.call ?_
  simp only [bStr_str, lstr_eql, beq_self_eq_true, bd_some, bsel_true]
  refine version_nil.call ?_
  simp only [bInt_int, lint_eql, beq_self_eq_true, bd_some, bsel_true]
  refine attrs_nil.call ?_
  simp only [lenSl_nils, bInt_int, lint_eql, beq_self_eq_true, bd_some, bsel_true]
  refine same_nil.call ?_
  simp only [bsel_true, eqPtr_nn, eqB_some, eqOut_eql, bd_some]

theorem law6 {s : List UInt8} {r : RV} (hr : r.ok) : LCalls Tryz.prog 6 [.str s, vR r] [] fun v _ => v = .bool true :=
  c6 _ _ (Eq.mpr (w6L_eq _ _ _ _) (law6L hr (by decide) (by decide)))

theorem schemaNone_law {H : Type} {xs : List LV} {ds : List (DataW H)} (h : TypedDs Tryz.prog [9, 49] xs ds) (hb : Rows.uptoBulkAll ds ≤ 1048576) : LCalls Tryz.prog 6 xs [] fun v _ => v = .bool true := by
  obtain ⟨x0, _, d0, _, rfl, rfl, ⟨n0, cs0, _, a2, a3⟩, x1, _, d1, _, rfl, rfl, ⟨n1, cs1, b1, _, b3⟩, rfl, rfl⟩ := h
  have i0 : isStructT Tryz.prog 9 = false := by kernel_rfl
  have i1 : isStructT Tryz.prog 49 = true := by kernel_rfl
  rw [a2 i0] at a3
  obtain ⟨s, e, _⟩ := td_str a3
  simp only [List.cons.injEq, and_true] at e
  subst e
  rw [if_pos i1] at b1
  subst b1
  simp only [Rows.uptoBulkAll] at hb
  obtain ⟨r, rfl, hr⟩ := typed_rv (N := 1048576) (by unfold big; omega) n1 b3 (by omega)
  exact law6 hr

end Go.Proofs.YtknegckgmklnhaaGreatDoor

