/- HostNone, over the clean machine. -/
import Derived.Test.YtgpllhhgfbkakaaGreatDoorHoW8
import Derived.Test.YtgpllhhgfbkakaaGreatDoorCm33
import Derived.Test.YtgpllhhgfbkakaaGreatDoorCm34
namespace Go.Proofs.YtgpllhhgfbkakaaGreatDoor
open Go Go.CM
set_option maxRecDepth 100000

abbrev i64 (n : Int) : LV := .int .i64 n

variable {R : LV → LState → Prop} {st : LState}

/-- Values that are told less of. -/
def Wk : List LV → List LV → Prop
  | [], [] => True
  | x :: xs, y :: ys => (y = x ∨ y = .junk) ∧ Wk xs ys
  | _, _ => False

theorem Rps.wk {β : Lay} : ∀ {xs ys : List LV} {vs : List Value}, Wk xs ys → Rps β xs vs → Rps β ys vs
  | [], [], _, _, h => h
  | x :: xs, y :: ys, _, hw, ⟨v, us, e, r, s⟩ => ⟨v, us, e, by rcases hw.1 with e | e <;> subst e <;> first | exact r | trivial, Rps.wk hw.2 s⟩

theorem LCalls.wk {P : Program} {f : FuncId} {xs ys : List LV} {st : LState} {R : LV → LState → Prop} (h : LCalls P f ys st R) (hw : Wk xs ys) : LCalls P f xs st R := by
  rcases h with h | h
  · exact .inl ⟨h.1, fun w0 β w vs h1 h2 => h.2 w0 β w vs h1 (Rps.wk hw h2)⟩
  · exact .inr fun w0 β w vs h1 h2 => h w0 β w vs h1 (Rps.wk hw h2)

theorem nil_call {f : FuncId} {xs ys : List LV} {v : LV} (h : (lrun Tryz.prog 10000 40 f ys []).map (·.1) = some v) (hx : LV.plains ys = true) (hv : v.plain = true) (hw : Wk xs ys) (hR : R v st) : LCalls Tryz.prog f xs st R :=
  LCalls.wk (lrun_forget cm_mixed h hx hv hR) hw

theorem awake_run : (lrun Tryz.prog 100000 60 4 [] []).map (·.1) = some (.bool true) := by kernel_rfl
def set0 : LV := .agg [i64 1, i64 4, i64 3, i64 5, i64 4096, i64 3, i64 7]
theorem setting_run : (lrun Tryz.prog 10000 40 6 [] []).map (·.1) = some set0 := by kernel_rfl
theorem add_run : (lrun Tryz.prog 10000 40 5 [.nilp, .junk, set0] []).map (·.1) = some (.tup [.nils, i64 11]) := by kernel_rfl
theorem spawned_run : (lrun Tryz.prog 10000 40 7 [.nilp, .junk, .bool true] []).map (·.1) = some (.tup [.nils, i64 11]) := by kernel_rfl
theorem event_run : (lrun Tryz.prog 10000 40 25 [.nilp, .junk, .junk] []).map (·.1) = some (.tup [.nils, i64 11]) := by kernel_rfl
theorem gone_run : (lrun Tryz.prog 10000 40 9 [.nilp, .junk] []).map (·.1) = some (.tup [.nils, i64 11]) := by kernel_rfl
def task0 : LV := .agg [i64 0, .str [], .str [], .str [], i64 0, .nili, .nils, .str []]
theorem do_run : (lrun Tryz.prog 10000 40 10 [.nilp, task0] []).map (·.1) = some (.tup [i64 0, .nils, i64 11]) := by kernel_rfl
theorem state_run : (lrun Tryz.prog 10000 40 11 [.nilp, .junk] []).map (·.1) = some (.tup [i64 0, .bool false]) := by kernel_rfl
theorem tick_run : (lrun Tryz.prog 10000 40 12 [.nilp, .junk] []).map (·.1) = some .nils := by kernel_rfl
theorem store_run : (lrun Tryz.prog 10000 40 13 [.nilp] []).map (·.1) = some .nilp := by kernel_rfl
theorem waiting_run : (lrun Tryz.prog 10000 40 14 [.nilp, .junk] []).map (·.1) = some (i64 0) := by kernel_rfl
theorem busy_run : (lrun Tryz.prog 10000 40 15 [.nilp, .junk] []).map (·.1) = some (.bool false) := by kernel_rfl
theorem now_run : (lrun Tryz.prog 10000 40 16 [.nilp] []).map (·.1) = some (i64 0) := by kernel_rfl
theorem names_run : (lrun Tryz.prog 10000 40 17 [.nilp] []).map (·.1) = some .nils := by kernel_rfl

theorem awake_spec (h : R (.bool true) st) : LCalls Tryz.prog 4 [] st R := lrun_forget cm_mixed awake_run rfl rfl h

theorem lbox_ok {x : LV} (h : x.ok = true) : lbox st x = some (lnew st x.cells) := by simp [lbox, h]

/-- Feed, of no host -/
theorem feed_spec {s b : LV} (hb : b.ok = true) (h : ∀ st', R (.tup [.nils, i64 11]) st') : LCalls Tryz.prog 8 [.nilp, s, b] st R := by
  apply c8
  simp only [w8, lbox_ok (show (LV.nilp).ok = true from rfl), lbox_ok hb, lnew, bd2_some]
  rw [ld1_of (get_app get_app_new)]
  refine (show bd (some LV.nilp) _ from ?_)
  rw [bd_some]
  refine nil_call event_run rfl rfl ⟨.inl rfl, .inr rfl, .inr rfl, trivial⟩ ?_
  simp only [lextract_tup, List.getElem?_cons_zero, List.getElem?_cons_succ, bd_some]
  exact h _

/-- HostNone -/
theorem host_law {s : List UInt8} {b n : LV} {l : Int} (hb : b.ok = true) (hl : lenSl b = some (i64 l)) (h : ∀ st', R (.bool true) st') : LCalls Tryz.prog 3 [.str s, b, n] st R := by
  apply c3
  simp only [w3, lenStr_str, hl, bd_some, bInt_int, lint_gtr, bsel_dec]
  refine ⟨fun _ => awake_spec (h _), fun _ => ⟨fun _ => awake_spec (h _), fun _ => ?_⟩⟩
  refine awake_spec ?_
  simp only [lun_not, Bool.not_true, bd_some, bsel_false]
  refine lrun_forget cm_mixed setting_run rfl rfl ?_
  refine nil_call add_run rfl rfl ⟨.inl rfl, .inr rfl, .inl rfl, trivial⟩ ?_
  simp only [lextract_tup, List.getElem?_cons_zero, List.getElem?_cons_succ, bd_some]
  refine nil_call spawned_run rfl rfl ⟨.inl rfl, .inr rfl, .inl rfl, trivial⟩ ?_
  simp only [lextract_tup, List.getElem?_cons_zero, List.getElem?_cons_succ, bd_some]
  refine feed_spec hb fun s1 => ?_
  simp only [lextract_tup, List.getElem?_cons_zero, List.getElem?_cons_succ, bd_some]
  refine nil_call gone_run rfl rfl ⟨.inl rfl, .inr rfl, trivial⟩ ?_
  simp only [lextract_tup, List.getElem?_cons_zero, List.getElem?_cons_succ, bd_some]
  refine (show bd (some task0) _ from ?_)
  rw [bd_some]
  refine lrun_forget cm_mixed do_run rfl rfl ?_
  simp only [lextract_tup, List.getElem?_cons_zero, List.getElem?_cons_succ, bd_some]
  refine nil_call state_run rfl rfl ⟨.inl rfl, .inr rfl, trivial⟩ ?_
  simp only [lextract_tup, List.getElem?_cons_zero, List.getElem?_cons_succ, bd_some, bInt_int, lint_eql, beq_self_eq_true, bsel_true, lun_not, Bool.not_false]
  refine nil_call tick_run rfl rfl ⟨.inl rfl, .inr rfl, trivial⟩ ?_
  simp only [lenSl_nils, bd_some, bInt_int, lint_eql, beq_self_eq_true, bsel_true]
  refine lrun_forget cm_mixed store_run rfl rfl ?_
  simp only [eqPtr_nn, eqB_some, eqOut_eql, bd_some, bsel_true]
  refine nil_call waiting_run rfl rfl ⟨.inl rfl, .inr rfl, trivial⟩ ?_
  simp only [bInt_int, lint_eql, beq_self_eq_true, bd_some, bsel_true]
  refine nil_call busy_run rfl rfl ⟨.inl rfl, .inr rfl, trivial⟩ ?_
  simp only [lun_not, Bool.not_false, bd_some, bsel_true]
  refine lrun_forget cm_mixed now_run rfl rfl ?_
  simp only [bInt_int, lint_eql, beq_self_eq_true, bd_some, bsel_true]
  refine lrun_forget cm_mixed names_run rfl rfl ?_
  simp only [lenSl_nils, bd_some, bInt_int, lint_eql, beq_self_eq_true]
  exact h _

end Go.Proofs.YtgpllhhgfbkakaaGreatDoor
