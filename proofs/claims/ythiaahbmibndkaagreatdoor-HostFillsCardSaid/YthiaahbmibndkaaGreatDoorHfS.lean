/- HostFills: Names, and Do. -/
import Derived.Test.YthiaahbmibndkaaGreatDoorHfRun
import Derived.Test.YthiaahbmibndkaaGreatDoorHfShelf
import Derived.Test.YthiaahbmibndkaaGreatDoorCp26
namespace Go.Proofs.YthiaahbmibndkaaGreatDoor
open Go Go.CP Go.RowKit Go.Maps Go.Sort Go.Shelf
set_option maxRecDepth 100000

variable {R : LV → LState → Prop} {st : LState}

theorem sorts21 (m : Nat) : AnyZ.SortsIn Tryz.prog Tryz.sorted21_ren Fence.wide m :=
  ⟨fun blk off cap ss W hH hblk hsz => callsIn_wide.2 (AnyM.slices_Sort_string Tryz.sort36 blk off cap ss W hH hblk hsz),
   fun p cap W => callsIn_wide.2 (AnyM.slices_Sort_string_none Tryz.sort36 p cap W)⟩

theorem keys22_calls (mb : Option Nat) (W : World) : Calls Tryz.prog 22 #[.map mb] W fun e w' => e = .returned (.func (.func 37) #[] #[.pointer (some ⟨W.heap.size, 0, none⟩)]) ∧ w' = W.alloc (.cells #[.map mb] 67) :=
  callsIn_wide.1 (AnyZ.keys_in Tryz.keys22 Fence.wide 5 trivial rfl mb W)

theorem gives37 (Bm b nn : Nat) (D0 : DataW Unit) (w : World) (h1 : Bm < w.heap.size) (h2 : w.cell? ⟨Bm, 0, none⟩ = some (.map (some b))) (h3 : w.ownsMap Tryz.prog 9 rAny b nn D0) :
    SeqGives Fence.wide 2 Tryz.prog 37 #[.pointer (some ⟨Bm, 0, none⟩)] encStr (fun ss => ss.Perm (strKeys D0)) (Maps.size D0) w :=
  AnyZ.keys_gives (ρ := Tryz.keys22_ren) { Tryz.keys22 with } Fence.wide _ trivial rfl (by omega) Bm b nn D0 w h1 h2 h3

theorem sorted21_calls (lb : Array Value) (S : List (List UInt8) → Prop) (N : Nat) (w : World) (hN : N ≤ maxLen) (hNb : N * 16 ≤ 140737488355328) (hseq : SeqGives Fence.wide 2 Tryz.prog 37 lb encStr S N w) :
    Calls Tryz.prog 21 #[.func (.func 37) #[] lb] w fun e w' => ∃ (v : Value) (ss : List (List UInt8)), e = .returned v ∧ S ss ∧
      w'.ownsRow w.heap.size 9 1 v ss.length ((ss.mergeSort (fun x y => decide (x ≤ y))).map encStr) ∧ (v = .slice none 0 0 ↔ ss = []) ∧ Below w.heap.size w w' :=
  callsIn_wide.1 (AnyZ.sorted_in Tryz.sorted21 Fence.wide 5 trivial trivial trivial trivial rfl (by omega) (sorts21 _) (enters_of Tryz.func36 (by kernel_rfl) rfl) 37 lb trivial (enters_of Tryz.func37 (by kernel_rfl) rfl) S N hN hNb w hseq)

/-- Names: as many as there are providers. -/
theorem names_spec {es : List (LV × LV)} {bs : List Nat} {k : Nat} {ks : List (List UInt8)} {a b : LV} (h4 : st[4]? = some (.cells .rw [.map 1, a, b])) (h1 : st[1]? = some (.map .rw es bs k)) (hks : strsOf es = some ks) (hnd : ks.Nodup)
    (hlen : ∀ s ∈ ks, s.length ≤ 100) (hn : ks.length ≤ 100) (h : ∀ v ext, lenSl v = some (i64 ks.length) → R v (st ++ ext)) : LCalls Tryz.prog 8 [.ptr 4 0] st R := by
  apply c8
  simp only [w8, eqPtr_pn, eqB_some, eqOut_eql, bd_some, bsel_false, lnilCheck_ptr, fAddr_ptr, Nat.zero_add, ld1_of h4, List.getElem?_cons_zero]
  refine keys_spec (M := 67) ⟨Tryz.f22, bodyOf Tryz.f22, Tryz.func22, by kernel_rfl, by kernel_rfl⟩ keys22_calls (.inr ⟨_, rfl⟩) ?_
  refine sorted_spec (K := 9) (by kernel_rfl) ⟨Tryz.f21, bodyOf Tryz.f21, Tryz.func21, by kernel_rfl, by kernel_rfl⟩ sorted21_calls gives37 (o := st.length) (om := 1) get_app_new (get_app h1) hks hnd
    (fun s hs => Nat.le_trans (hlen s hs) (by unfold maxLen; omega)) (Nat.le_trans hn (by unfold maxLen; omega)) (by omega) (fun e => ?_) (fun e => ?_)
  · subst e; exact h .nils [_] rfl
  · rw [List.append_assoc]; exact h _ _ rfl

/-- What is there of the first provider: j commands wait. -/
structure HS (st : LState) (f : Option Nat) (j : Nat) : Prop where
  h : st[4]? = some (.cells .rw [.map 1, .ptr 3 0, i64 0])
  m : ∃ es bs k, st[1]? = some (.map .rw es bs k) ∧ mfind (.str [112, 97]) es = some (some (.ptr 14 0))
  p : st[14]? = some (.cells .rw [.ptr 12 0, .str [112, 97], i64 7, .ptr 13 0, .nilp])
  kp : st[12]? = some (.cells .rw [.ptr 10 0, i64 4096, i64 3, i64 1, i64 0, .nilp])
  q : st[13]? = some (.cells .rw [osl f 10 j, i64 8, i64 j])
  own : ∃ cs, Own st f 10 j cs
  far : ∀ o, f = some o → 14 < o
  bx : st[0]? = some bx

theorem HS.fr {st' : LState} {f : Option Nat} {j : Nat} (hs : HS st f j) (hf : Fr st st' (fun _ => False)) : HS st' f j := by
  obtain ⟨es, bs, k, hm, hk⟩ := hs.m
  obtain ⟨cs, hcs⟩ := hs.own
  exact ⟨hf.get hs.h id, ⟨es, bs, k, hf.get hm id, hk⟩, hf.get hs.p id, hf.get hs.kp id, hf.get hs.q id, ⟨cs, hcs.fr hf fun _ _ h => h⟩, hs.far, hf.get hs.bx id⟩

variable {f : Option Nat} {j : Nat}

theorem of_spec (hs : HS st f j) (h : ∀ st', HS st' f j → Fr st st' (fun _ => False) → st'[st.length]? = some (.cells .rw [.ptr 14 0, .ptr 4 0, .nils]) → R (.tup [.ptr st.length 0, i64 0]) st') :
    LCalls Tryz.prog 18 [.ptr 4 0, .str [112, 97]] st R := by
  apply c18
  obtain ⟨es, bs, k, hm, hf⟩ := hs.m
  have hg : mget st true (some .nilp) (.map 1) (.str [112, 97]) true = some (.tup [.ptr 14 0, .bool true]) := by simp [mget, plainKey, mapOf, hm, hf]
  simp only [w18, eqPtr_pn, eqB_some, eqOut_eql, bd_some, bsel_false, lnilCheck_ptr, fAddr_ptr, Nat.zero_add, ld1_of hs.h, List.getElem?_cons_zero, List.getElem?_cons_succ, hg, lextract_tup, lun_not, Bool.not_true]
  exact h _ (hs.fr Fr.app) Fr.app get_app_new

theorem state_spec (hs : HS st f j) (h : R (i64 1) st) : LCalls Tryz.prog 23 [.ptr 12 0] st R := by
  apply c23
  simp only [w23, eqPtr_pn, eqB_some, eqOut_eql, bd_some, bsel_false, lnilCheck_ptr, fAddr_ptr, Nat.zero_add, ld1_of hs.kp, List.getElem?_cons_zero, List.getElem?_cons_succ]
  exact h

theorem clone_nil (h : R .nils st) : LCalls Tryz.prog 24 [.nils] st R := by
  apply c24
  exact h

theorem qlen_spec (hs : HS st f j) (h : R (i64 j) st) : LCalls Tryz.prog 27 [.ptr 13 0] st R := by
  apply c27
  obtain ⟨cs, hcs⟩ := hs.own
  simp only [w27, eqPtr_pn, eqB_some, eqOut_eql, bd_some, bsel_false, lnilCheck_ptr, fAddr_ptr, Nat.zero_add, ld1_of hs.q, List.getElem?_cons_zero, List.getElem?_cons_succ, hcs.lenSl]
  exact h

theorem waiting_spec (hs : HS st f j) (h : ∀ st', HS st' f j → R (i64 j) st') : LCalls Tryz.prog 11 [.ptr 4 0, .str [112, 97]] st R := by
  apply c11
  unfold w11
  refine of_spec hs fun s hs' _ hr => ?_
  have : (List.length st : Nat) = st.length := rfl
  simp only [lextract_tup, List.getElem?_cons_zero, List.getElem?_cons_succ, bd_some, bInt_int, lint_neq, bsel_false, lnilCheck_ptr, fAddr_ptr, Nat.zero_add, ld1_of hr, ld1_of hs'.p, bne_self_eq_false]
  exact qlen_spec hs' (h _ hs')

theorem busy_spec (hs : HS st f j) (h : ∀ st', HS st' f j → R (.bool false) st') : LCalls Tryz.prog 12 [.ptr 4 0, .str [112, 97]] st R := by
  apply c12
  unfold w12
  refine of_spec hs fun s hs' _ hr => ?_
  simp only [lextract_tup, List.getElem?_cons_zero, List.getElem?_cons_succ, bd_some, bInt_int, lint_eql, bsel_true, lnilCheck_ptr, fAddr_ptr, Nat.zero_add, ld1_of hr, ld1_of hs'.p, beq_self_eq_true, eqPtr_nn, eqB_some, eqOut_neq, Bool.not_true]
  exact h _ hs'

/-- A command's cells. -/
def cmdL (ix : Int) : List LV := [i64 0, .str [112, 97], .str [118, 109], .str [97], i64 ix, .nili, .nils, .txt, i64 0]
def taskL (ix : Int) : List LV := [i64 0, .str [112, 97], .str [118, 109], .str [97], i64 ix, .nili, .nils, .txt]

theorem put_full {ix : Int} (hs : HS st f j) (hj : 8 ≤ j) (h : ∀ st', HS st' f j → R (.tup [i64 0, i64 10]) st') : LCalls Tryz.prog 25 [.ptr 13 0, .agg (cmdL ix)] st R := by
  apply c25
  have hb : lbox st (.agg (cmdL ix)) = some (.ptr st.length 0, st ++ [.cells .rw (cmdL ix)]) := rfl
  have hs1 : HS (st ++ [.cells .rw (cmdL ix)]) f j := hs.fr Fr.app
  obtain ⟨cs, hcs⟩ := hs1.own
  simp only [w25, hb, bd2_some, eqPtr_pn, eqB_some, eqOut_eql, bd_some, bsel_false, lnilCheck_ptr, fAddr_ptr, Nat.zero_add, ld1_of hs1.q, List.getElem?_cons_zero, List.getElem?_cons_succ, hcs.lenSl, bInt_int, lint_geq, bsel_dec]
  exact ⟨fun _ => h _ hs1, fun hn => absurd (by omega : (j : Int) ≥ 8) hn⟩

theorem put_spec {ix : Int} (hs : HS st f j) (hj : j < 8) (h : ∀ st' f', HS st' f' (j + 1) → (∀ o x, st[o]? = some x → (o ≠ 13 ∧ f ≠ some o) → st'[o]? = some x) → R (.tup [i64 (j + 1), i64 0]) st') : LCalls Tryz.prog 25 [.ptr 13 0, .agg (cmdL ix)] st R := by
  apply c25
  have hb : lbox st (.agg (cmdL ix)) = some (.ptr st.length 0, st ++ [.cells .rw (cmdL ix)]) := rfl
  have hs1 : HS (st ++ [.cells .rw (cmdL ix)]) f j := hs.fr Fr.app
  have hbox : (st ++ [LObj.cells .rw (cmdL ix)])[st.length]? = some (.cells .rw (cmdL ix)) := get_app_new
  have hfr0 : Fr st (st ++ [LObj.cells .rw (cmdL ix)]) (fun _ => False) := Fr.app
  rw [show w25 (.ptr 13 0) (.agg (cmdL ix)) R st = _ from rfl]
  unfold w25
  rw [hb, bd2_some]
  have h14 : 14 < st.length := get_lt hs.p
  generalize hL : st.length = L at *
  generalize st ++ [LObj.cells .rw (cmdL ix)] = s0 at *
  obtain ⟨cs, hcs⟩ := hs1.own
  have hd := hs1.q
  have hw : IntKind.i64.wrap ((j : Int) + 1) = (j : Int) + 1 := wrap_i64 (by omega) (by omega)
  simp only [eqPtr_pn, eqB_some, eqOut_eql, bd_some, bsel_false, lnilCheck_ptr, fAddr_ptr, Nat.zero_add, ld1_of hd, List.getElem?_cons_zero, List.getElem?_cons_succ, hcs.lenSl, bInt_int, lint_geq, lint_add, bsel_dec, hw]
  refine ⟨fun _ => by omega, fun _ => ?_⟩
  rw [stV_of hd (by simp) rfl]
  have hd1 : (s0.set 13 (.cells .rw [osl f 10 j, i64 8, i64 (j + 1)]))[13]? = some (.cells .rw [osl f 10 j, i64 8, i64 (j + 1)]) := get_set hd
  have hbox1 : (s0.set 13 (.cells .rw [osl f 10 j, i64 8, i64 (j + 1)]))[L]? = some (.cells .rw (cmdL ix)) := by
    rw [List.getElem?_set_ne (by omega)]; exact hbox
  simp only [lmk_some, bd2_some, List.set_cons_succ, List.set_cons_zero, ld1_of hd1, List.getElem?_cons_zero, List.getElem?_cons_succ, bd_some]
  rw [ldA_of hbox1 (by simp [cmdL])]
  rw [show (List.take 9 (List.drop 0 (cmdL ix))) = cmdL ix from rfl, bd_some]
  rw [show mkAgg (lfill (placesL [(0, 9), (9, 1)]) [LV.int IntKind.i64 0, LV.str [], LV.str [], LV.str [], LV.int IntKind.i64 0, LV.nili, LV.nils, LV.str [], LV.int IntKind.i64 0, LV.int IntKind.i64 0] [(0, .agg (cmdL ix)), (1, i64 (j + 1))])
    = some (.agg (cmdL ix ++ [i64 (j + 1)])) from rfl]
  rw [bd_some, show lfill (fun i => some (i * 10, 10)) (List.replicate 1 [LV.int IntKind.i64 0, LV.str [], LV.str [], LV.str [], LV.int IntKind.i64 0, LV.nili, LV.nils, LV.str [], LV.int IntKind.i64 0, LV.int IntKind.i64 0]).flatten [(0, .agg (cmdL ix ++ [i64 (j + 1)]))]
    = some (cmdL ix ++ [i64 (j + 1)]) from rfl]
  simp only [slNew_some, bd2_some]
  have hne13 : f ≠ some 13 := fun e => by have := hs.far 13 e; omega
  generalize hsg : s0.set 13 (.cells .rw [osl f 10 j, i64 8, i64 (j + 1)]) = s1 at *
  have f1 : Fr s0 s1 (fun o => o = 13) := by subst hsg; exact Fr.set rfl
  have o1 : Own s1 f 10 j cs := by
    subst hsg; exact hcs.fr (S := fun o => o = 13) (Fr.set rfl) (fun o e e' => hne13 (by rw [e, e']))
  have hd2 := get_app (y := .cells .rw (cmdL ix ++ [i64 (j + 1)])) hd1
  rw [ld1_of hd2]
  refine ⟨rfl, ?_⟩
  have o2 := o1.fr (S := fun _ => False) (Fr.app (y := .cells .rw (cmdL ix ++ [i64 (j + 1)]))) (fun _ _ h => h)
  obtain ⟨s3, f3, ha, o3, fr3, hf3, _⟩ := o2.append (bytes := 136) (x := .sl s1.length 0 1 (.ex 1)) (k := 1) (new := cmdL ix ++ [i64 (j + 1)])
    (by simp [lsrc, cmdL]) (by omega) rfl rfl (by simp [room47]; omega)
  rw [ha, bd2_some]
  have hd3 := fr3.get hd2 hne13
  rw [stV_of hd3 (by simp) (by cases f3 <;> rfl)]
  have hd4 := get_set (y := .cells .rw [osl f3 10 (j + 1), i64 8, i64 (j + 1)]) hd3
  simp only [lmk_some, bd2_some, List.set_cons_zero]
  rw [ld1_of hd4]
  have hl1 : s1.length = s0.length := by subst hsg; simp
  have hL0 : L < s0.length := get_lt hbox
  have hne3 : f3 ≠ some 13 := fun e => by
    rcases hf3 13 e with e' | e'
    · exact hne13 e'
    · simp at e'; omega
  have hfar3 : ∀ o, f3 = some o → 14 < o := fun o e => by
    rcases hf3 o e with e' | e'
    · exact hs.far o e'
    · simp at e'; omega
  -- what is kept
  have keep : ∀ o x, s0[o]? = some x → o ≠ 13 → f ≠ some o → (s3.set 13 (.cells .rw [osl f3 10 (j + 1), i64 8, i64 (j + 1)]))[o]? = some x := by
    intro o x hx h13 hfo
    rw [List.getElem?_set_ne (Ne.symm h13)]
    exact fr3.get (get_app (f1.get hx h13)) hfo
  obtain ⟨es, bs, k, hm, hmk⟩ := hs1.m
  have nf : ∀ o, o ≤ 14 → f ≠ some o := fun o ho e => by have := hs.far o e; omega
  refine h _ f3 ⟨keep 4 _ hs1.h (by omega) (nf 4 (by omega)), ⟨es, bs, k, keep 1 _ hm (by omega) (nf 1 (by omega)), hmk⟩, keep 14 _ hs1.p (by omega) (nf 14 (by omega)), keep 12 _ hs1.kp (by omega) (nf 12 (by omega)), hd4, ?_, hfar3,
    keep 0 _ hs1.bx (by omega) (nf 0 (by omega))⟩ fun o x hx hn => keep o x (hfr0.get hx id) hn.1 hn.2
  exact ⟨_, o3.fr (S := fun o => o = 13) (Fr.set rfl) (fun o e e' => hne3 (by rw [e, e']))⟩

/-- pump: nothing can go on: the provider isn't ready. -/
theorem pump_spec {r : Nat} (hs : HS st f j) (hr : st[r]? = some (.cells .rw [.ptr 14 0, .ptr 4 0, .nils])) (h : R (.tup []) st) : LCalls Tryz.prog 26 [.ptr r 0] st R := by
  apply c26
  unfold w26
  apply p26_1
  simp only [w26_1, lnilCheck_ptr, fAddr_ptr, Nat.zero_add, ld1_of hr, ld1_of hs.p, List.getElem?_cons_zero, List.getElem?_cons_succ, bd_some]
  refine state_spec hs ?_
  simp only [bInt_int, lint_eql, bd_some]
  exact h

end Go.Proofs.YthiaahbmibndkaaGreatDoor
