/- The document's values, cleaned: all of it. -/
/- The clean machine, part 46: a slice that owns its object is handed over for good: from then on it is not written again. -/
/- Values made of the document's clean ones. -/
import Derived.Test.YtknegckgmklnhaaGreatDoorVaC2
import Derived.Test.YtknegckgmklnhaaGreatDoorVaR
import Derived.Test.YtknegckgmklnhaaGreatDoorVaV6
namespace Go.Proofs.YtknegckgmklnhaaGreatDoor
open Go Go.CP
set_option maxRecDepth 100000

theorem ins_len {es : List (List UInt8 × T)} {k : List UInt8} {t : T} : (ins es k t).length ≤ es.length + 1 := by
  unfold ins
  have := pos_le (es := es) (k := k)
  split
  · omega
  · simp; omega

theorem insAll_snoc {l : List (List UInt8 × T)} {e : List UInt8 × T} : insAll (l ++ [e]) = ins (insAll l) e.1 e.2 := by simp [insAll]

theorem insAll_len {l : List (List UInt8 × T)} : (insAll l).length ≤ l.length := by
  have h : ∀ (l es : List (List UInt8 × T)), (l.foldl (fun es e => ins es e.1 e.2) es).length ≤ es.length + l.length := by
    intro l
    induction l with
    | nil => intro es; simp
    | cons e l ih =>
      intro es
      have h1 := ih (ins es e.1 e.2)
      have h2 := ins_len (es := es) (k := e.1) (t := e.2)
      simp only [List.foldl_cons, List.length_cons]; omega
  have := h l []
  simpa [insAll] using this

/-- The loop of a map. -/
theorem loop5 {r : RV} (hr : r.ok) (hrec : ∀ x ∈ r.l, Pu Tryz.prog 27 [vR x] (vR (rT (cln x)))) {R : LV → LState → Prop} {o1 o2 o5 : Nat} (h12 : o1 ≠ o2) (h15 : o1 ≠ o5) (h25 : o2 ≠ o5) {x3 x4 : LV} {z : List LV} (hz : z.length = 7)
    (hR : ∀ v s, dp s (vR (rT (.map (insAll (r.ks.zip (r.l.map cln)))))) v → R v s) :
    ∀ (d i : Nat) (fL fK : Option Nat) (st : LState) (x7 : LV), i + d = min r.l.length r.ks.length → MInv st r o1 o2 o5 z fL fK (insAll ((r.ks.zip (r.l.map cln)).take i)) → P27_5 (.ptr o1 0) (.ptr o2 0) x3 x4 (.ptr o5 0) (i64 i) x7 R st := by
  have hbig := (RV.ok_l hr).1
  have fin : ∀ (i : Nat) (fL fK : Option Nat) (st : LState), i = min r.l.length r.ks.length → MInv st r o1 o2 o5 z fL fK (insAll ((r.ks.zip (r.l.map cln)).take i)) →
      bd (ldA st (.ptr o5 0) 7) fun v12 => bd2 (lmk (stV st 7 (.ptr o2 0) v12)) fun _v13 st14 => bd (ldA st14 (.ptr o2 0) 7) fun v15 => R v15 st14 := by
    intro i fL fK st hi hI
    rw [List.take_of_length_le (by simp; omega)] at hI
    have e1 := agg7 hI.h5 rfl
    generalize insAll (r.ks.zip (r.l.map cln)) = es at hI hR e1
    have e2 := put7 (vs := [i64 7, .bool false, i64 0, i64 0, .str [], osl fL 7 es.length, osl fK 1 es.length]) hI.h2 hz rfl (by cases fL <;> cases fK <;> rfl)
    have e3 := agg7 (st := st.set o2 (.cells .rw [i64 7, .bool false, i64 0, i64 0, .str [], osl fL 7 es.length, osl fK 1 es.length])) (get_set hI.h2) rfl
    have F : Fr st (st.set o2 (.cells .rw [i64 7, .bool false, i64 0, i64 0, .str [], osl fL 7 es.length, osl fK 1 es.length])) (fun j => j = o2) := Fr.set rfl
    simp only [e1, bd_some, e2, lmk_some, bd2_some, e3]
    refine hR _ _ ?_
    have hL := dp_own (hI.oL.fr F fun o e => (hI.nL o e).2.1) rfl (dps_refl _ rcs_plain)
    have hK := dp_own (hI.oK.fr F fun o e => (hI.nK o e).2.1) rfl (dps_refl _ (plains_map fun _ _ => rfl))
    simp only [rT, rTm_eq]
    refine ⟨_, rfl, _, _, rfl, rfl, _, _, rfl, rfl, _, _, rfl, rfl, _, _, rfl, rfl, _, _, rfl, rfl, _, _, rfl, ?_, _, _, rfl, ?_, rfl⟩
    · rw [List.length_map]; exact hL
    · show dp _ (.isl _ (es.map (·.1)).length none) _
      rw [List.length_map, List.map_map]; exact hK
  intro d
  induction d with
  | zero =>
    intro i fL fK st x7 hi hI
    apply p27_5
    have f := fin i fL fK st (by omega) hI
    simp only [w27_5, fAddr_ptr, Nat.zero_add, bd_some, hI.b.l, hI.b.ks, lenSl_isl, bInt_int, lint_lss, bsel_dec]
    refine ⟨fun h1 => ⟨fun h2 => ?_, fun _ => f⟩, fun _ => f⟩
    omega
  | succ d ih =>
    intro i fL fK st x7 hi hI
    apply p27_5
    have hl1 : i < r.l.length := by omega
    have hl2 : i < r.ks.length := by omega
    have c1 : ((i : Int) < r.l.length) := by omega
    have c2 : ((i : Int) < r.ks.length) := by omega
    simp only [w27_5, fAddr_ptr, Nat.zero_add, bd_some, hI.b.l, hI.b.ks, lenSl_isl, bInt_int, lint_lss, c1, c2, decide_true, bsel_true]
    have hx : r.l[i]? = some r.l[i] := List.getElem?_eq_getElem hl1
    have hk : r.ks[i]? = some r.ks[i] := List.getElem?_eq_getElem hl2
    have hp := hrec _ (List.getElem_mem hl1)
    generalize r.l[i] = x at hx hp
    generalize r.ks[i] = k at hk
    have hlen : (insAll ((r.ks.zip (r.l.map cln)).take i)).length ≤ big := by
      have := insAll_len (l := (r.ks.zip (r.l.map cln)).take i)
      rw [List.length_take] at this; omega
    refine loop8 hI h15 h25 hx hbig hp hk hlen (fun st' fL' fK' x7 h => ih (i + 1) fL' fK' st' x7 (by omega) ?_) _ 0 (Nat.zero_add _)
    have e : (r.ks.zip (r.l.map cln)).take (i + 1) = (r.ks.zip (r.l.map cln)).take i ++ [(k, cln x)] := by
      rw [List.take_add_one]
      have : (r.ks.zip (r.l.map cln))[i]? = some (k, cln x) := by
        rw [List.getElem?_zip_eq_some]; simp [hk, hx]
      rw [this]; rfl
    rw [e, insAll_snoc]; exact h

theorem cln_eq {r : RV} : cln r = if r.k = 1 then .unknown else if r.k = 2 then .bool r.b else if r.k = 3 then .int r.n else if r.k = 4 then .point (clamp r.n) (clamp r.m) else if r.k = 5 then .text r.s
    else if r.k = 6 then .list (r.l.map cln) else if r.k = 7 then .map (insAll (r.ks.zip (r.l.map cln))) else .null := by
  cases r; rw [cln, clns_eq]; rfl

theorem dpR {s : LState} {r : RV} {a b c d e : LV} (h : rc r = [a, b, c, d, e, .isl [] 0 none, .isl [] 0 none]) (pa : LV.plains [a, b, c, d, e] = true) : dp s (vR r) (.agg [a, b, c, d, e, .nils, .nils]) := by
  unfold vR
  rw [h]
  have h0 := dps_refl s pa
  refine ⟨_, rfl, ?_⟩
  have h1 : dps s [LV.isl [] 0 none, .isl [] 0 none] [.nils, .nils] := ⟨_, _, rfl, .inr (.inr ⟨.inr rfl, rfl, rfl⟩), _, _, rfl, .inr (.inr ⟨.inr rfl, rfl, rfl⟩), rfl⟩
  exact dps_app h0 h1

/-- Clean -/
theorem clean_pu : ∀ {r : RV}, r.ok → Pu Tryz.prog 27 [vR r] (vR (rT (cln r))) := fun {r} => by
  refine RV.ind (p := fun r => r.ok → Pu Tryz.prog 27 [vR r] (vR (rT (cln r)))) ?_ _ r (Nat.lt_succ_self _)
  intro r ih hr
  have hrec : ∀ x ∈ r.l, Pu Tryz.prog 27 [vR x] (vR (rT (cln x))) := fun x hx => ih x hx ((RV.ok_l hr).2 x hx)
  refine Pu.of (c27 _ ?_) vR_plains vR_plain
  have hb : BoxR [LObj.cells .rw (rc r), .cells .rw z7] 0 r := rfl
  have h2 : ([LObj.cells .rw (rc r), .cells .rw z7] : LState)[1]? = some (.cells .rw z7) := rfl
  have set2 : ∀ {q : Option LV} {a b c d e : LV}, q = some (.agg [a, b, c, d, e, .nils, .nils]) → [a, b, c, d, e].all LV.one = true → ∀ {Q : LV → LState → Prop}, (∀ s, Q (.agg [a, b, c, d, e, .nils, .nils]) s) →
      bd q fun v7 => bd2 (lmk (stV [LObj.cells .rw (rc r), .cells .rw z7] 7 (.ptr 1 0) v7)) fun _v st9 => bd (ldA st9 (.ptr 1 0) 7) fun v10 => Q v10 st9 := by
    rintro q a b c d e rfl h1 Q hQ
    simp only [bd_some]
    rw [put7 h2 rfl rfl (by simp only [List.all_cons, List.all_nil, Bool.and_true, Bool.and_eq_true] at h1 ⊢; exact ⟨h1.1, h1.2.1, h1.2.2.1, h1.2.2.2.1, h1.2.2.2.2, rfl, rfl⟩)]
    simp only [lmk_some, bd2_some]
    rw [agg7 (get_set h2) rfl]
    exact hQ _
  simp only [w27, lbox_rc, bd2_some, nw_eq, fAddr_ptr, Nat.zero_add, bd_some, List.nil_append, List.cons_append, List.length_nil, List.length_cons]
  simp only [hb.k, hb.b, hb.n, hb.m, hb.s, bd_some, bInt_int, lint_eql, bsel_bool, lmaxs2, lmins2]
  rw [cln_eq]
  refine ⟨fun h => ?_, fun h => ⟨fun g => ?_, fun g => ⟨fun q => ?_, fun q => ⟨fun w => ?_, fun w => ⟨fun u => ?_, fun u => ⟨fun y => ?_, fun y => ⟨fun x => ?_, fun x => ?_⟩⟩⟩⟩⟩⟩⟩ <;> simp only [beq_iff_eq, beq_eq_false_iff_ne, ne_eq] at h <;> try simp only [beq_iff_eq, beq_eq_false_iff_ne, ne_eq] at g
  all_goals try simp only [beq_iff_eq, beq_eq_false_iff_ne, ne_eq] at q
  all_goals try simp only [beq_iff_eq, beq_eq_false_iff_ne, ne_eq] at w
  all_goals try simp only [beq_iff_eq, beq_eq_false_iff_ne, ne_eq] at u
  all_goals try simp only [beq_iff_eq, beq_eq_false_iff_ne, ne_eq] at y
  all_goals try simp only [beq_iff_eq, beq_eq_false_iff_ne, ne_eq] at x
  · rw [if_pos h]
    exact set2 (Q := fun v s => dp s (vR (rT _)) v) rfl rfl fun s => dpR rfl rfl
  · rw [if_neg h, if_pos g]
    exact set2 (Q := fun v s => dp s (vR (rT _)) v) rfl rfl fun s => dpR rfl rfl
  · rw [if_neg h, if_neg g, if_pos q]
    exact set2 (Q := fun v s => dp s (vR (rT _)) v) rfl rfl fun s => dpR rfl rfl
  · rw [if_neg h, if_neg g, if_neg q, if_pos w]
    exact set2 (Q := fun v s => dp s (vR (rT _)) v) rfl rfl fun s => dpR rfl rfl
  · rw [if_neg h, if_neg g, if_neg q, if_neg w, if_pos u]
    exact set2 (Q := fun v s => dp s (vR (rT _)) v) rfl rfl fun s => dpR rfl rfl
  · rw [if_neg h, if_neg g, if_neg q, if_neg w, if_neg u, if_pos y]
    have h3 := put7 (st := [LObj.cells .rw (rc r), .cells .rw z7, .cells .rw z7]) (o := 2) (l := z7) (vs := [i64 6, .bool false, i64 0, i64 0, .str [], .nils, .nils]) rfl rfl rfl rfl
    have e : mkAgg (lfill (placesL [(0, 1), (1, 1), (2, 1), (3, 1), (4, 1), (5, 1), (6, 1)]) z7 [(0, i64 6)]) = some (.agg [i64 6, .bool false, i64 0, i64 0, .str [], .nils, .nils]) := rfl
    simp only [e, h3, bd_some, lmk_some, bd2_some]
    refine loop27_2 hr hrec (z := z7) (by decide) (by decide) (by decide) rfl ?_ r.l.length 0 none _ (by omega) rfl rfl rfl OwnM.nil (fun _ h => by cases h)
    intro v s hd
    simp only [rT, rTs_eq, List.map_map]; exact hd
  · rw [if_neg h, if_neg g, if_neg q, if_neg w, if_neg u, if_neg y, if_pos x]
    have h3 := put7 (st := [LObj.cells .rw (rc r), .cells .rw z7, .cells .rw z7]) (o := 2) (l := z7) (vs := [i64 7, .bool false, i64 0, i64 0, .str [], .nils, .nils]) rfl rfl rfl rfl
    have e : mkAgg (lfill (placesL [(0, 1), (1, 1), (2, 1), (3, 1), (4, 1), (5, 1), (6, 1)]) z7 [(0, i64 7)]) = some (.agg [i64 7, .bool false, i64 0, i64 0, .str [], .nils, .nils]) := rfl
    simp only [e, h3, bd_some, lmk_some, bd2_some]
    refine loop5 hr hrec (z := z7) (by decide) (by decide) (by decide) rfl ?_ (min r.l.length r.ks.length) 0 none none _ _ (by omega) ⟨rfl, rfl, rfl, OwnM.nil, OwnM.nil, (fun _ h => by cases h), (fun _ h => by cases h)⟩
    exact fun v s hd => hd
  · rw [if_neg h, if_neg g, if_neg q, if_neg w, if_neg u, if_neg y, if_neg x]
    exact set2 (Q := fun v s => dp s (vR (rT _)) v) rfl rfl fun s => dpR rfl rfl

end Go.Proofs.YtknegckgmklnhaaGreatDoor

namespace Go.CP

section
open Classical
/-- One object more is not written again. -/
noncomputable def Lay.frz1 (β : Lay) (o : Nat) (w : World) : Lay := ⟨β.o, fun b => if ∃ bl, β o = some bl ∧ bl.blk = b then w.heap[b]? else β.f b, β.n⟩

theorem frz1_le {w0 w : World} {β : Lay} {st : LState} {o : Nat} {y : LObj} (h : Rel w0 β st w) (ho : st[o]? = some y) (hy : y.rw = true) : β.le (β.frz1 o w) := by
  refine ⟨fun _ _ e => e, fun b x e => ?_, rfl, fun b x e l => ?_⟩
  · show (if ∃ bl, β o = some bl ∧ bl.blk = b then w.heap[b]? else β.f b) = some x
    split
    · exact h.froz b x e
    · exact e
  · have e' : (if ∃ bl, β o = some bl ∧ bl.blk = b then w.heap[b]? else β.f b) = some x := e
    split at e'
    · rename_i hF
      obtain ⟨bl, h3, h4⟩ := hF
      have := (h.obj o y ho).newBlk hy h3
      rw [h4, ← h.base] at this
      omega
    · exact e'

theorem Rel.frz1 {w0 w : World} {β : Lay} {st : LState} {o : Nat} {y : LObj} (h : Rel w0 β st w) (ho : st[o]? = some y) (hy : y.rw = true) : Rel w0 (β.frz1 o w) (st.set o .dead) w := by
  have hle := frz1_le h ho hy
  have get : ∀ {i : Nat} {z : LObj}, (st.set o .dead)[i]? = some z → (i = o ∧ z = .dead) ∨ (i ≠ o ∧ st[i]? = some z) := by
    intro i z hz
    by_cases e : i = o
    · subst e
      rw [List.getElem?_set_self (List.getElem?_eq_some_iff.1 ho).1] at hz
      exact .inl ⟨rfl, (Option.some.inj hz).symm⟩
    · rw [List.getElem?_set_ne (Ne.symm e)] at hz
      exact .inr ⟨e, hz⟩
  refine ⟨h.below, fun i hi => h.dom i (by simpa using hi), fun i z hz => ?_, fun i i' z z' b b' hz hzr hz' hzl hne hb hb' => ?_, h.base, fun b x e => ?_, fun i z b hz hzr hb => ?_⟩
  · rcases get hz with ⟨rfl, rfl⟩ | ⟨_, hz⟩
    · trivial
    · exact (h.obj i z hz).mono hle
  · rcases get hz with ⟨rfl, rfl⟩ | ⟨_, hz⟩
    · cases hzr
    · rcases get hz' with ⟨rfl, rfl⟩ | ⟨_, hz'⟩
      · cases hzl
      · exact h.sep i i' z z' b b' hz hzr hz' hzl hne hb hb'
  · have e' : (if ∃ bl, β o = some bl ∧ bl.blk = b then w.heap[b]? else β.f b) = some x := e
    split at e'
    · exact e'
    · exact h.froz b x e'
  · rcases get hz with ⟨rfl, rfl⟩ | ⟨hne, hz⟩
    · cases hzr
    · show (if ∃ bl, β o = some bl ∧ bl.blk = b.blk then w.heap[b.blk]? else β.f b.blk) = none
      rw [if_neg ?_]
      · exact h.sepf i z b hz hzr hb
      · rintro ⟨bl, h1, h2⟩
        exact h.sep i o z y b bl hz hzr ho (LObj.live_of_rw hy) hne hb h1 h2.symm

theorem frz1_cells {w0 w : World} {β : Lay} {st : LState} (h : Rel w0 β st w) {o : Nat} {m : Md} {l : List LV} {b : Bl} (ho : st[o]? = some (.cells m l)) (hb : β o = some b) {k n : Nat} (hk : k + n ≤ l.length) :
    ∃ us : List Value, Rps β ((l.drop k).take n) us ∧ FzC (β.frz1 o w) b.blk (b.base + k) us := by
  obtain ⟨b', hb', c, e, fz, hh, h1, h2, h3, h4⟩ := h.obj o _ ho
  rw [hb] at hb'; cases hb'
  have hfz : (β.frz1 o w).f b.blk = some (.cells c e fz) := by
    show (if ∃ bl, β o = some bl ∧ bl.blk = b.blk then w.heap[b.blk]? else β.f b.blk) = _
    rw [if_pos ⟨b, hb, rfl⟩, hh]
  have hl : ((l.drop k).take n).length = n := by simp; omega
  refine ⟨(c.toList.drop (b.base + k)).take n, Rps.of_get (by simp; omega) fun i x hx => ?_, c, e, fz, hfz, by simp; omega, fun i u hu => ?_⟩
  · rw [List.getElem?_take, List.getElem?_drop] at hx
    split at hx
    · rename_i hi
      obtain ⟨u, hu, r⟩ := h3 _ _ hx
      refine ⟨u, ?_, r⟩
      rw [List.getElem?_take, if_pos hi, List.getElem?_drop, Array.getElem?_toList]
      rw [← hu]; congr 1; omega
    · cases hx
  · rw [List.getElem?_take] at hu
    split at hu
    · rw [List.getElem?_drop, Array.getElem?_toList] at hu; exact hu
    · cases hu
end

theorem LCalls.relay {P : Program} {f : FuncId} {xs xs' : List LV} {st st' : LState} {R : LV → LState → Prop} (h : LCalls P f xs' st' R)
    (hr : ∀ w0 β w vs, Rel w0 β st w → Rps β xs vs → ∃ β', Rel w0 β' st' w ∧ Rps β' xs' vs ∧ β.le β') : LCalls P f xs st R := by
  rcases h with h | h
  · refine .inl ⟨h.1, fun w0 β w vs h1 h2 => ?_⟩
    obtain ⟨β', k1, k2, k3⟩ := hr w0 β w vs h1 h2
    refine (h.2 w0 β' w vs k1 k2).mono ?_
    rintro e w' ⟨β2, r, st2, u, hd, rfl, h4, h5, h6⟩
    exact ⟨β2, r, st2, u, hd, rfl, h4, h5, k3.trans h6⟩
  · refine .inr fun w0 β w vs h1 h2 => ?_
    obtain ⟨β', k1, k2, k3⟩ := hr w0 β w vs h1 h2
    obtain ⟨u, w', h3, β2, r, st2, hd, h5, h6, h7⟩ := h w0 β' w vs k1 k2
    exact ⟨u, w', h3, β2, r, st2, hd, h5, h6, k3.trans h7⟩

theorem Rps.split {β : Lay} : ∀ {a b : List LV} {vs : List Value}, Rps β (a ++ b) vs → ∃ u v, vs = u ++ v ∧ Rps β a u ∧ Rps β b v
  | [], b, vs, h => ⟨[], vs, rfl, rfl, h⟩
  | x :: a, b, vs, h => by
    obtain ⟨v, us, rfl, h1, h2⟩ := h
    obtain ⟨u, v', rfl, h3, h4⟩ := Rps.split h2
    exact ⟨v :: u, v', rfl, ⟨v, u, rfl, h1, h3⟩, h4⟩

/-- A slice that owns its object, handed over for good. -/
theorem LCalls.give {P : Program} {g : FuncId} {ws bs : List LV} {st : LState} {f : Option Nat} {sz n : Nat} {cs : List LV} {R : LV → LState → Prop} (ho : OwnM .rw st f sz n cs)
    (h : ∀ st', Fr st st' (fun j => f = some j) → LCalls P g (ws ++ .isl cs n none :: bs) st' R) : LCalls P g (ws ++ osl f sz n :: bs) st R := by
  cases f with
  | none =>
    obtain ⟨hl, rfl⟩ := ho
    have hc : cs = [] := by simpa using hl
    subst hc
    refine (h st Fr.refl).relay fun w0 β w vs h1 h2 => ⟨β, h1, ?_, Lay.le.refl β⟩
    obtain ⟨u, v, rfl, h3, h4⟩ := Rps.split h2
    obtain ⟨x, xs, rfl, h5, h6⟩ := h4
    refine h3.append ⟨x, xs, rfl, ?_, h6⟩
    rw [show x = .slice none 0 0 from h5]
    exact ⟨[], rfl, none, 0, rfl, Nat.le_refl _, fun _ e => (by cases e), .inl ⟨rfl, fun _ => rfl⟩⟩
  | some o =>
    obtain ⟨hl, rest, h2⟩ := ho
    refine (h (st.set o .dead) (Fr.set rfl)).relay fun w0 β w vs h1 hv => ?_
    have hle := frz1_le h1 h2 (rfl : LObj.rw (.cells .rw (cs ++ rest)) = true)
    refine ⟨β.frz1 o w, h1.frz1 h2 rfl, ?_, hle⟩
    obtain ⟨u, v, rfl, h3, h4⟩ := Rps.split hv
    obtain ⟨x, xs, rfl, ⟨b, hb, hcap, rfl⟩, h6⟩ := h4
    refine (h3.mono hle).append ⟨_, xs, rfl, ?_, h6.mono hle⟩
    obtain ⟨us, r1, r2⟩ := frz1_cells h1 h2 hb (k := 0) (n := cs.length) (by simp)
    rw [List.drop_zero, List.take_left] at r1
    exact ⟨us, r1.mono hle, _, _, rfl, hcap, fun _ e => (by cases e), .inr ⟨b.blk, b.base + 0, rfl, r2⟩⟩

end Go.CP

namespace Go.Proofs.YtknegckgmklnhaaGreatDoor
open Go Go.CP
set_option maxRecDepth 100000

theorem mk1 {st : LState} {x v : LV} {q : Option LV} (hq : q = some (.agg [v])) (hv : v.one = true) {Q : LV → LState → Prop} (h : ∀ s, Q (.agg [v]) s) :
    bd q fun v2 => bd2 (lmk (stV (st ++ [.cells .rw [x]]) 1 (.ptr st.length 0) v2)) fun _v st4 => bd (ldA st4 (.ptr st.length 0) 1) fun v5 => Q v5 st4 := by
  subst hq
  have e := stV_agg (st := st ++ [LObj.cells .rw [x]]) (o := st.length) (k := 0) (m := .rw) (l := [x]) (vs := [v]) (n := 1) get_app_new (by simp) (by simp [hv]) rfl
  simp only [bd_some]
  rw [e]
  simp only [lmk_some, bd2_some]
  rw [ldA_of (get_set get_app_new) (by simp [splice])]
  exact h _

theorem later_pu : Pu Tryz.prog 69 [] (vT .unknown) := Pu.of (c69 (mk1 (st := []) (v := .iface 169 (.agg [])) rfl rfl (Q := fun v s => dp s (vT .unknown) v) fun s => dp_refl s vT_plain)) rfl vT_plain
theorem of_pu (b : Bool) : Pu Tryz.prog 92 [.bool b] (vT (.bool b)) := Pu.of (c92 _ (mk1 (st := []) (v := .iface 4 (.bool b)) rfl rfl (Q := fun v s => dp s (vT (.bool b)) v) fun s => dp_refl s vT_plain)) rfl vT_plain
theorem int_pu (n : Int) : Pu Tryz.prog 73 [i64 n] (vT (.int n)) := Pu.of (c73 _ (mk1 (st := []) (v := .iface 3 (i64 n)) rfl rfl (Q := fun v s => dp s (vT (.int n)) v) fun s => dp_refl s vT_plain)) rfl vT_plain
theorem text_pu (x : List UInt8) : Pu Tryz.prog 91 [.str x] (vT (.text x)) := Pu.of (c91 _ (mk1 (st := []) (v := .iface 9 (.str x)) rfl rfl (Q := fun v s => dp s (vT (.text x)) v) fun s => dp_refl s vT_plain)) rfl vT_plain

theorem near_pu {n : Int} (h : -9007199254740992 ≤ n ∧ n ≤ 9007199254740992) : Pu Tryz.prog 156 [i64 n] (.bool true) := by
  refine Pu.of (c156 _ ?_) rfl rfl
  have h1 : n ≥ -9007199254740992 := h.1
  simp only [w156, bInt_int, lint_geq, lint_leq, bd_some, h1, h.2, decide_true, bsel_true]
  exact rfl

theorem point_pu {a b : Int} (ha : -9007199254740992 ≤ a ∧ a ≤ 9007199254740992) (hb : -9007199254740992 ≤ b ∧ b ≤ 9007199254740992) : Pu Tryz.prog 93 [i64 a, i64 b] (.tup [vT (.point a b), i64 0]) := by
  refine Pu.of (c93 _ _ ?_) rfl rfl
  simp only [w93, nw_eq]
  refine (near_pu ha).call ?_
  simp only [lun_not, bd_some, Bool.not_true, bsel_false]
  refine (near_pu hb).call ?_
  have e1 : cvIF .f64 (i64 a) = some (.flt .f64 (fb a)) := rfl
  have e2 : cvIF .f64 (i64 b) = some (.flt .f64 (fb b)) := rfl
  have e3 : lcplx (.flt .f64 (fb a)) (.flt .f64 (fb b)) = some (.cplx .f64 (fb a) (fb b)) := rfl
  simp only [lun_not, bd_some, Bool.not_true, bsel_false, e1, e2, e3]
  exact mk1 (st := []) (v := .iface 170 (.cplx .f64 (fb a) (fb b))) rfl rfl (Q := fun v s => dp s (.tup [vT (.point a b), i64 0]) (.tup [v, i64 0])) fun s => dp_refl s (by simp [LV.plain, LV.plains])

theorem rT_k {t : T} : (rT t).k = t.kind := by cases t <;> rfl
theorem rT_l {t : T} : (rT t).l = t.items.map rT := by
  cases t <;> simp [rT, RV.l, T.items, rTs_eq, rTm_eq]
theorem rT_ks {t : T} : (rT t).ks = t.keys := by cases t <;> rfl

/-- The result's box. -/
theorem put1 {st : LState} {o : Nat} {x v : LV} (ho : st[o]? = some (.cells .rw [x])) (hv : v.one = true) {Q : LV → LState → Prop} (h : ∀ s, Q (.agg [v]) s) :
    bd2 (lmk (stV st 1 (.ptr o 0) (.agg [v]))) fun _v st4 => bd (ldA st4 (.ptr o 0) 1) fun v5 => Q v5 st4 := by
  have e := stV_agg (k := 0) (vs := [v]) (n := 1) ho (by simp) (by simp [hv]) rfl
  rw [e]
  simp only [lmk_some, bd2_some]
  rw [ldA_of (get_set ho) (by simp [splice])]
  exact h _

/-- The loop of To. -/
theorem loop29 {t : T} (ht : t.ok) (hb : t.items.length ≤ big) (hk : t.kind = 6 ∨ t.kind = 7) (hrec : ∀ x ∈ t.items, Pu Tryz.prog 29 [vR (rT x)] (vT x)) {R : LV → LState → Prop} {o1 o2 : Nat} (h12 : o1 ≠ o2) {x0 : LV} (hR : ∀ s, R (vT t) s) :
    ∀ (d i : Nat) (f : Option Nat) (st : LState), i + d = t.items.length → BoxR st o1 (rT t) → st[o2]? = some (.cells .rw [x0]) → OwnM .rw st f 1 i (lvTs (t.items.take i)) → (∀ o, f = some o → o ≠ o1 ∧ o ≠ o2) →
      P29_2 (.ptr o1 0) (.ptr o2 0) (osl f 1 i) (i64 i) R st := by
  intro d
  induction d with
  | zero =>
    intro i f st hi hbx h2 ho hf
    apply p29_2
    have hl := hbx.l
    rw [rT_l] at hl
    have hks := hbx.ks
    rw [rT_ks] at hks
    have hkk := hbx.k
    rw [rT_k] at hkk
    have : ¬ ((i : Int) < (t.items.map rT).length) := by simp; omega
    simp only [w29_2, fAddr_ptr, Nat.zero_add, bd_some, hl, lenSl_isl, bInt_int, lint_lss, this, decide_false, bsel_false, hkk, lint_eql, hks]
    rw [bsel_bool]
    refine ⟨fun h => ?_, fun h => ?_⟩
    · have h6 : t.kind = 6 := by simpa using h
      obtain ⟨l, rfl⟩ : ∃ l, t = .list l := by cases t <;> simp_all [T.kind]
      have hi' : i = l.length := by simp only [T.items] at hi; omega
      subst hi'
      simp only [T.items, List.take_length] at ho
      refine LCalls.give (ws := []) (bs := []) ho fun st' hF => ?_
      refine (list_pu hb).call ?_
      exact put1 (hF.get h2 (fun e => (hf _ e).2 rfl)) lvT_one hR
    · have h6 : ¬ t.kind = 6 := by simpa using h
      obtain ⟨es, rfl⟩ : ∃ es, t = .map es := by cases t <;> simp_all [T.kind]
      have hn := rise_nodup ht.2.2
      have hi' : i = (es.map (·.2)).length := by simp only [T.items] at hi; omega
      subst hi'
      simp only [T.items, List.take_length] at ho
      refine LCalls.give (ws := [sI (T.map es).keys]) (bs := []) ho fun st' hF => ?_
      simp only [T.items, List.length_map] at hb
      refine (map_pu hn hb).call ?_
      simp only [lextract_tup, List.getElem?_cons_zero, List.getElem?_cons_succ, bd_some, nw_eq, put_new, lmk_some, bd2_some, get_new]
      exact put1 (get_app (hF.get h2 (fun e => (hf _ e).2 rfl))) lvT_one hR
  | succ d ih =>
    intro i f st hi hbx h2 ho hf
    apply p29_2
    have hl := hbx.l
    rw [rT_l] at hl
    have hlt : i < t.items.length := by omega
    have hx : t.items[i]? = some t.items[i] := List.getElem?_eq_getElem hlt
    have hp := hrec _ (List.getElem_mem hlt)
    generalize t.items[i] = x at hx hp
    have hx' : (t.items.map rT)[i]? = some (rT x) := by simp [hx]
    have e1 : ixSl 7 (rL (t.items.map rT)) (i64 i) = some (.iptr (rcs (t.items.map rT)) (i * 7)) := ixIsl (by simpa using hlt)
    have c1 : ((i : Int) < (t.items.map rT).length) := by simp; omega
    simp only [w29_2, fAddr_ptr, Nat.zero_add, bd_some, hl, lenSl_isl, bInt_int, lint_lss, c1, decide_true, bsel_true, e1, ldA_rcs hx']
    refine hp.call ?_
    have e2 : lfill (fun i => some (i * 1, 1)) (List.replicate 1 [LV.nili]).flatten [(0, vT x)] = some [lvT x] := rfl
    rw [e2]
    simp only [slNew_some, bd2_some]
    have ho1 := ho.fr (st' := st ++ [.cells .rw [lvT x]]) (S := fun _ => False) Fr.app (fun _ _ h => h)
    obtain ⟨st2, f2, g1, g2, g3, g4, -⟩ := ho1.append (x := .sl st.length 0 1 (.ex 1)) (k := 1) (new := [lvT x]) (bytes := 16) (src_new rfl) (by omega) rfl (by simp [lvT_one]) (room_big (by unfold big at hb; omega) (by omega))
    rw [g1]
    simp only [bd2_some, lint_add, bInt_int, bd_some, wrap_add1 (show i < 2 ^ 40 by unfold big at hb; omega)]
    have n1 := get_lt (show st[o1]? = _ from hbx)
    have n2 := get_lt h2
    refine ih (i + 1) f2 st2 (by omega) (g3.get (get_app hbx) (fun e => (hf _ e).1 rfl)) (g3.get (get_app h2) (fun e => (hf _ e).2 rfl)) ?_ (fun o e => ?_)
    · have e3 : t.items.take (i + 1) = t.items.take i ++ [x] := by
        rw [List.take_add_one, hx]; rfl
      rw [e3, lvTs_app]; exact g2
    · rcases g4 o e with h | h
      · exact hf o h
      · simp at h; omega

/-- To -/
theorem to_pu : ∀ (n : Nat) (t : T), SizeOf.sizeOf t < n → t.ok → Pu Tryz.prog 29 [vR (rT t)] (vT t)
  | 0, _, h, _ => by omega
  | n + 1, t, hn, ht => by
    have hrec : ∀ x ∈ t.items, Pu Tryz.prog 29 [vR (rT x)] (vT x) := fun x hx => to_pu n x (by have := T.size_items hx; omega) (T.ok_items ht x hx)
    refine Pu.of (c29 _ ?_) vR_plains vT_plain
    have hb : BoxR [LObj.cells .rw (rc (rT t)), .cells .rw [.nili]] 0 (rT t) := rfl
    have hk := hb.k
    rw [rT_k] at hk
    simp only [w29, lbox_rc, bd2_some, nw_eq, fAddr_ptr, Nat.zero_add, bd_some, List.nil_append, List.cons_append, List.length_nil, List.length_cons, hk]
    have fin : ∀ {st : LState}, st[1]? = some (.cells .rw [.nili]) → bd2 (lmk (stV st 1 (.ptr 1 0) (vT t))) fun _v st4 => bd (ldA st4 (.ptr 1 0) 1) fun v5 => dp st4 (vT t) v5 := fun h => put1 h lvT_one (Q := fun v s => dp s (vT t) v) fun s => dp_refl s vT_plain
    cases t <;> simp only [T.kind, bInt_int, lint_eql, bd_some]
    · exact unset_pu.call (fin rfl)
    · exact later_pu.call (fin rfl)
    · simp only [hb.b]; exact (of_pu _).call (fin rfl)
    · simp only [hb.n]; exact (int_pu _).call (fin rfl)
    · simp only [hb.n, hb.m]
      refine (point_pu ht.1 ht.2).call ?_
      simp only [lextract_tup, List.getElem?_cons_zero, List.getElem?_cons_succ, bd_some, nw_eq, put_new, lmk_some, bd2_some, get_new]
      exact fin rfl
    · simp only [hb.s]; exact (text_pu _).call (fin rfl)
    · exact loop29 (x0 := .nili) ht ht.1 (.inl rfl) hrec (by decide) (R := fun v s => dp s _ v) (fun s => dp_refl s vT_plain) _ 0 none _ (Nat.zero_add _) hb rfl OwnM.nil (fun _ h => by cases h)
    · exact loop29 (x0 := .nili) ht (by simpa [T.items] using ht.1) (.inr rfl) hrec (by decide) (R := fun v s => dp s _ v) (fun s => dp_refl s vT_plain) _ 0 none _ (Nat.zero_add _) hb rfl OwnM.nil (fun _ h => by cases h)

end Go.Proofs.YtknegckgmklnhaaGreatDoor

