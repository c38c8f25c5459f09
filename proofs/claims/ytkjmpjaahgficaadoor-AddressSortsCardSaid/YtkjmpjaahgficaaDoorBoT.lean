/- Sort: over the clean machine; the sort itself by the kit's contract. -/
import Derived.Test.YtkjmpjaahgficaaDoorBoK
import Derived.Test.YtkjmpjaahgficaaDoorBoM
import Derived.Test.YtkjmpjaahgficaaDoorBoSort
namespace Go.Proofs.YtkjmpjaahgficaaDoor
open Go Go.CO Go.RowKit Go.Sort
set_option maxRecDepth 100000

variable {R : LV → LState → Prop} {st : LState}

theorem sort_callable : Callable Tryd.prog 41 := ⟨Tryd.f41, bodyOf Tryd.f41, Tryd.func41, by kernel_rfl, by kernel_rfl⟩

theorem sort_list (l : List Ad) : (l.toArray.toList.mergeSort fun x y => !(ltOf cmpAd) y x) = msort l := by
  have : (fun x y => !(ltOf cmpAd) y x) = leAd := by
    funext x y
    rw [less_of]; rfl
  rw [this]; rfl

/-- slices.SortFunc -/
theorem sort_spec {n0 : Nat} {x : LV} {l : List Ad} (hx : OwnA n0 st x l) (hl : l.length ≤ 1000) (hR : ∀ st', OwnA n0 st' x (msort l) → Fr st st' (fun j => n0 ≤ j) → R (.tup []) st') :
    LCalls Tryd.prog 41 [x, .fn (.func 19) [] []] st R := by
  rcases hx with ⟨rfl, hx⟩ | ⟨o, rfl, ho, hne, hn⟩
  · have hR' := hR st (.inl ⟨by simp [msort], hx⟩) Fr.refl
    refine LCalls.of_kit sort_callable (v := .tup []) ?_ hR'
    intro w0 β w vs hr hp
    obtain ⟨v1, us, rfl, r1, v2, us2, rfl, r2, rfl⟩ := hp
    have none_ : ∀ (p : Option Addr) (cap : Nat), Calls Tryd.prog 41 ⟨[.slice p 0 cap, v2]⟩ w fun e w' => ∃ u, e = .returned u ∧ Rp β (.tup []) u ∧ Bw w.heap.size w w' := by
      intro p cap
      refine (AnyF.slices_SortFunc_none Tryd.sortAd p cap v2 w).mono ?_
      rintro e w' ⟨rfl, rfl⟩
      exact ⟨_, rfl, ⟨[], rfl, rfl⟩, Bw.refl _ _⟩
    rcases hx with rfl | ⟨o, rfl, _⟩
    · rw [show v1 = .slice none 0 0 from r1]; exact none_ _ _
    · obtain ⟨b, _, _, rfl⟩ := r1; exact none_ _ _
  · refine .inl ⟨sort_callable, fun w0 β w vs h1 h2 => ?_⟩
    obtain ⟨v1, us, rfl, ⟨b, hb, _, rfl⟩, v2, us2, rfl, ⟨vs1, us1, rfl, r3, r4⟩, rfl⟩ := h2
    rw [show vs1 = [] from r3, show us1 = [] from r4]
    have hblk : b.blk < w.heap.size := by
      obtain ⟨b', hb', c, e, fz, hh, _⟩ := h1.obj o _ ho
      rw [hb] at hb'; cases hb'
      rcases Nat.lt_or_ge b.blk w.heap.size with hlt | hge
      · exact hlt
      · rw [Array.getElem?_eq_none hge] at hh; cases hh
    have hT : ∀ x y, ltOf cmpAd x y = false → ltOf cmpAd y x = false → x = y := by
      intro x y h k
      rw [less_of] at h k
      exact less_tri h k
    have key := AnyQ.slices_SortFunc_total Tryd.sortAd 4 Tryd.isAgg23 Tryd.sizeOf23 encA (fun _ => rfl) (by
        intro x v hv
        simp only [encA, List.mem_cons, List.not_mem_nil, or_false] at hv
        rcases hv with rfl | rfl | rfl | rfl <;> rfl) cmpAd cmp_swo 19 #[] b.blk (b.base + 0) ((CapI.rest 4).cap b 0) l.toArray w
      (enters_of Tryd.func19 (by kernel_rfl) rfl) (fun _ _ _ _ x y => compare_calls x y _) (holds_of h1 ho hb) hblk (by simp; omega) hT
    have hsz : l.toArray.size = l.length := by simp
    rw [hsz] at key
    refine Calls.mono (show Calls Tryd.prog 41 #[.slice (some ⟨b.blk, b.base + 0, none⟩) l.length ((CapI.rest 4).cap b 0), .func (.func 19) #[] #[]] w _ from key) ?_
    rintro e w' ⟨rfl, n, os, rfl⟩
    have hlen : (msort l).length = l.length := (msort_perm l).length_eq
    have hown : OwnA n0 (st.set o (.cells .rw (flatA (msort l)))) (.sl o 0 l.length (.rest 4)) (msort l) := by
      refine .inr ⟨o, by rw [hlen], get_set ho, ?_, hn⟩
      intro e
      rw [e] at hlen
      exact hne (List.eq_nil_of_length_eq_zero hlen.symm)
    refine ⟨β, .tup [], _, .tuple #[], hR _ hown (Fr.set hn), rfl, ⟨[], rfl, rfl⟩, ?_, Lay.le.refl _⟩
    rw [sort_list]
    exact rel_sorted h1 ho hb hlen

/-- Sort -/
theorem sortAd_spec {x : LV} {l : List Ad} (hx : RowsA st x l) (hl : l.length ≤ 1000) (h : ∀ x' st', RowsA st' x' (compactB (msort l)) → Fr st st' (fun _ => False) → R x' st') :
    LCalls Tryd.prog 20 [x] st R := by
  apply c20
  refine clone_spec hx hl fun y s1 h1 f1 => ?_
  refine sort_spec h1 hl fun s2 h2 f2 => ?_
  have hlen : (msort l).length = l.length := (msort_perm l).length_eq
  refine compact_spec h2 (by omega) fun z s3 h3 f3 => ?_
  refine h z s3 h3 ?_
  exact (f1.trans f2 fun j hj hn => by omega).trans f3 fun j hj hn => by omega

end Go.Proofs.YtkjmpjaahgficaaDoor
