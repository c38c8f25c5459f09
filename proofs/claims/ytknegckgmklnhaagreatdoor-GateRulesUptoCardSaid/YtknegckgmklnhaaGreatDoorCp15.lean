/- The clean machine, part 15: append, clear, copy and the new blocks do in the model what they do here. -/
import Derived.Test.YtknegckgmklnhaaGreatDoorCp13
namespace Go.CP

section
variable {β : Lay} {P : Program} {w w0 : World} {st : LState}

/-- What a write leaves. -/
def Wrote (w0 : World) (β : Lay) (v : LV) (st' : LState) (u : Value) (w' : World) : Prop :=
  ∃ β', Rp β' v u ∧ Rel w0 β' st' w' ∧ β.le β'

theorem appArgs_of {ats : Array TypeId} {e : TypeId} (h1 : 1 < ats.size) (h2 : isIntT P (ats.getD 1 0) = false) (h3 : (P.underlying (ats.getD 1 0)).isSome = true) (he : elemT P (ats.getD 0 0) = some e)
    (hb : 0 < bytesT P e) : ∃ i z, AppArgs P ats e i z ∧ z.cells.size = szT P e := by
  obtain ⟨ht, ho⟩ := elemT_spec he
  obtain ⟨z, u, hk, hz, hrun, hrel, hsz, hlen, hone⟩ := elemOk_spec ho
  obtain ⟨u', _, h5, i, hi, hu⟩ := run_zero (P := P) (w := default) hz
  have : u' = u := by
    have a := hrun default
    simp [zeroValue, typeInfo, hi, hu] at a
    exact a
  subst this
  obtain ⟨d, hd⟩ := Option.isSome_iff_exists.1 h3
  refine ⟨i, u', ⟨⟨ats.getD 0 0, by simp [Array.getD_eq_getD_getElem?, Nat.lt_trans Nat.zero_lt_one h1], ht⟩, ⟨ats.getD 1 0, d, by simp [Array.getD_eq_getD_getElem?, h1], hd, ?_⟩, hi, by simp [szT, hi], by simp [bytesT, hi], hb, hu⟩, hsz⟩
  intro k e; subst e
  unfold isIntT at h2
  rw [hd] at h2
  simp at h2

theorem Rel.old {o k len : Nat} {m : Md} {l : List LV} {b : Bl} {sz c : Nat} (h : Rel w0 β st w) (ho : st[o]? = some (.cells m l)) (hb : β o = some b) (hn : k + len * sz ≤ l.length) :
    ∃ os : List Value, os.length = len * sz ∧ Rps β ((l.drop k).take (len * sz)) os ∧ (Builtin.firstCells sz len (.slice (some ⟨b.blk, b.base + k, none⟩) len c)).run P w.drew = .ok ⟨os⟩ w.drew := by
  obtain ⟨us, h1, h2, h3⟩ := run_loadN (P := P) (k := k) h.draw ho hb hn
  exact ⟨us, h1, h3, h2⟩

/-- A new array for what was and what is new. -/
theorem Rel.newArr {e : TypeId} {m0 : Md} {l : List LV} {vs r : List Value} (hm0 : m0 = .rw ∨ m0 = .ro ∨ m0 = .bt e) (h : Rel w0 β st w) (hl : Rps β l vs) :
    Rel w0 (β.put st.length ⟨w.heap.size, 0, (vs ++ r).length⟩) (st ++ [.cells m0 l]) (w.drew.alloc (.cells ⟨vs ++ r⟩ e)) := by
  have := (h.draw).alloc (m := m0) (l := l) (c := ⟨vs ++ r⟩) (e := e) (fz := (0, 0)) (by simp [hl.length]) (fun i x hx => by
    obtain ⟨u, hu, ru⟩ := hl.get hx
    refine ⟨u, ?_, ru⟩
    have hi : i < vs.length := by
      rcases Nat.lt_or_ge i vs.length with k | k
      · exact k
      · simp [List.getElem?_eq_none k] at hu
    simp only [List.getElem?_toArray]
    rw [List.getElem?_append_left hi]; exact hu) (by simp) hm0
  simpa using this

theorem rest_cap {n c sz a b : Nat} (hsz : 0 < sz) (hn : n ≤ c) : n ≤ (CapI.rest sz).cap ⟨a, b, c * sz⟩ 0 ∧ (CapI.rest sz).cap ⟨a, b, c * sz⟩ 0 = c := by
  simp only [CapI.cap, Nat.sub_zero, Nat.mul_div_cancel _ hsz]
  exact ⟨hn, trivial⟩

/-- An object moves: the old one is dead, its block (from a cell on) bears a new one. -/
theorem Rel.move {o k : Nat} {md md' : Md} {l l' : List LV} {b : Bl} (h : Rel w0 β st w) (ho : st[o]? = some (.cells md l)) (hmd : md.w = true) (hmd' : md' = .rw ∨ md' = md ∧ k = 0) (hb : β o = some b) (hk : k ≤ b.room) (hl : l' = l.drop k) :
    Rel w0 (β.put st.length ⟨b.blk, b.base + k, b.room - k⟩) (st.set o .dead ++ [.cells md' l']) w := by
  have hd : Rel w0 β (st.set o .dead) w := h.weaken ho (by simp [LObj.rw]) (by simp [LObj.live]) (fun _ => trivial)
  have hlen : (st.set o .dead).length = st.length := by simp
  rw [← hlen]
  have hlt := h.lt hb
  refine hd.push ?_ ?_ fun _ => h.sepf o _ b ho hmd hb
  · intro i y b' hy hyl hb'
    by_cases e : i = o
    · subst e; simp [hlt] at hy; subst hy; simp [LObj.live] at hyl
    · have hy' : st[i]? = some y := by simpa [List.getElem?_set, Ne.symm e] using hy
      exact fun e' => h.sep o i _ y b b' ho hmd hy' hyl (Ne.symm e) hb hb' e'.symm
  · obtain ⟨b', hb', c, e, fz, hh, h1, h2, h3, h4⟩ := h.obj o _ ho
    rw [hb] at hb'; cases hb'
    have hle : β.le (β.put (st.set o .dead).length ⟨b.blk, b.base + k, b.room - k⟩) := Lay.le_put (hd.dom _ (Nat.le_refl _))
    refine ⟨_, Lay.put_same, c, e, fz, hh, by simp; omega, by subst hl; simp; omega, ?_, ?_⟩
    rotate_left
    · rcases hmd' with rfl | ⟨rfl, rfl⟩
      · exact ⟨fun _ => h4.1 hmd, by rintro t ⟨⟩, by rintro g n ⟨⟩⟩
      · exact h4
    intro i x hx
    subst hl
    rw [List.getElem?_drop] at hx
    obtain ⟨u, hu, r⟩ := h3 _ _ hx
    exact ⟨u, by simpa [Nat.add_assoc] using hu, r.mono hle⟩

theorem vsplice_take {m us : List Value} {k L : Nat} (h : k + us.length ≤ L) (hL : L ≤ m.length) : vsplice (m.take L) k us = (vsplice m k us).take L := by
  unfold vsplice
  have h1 : (m.take k ++ us).length = k + us.length := by simp; omega
  rw [List.take_append, List.take_of_length_le (l := m.take k ++ us) (by omega), h1, List.take_take, Nat.min_eq_left (by omega), List.drop_take]

theorem vsplice_cut {m us : List Value} {k L : Nat} (h : k ≤ L) (hL : L ≤ m.length) : (m.take L).take k ++ us = (vsplice m k us).take (k + us.length) := by
  unfold vsplice
  have h1 : (m.take k ++ us).length = k + us.length := by simp; omega
  rw [List.take_append, List.take_of_length_le (l := m.take k ++ us) (by omega), h1, List.take_take, Nat.min_eq_left h, Nat.sub_self, List.take_zero, List.append_nil]

theorem splice_len {l vs : List LV} {k : Nat} (h : k + vs.length ≤ l.length) : (splice l k vs).length = l.length := by
  unfold CP.splice; simp; omega

theorem append_sound {ats : Array TypeId} {rt e : TypeId} {i : TypeInfo} {z : Value} {s x v : LV} {p q : Value} {st' : LState} (A : AppArgs P ats e i z) (hzs : z.cells.size = szT P e) (hpos : 0 < szT P e)
    {m0 : Md} (hm0 : m0 = .rw ∨ m0 = .bt e)
    (h : Rel w0 β st w) (hs : Rp β s p) (hx : Rp β x q) (ha : lappend st (szT P e) (bytesT P e) m0 s x = some (v, st')) :
    ∃ u w', (Builtin.append_ ats rt #[p, q]).run P w = .ok u w' ∧ Wrote w0 β v st' u w' := by
  have hm1 : m0 = .rw ∨ m0 = .ro ∨ m0 = .bt e := hm0.elim .inl fun k => .inr (.inr k)
  unfold lappend at ha
  split at ha
  · simp at ha
  · rename_i n new hsrc
    obtain ⟨hl, hnl, hf⟩ := src_sound (P := P) h hx hsrc
    obtain ⟨us, hus, rus, fus⟩ := hf n (Nat.le_refl _)
    rw [List.take_of_length_le (by omega)] at rus
    have fus0 : (Builtin.firstCells (szT P e) n q).run P w = .ok ⟨us⟩ w := fus w.drawn
    have fus1 : (Builtin.firstCells (szT P e) n q).run P w.drew = .ok ⟨us⟩ w.drew := fus (w.drawn + 1)
    split at ha
    · simp only [Rp] at hs; subst hs
      split at ha
      · rename_i hn; subst hn
        simp at ha; obtain ⟨rfl, rfl⟩ := ha
        refine ⟨.slice none 0 0, w, ?_, β, rfl, h, Lay.le.refl _⟩
        rw [run_append_in A (by omega) hl fus0]; rfl
      · rename_i hn
        split at ha
        · rename_i hr
          simp at ha; obtain ⟨rfl, rfl⟩ := ha
          obtain ⟨c, r, hc1, hc2, hrun⟩ := run_append_new (rt := rt) A (base := none) (sLen := 0) (sCap := 0) (os := []) (by omega) (by simpa using hr) hzs hl (by rfl) fus1 (by simp) hus
          simp only [List.nil_append, Nat.zero_add] at hrun hc1 hc2
          refine ⟨_, _, hrun, _, ?_, h.newArr hm1 rus, Lay.le_put (h.dom _ (Nat.le_refl _))⟩
          rw [hc2]
          exact ⟨_, Lay.put_same, (rest_cap hpos hc1).1, by rw [(rest_cap hpos hc1).2]⟩
        · simp at ha
    · obtain ⟨a, c, rfl⟩ := hs
      split at ha
      · rename_i hn; subst hn
        simp at ha; obtain ⟨rfl, rfl⟩ := ha
        have hu0 : us = [] := List.eq_nil_of_length_eq_zero (by simpa using hus)
        subst hu0
        refine ⟨.slice (some a) 0 c, w, ?_, β, ⟨a, c, rfl⟩, h, Lay.le.refl _⟩
        rw [run_append_in A (by omega) hl fus0]
        simp [storeCells]
      · simp at ha
    · rename_i o k len ci
      obtain ⟨b, hb, hlen, rfl⟩ := hs
      split at ha
      · rename_i hn; subst hn
        simp at ha; obtain ⟨rfl, rfl⟩ := ha
        have hu0 : us = [] := List.eq_nil_of_length_eq_zero (by simpa using hus)
        subst hu0
        refine ⟨.slice (some ⟨b.blk, b.base + k, none⟩) len (ci.cap b k), w, ?_, β, ⟨b, hb, hlen, rfl⟩, h, Lay.le.refl _⟩
        rw [run_append_in A (by omega) hl fus0]
        simp [storeCells]
      · rename_i hn
        split at ha
        · rename_i m l ho
          -- what happens where there is room
          have inplace : ∀ {c : Nat}, m.w = true → k + (len + n) * szT P e ≤ l.length → new.all LV.one = true → len + n ≤ c →
              ∃ w', (Builtin.append_ ats rt #[.slice (some ⟨b.blk, b.base + k, none⟩) len c, q]).run P w = .ok (.slice (some ⟨b.blk, b.base + k, none⟩) (len + n) c) w' ∧
                Rel w0 β (st.set o (.cells m (CP.splice l (k + len * szT P e) new))) w' := by
            intro c hm hfit hone hc
            obtain ⟨b', hb', c', e', fz, hh, h1, h2, h3, h4⟩ := h.obj o _ ho
            rw [hb] at hb'; cases hb'
            have hmul : (len + n) * szT P e = len * szT P e + n * szT P e := Nat.add_mul _ _ _
            obtain ⟨w', hw1, hw2⟩ := h.splice (P := P) (k := k + len * szT P e) (l' := CP.splice l (k + len * szT P e) new) (us := us) ho hm hb (by omega) (ones_sound rus hone)
              (by rw [splice_len (l := l) (vs := new) (k := k + len * szT P e) (by omega)]; exact h2)
              (by
                intro mm hmm hrel
                rw [splice_len (l := l) (vs := new) (k := k + len * szT P e) (by omega)]
                have := (hrel.splice (k + len * szT P e) rus)
                rwa [vsplice_take (by omega) (by omega)] at this)
            refine ⟨w', ?_, hw2⟩
            rw [run_append_in A hc hl fus0]
            simp only [addr_add]
            rw [show b.base + k + len * szT P e = b.base + (k + len * szT P e) from by omega, hw1]; rfl
          have realloc : ∀ {c : Nat}, k + len * szT P e ≤ l.length → room47 (len + n) (bytesT P e) = true → c < len + n →
              ∃ (nc : Nat) (r os : List Value), len + n ≤ nc ∧ (os ++ us ++ r).length = nc * szT P e ∧ Rps β ((l.drop k).take (len * szT P e)) os ∧
                (Builtin.append_ ats rt #[.slice (some ⟨b.blk, b.base + k, none⟩) len c, q]).run P w = .ok (.slice (some ⟨w.heap.size, 0, none⟩) (len + n) nc) (w.drew.alloc (.cells ⟨os ++ us ++ r⟩ e)) := by
            intro c hk hr hc
            obtain ⟨os, ho1, ho2, ho3⟩ := h.old (P := P) (sz := szT P e) (c := c) ho hb hk
            obtain ⟨nc, r, hc1, hc2, hrun⟩ := run_append_new (rt := rt) A hc hr hzs hl ho3 fus1 ho1 hus
            exact ⟨nc, r, os, hc1, hc2, ho2, hrun⟩
          split at ha
          · rename_i c
            simp only [CapI.cap] at hlen ⊢
            split at ha
            · rename_i hc
              split at ha
              · rename_i hcond
                simp at ha; obtain ⟨rfl, rfl⟩ := ha
                obtain ⟨w', h1, h2⟩ := inplace hcond.1 hcond.2.1 hcond.2.2 hc
                exact ⟨_, w', h1, β, ⟨b, hb, hc, rfl⟩, h2, Lay.le.refl _⟩
              · simp at ha
            · rename_i hc
              split at ha
              · rename_i hcond
                simp at ha; obtain ⟨rfl, rfl⟩ := ha
                obtain ⟨nc, r, os, hc1, hc2, ho2, hrun⟩ := realloc (c := c) hcond.2 hcond.1 (by omega)
                refine ⟨_, _, hrun, _, ?_, h.newArr hm1 (ho2.append rus), Lay.le_put (h.dom _ (Nat.le_refl _))⟩
                rw [hc2]
                exact ⟨_, Lay.put_same, (rest_cap hpos hc1).1, by rw [(rest_cap hpos hc1).2]⟩
              · simp at ha
          · rename_i s
            split at ha
            · rename_i hcond
              obtain ⟨rfl, hmw, hone⟩ := hcond
              simp only [CapI.cap] at hlen ⊢
              obtain ⟨b', hb', c', e', fz, hh, h1, h2, h3, h4⟩ := h.obj o _ ho
              rw [hb] at hb'; cases hb'
              split at ha
              · rename_i hfit
                simp at ha; obtain ⟨rfl, rfl⟩ := ha
                have hc : len + n ≤ (b.room - k) / szT P e := by
                  rw [Nat.le_div_iff_mul_le hpos]; omega
                obtain ⟨w', h5, h6⟩ := inplace hmw hfit hone hc
                exact ⟨_, w', h5, β, ⟨b, hb, hc, rfl⟩, h6, Lay.le.refl _⟩
              · split at ha
                · rename_i hfit hcond
                  simp at ha; obtain ⟨rfl, rfl⟩ := ha
                  by_cases hc : len + n ≤ (b.room - k) / szT P e
                  · -- in place, beyond what the object holds
                    have hfitr : (len + n) * szT P e ≤ b.room - k := (Nat.le_div_iff_mul_le hpos).1 hc
                    have hmul : (len + n) * szT P e = len * szT P e + n * szT P e := Nat.add_mul _ _ _
                    have hnz : 0 < n * szT P e := Nat.mul_pos (by omega) hpos
                    obtain ⟨w', hw1, hw2⟩ := h.splice (P := P) (k := k + len * szT P e) (l' := l.take (k + len * szT P e) ++ new) (us := us) ho hmw hb (by omega) (ones_sound rus hone)
                      (by simp; omega)
                      (by
                        intro mm hmm hrel
                        have hh1 := (hrel.take (k + len * szT P e)).append rus
                        rw [vsplice_cut (by omega) (by omega)] at hh1
                        have e1 : (l.take (k + len * szT P e) ++ new).length = k + len * szT P e + us.length := by simp [hnl, hus]; omega
                        rw [e1]; exact hh1)
                    have hlt := h.lt hb
                    have hjoin : mdJoin m m0 k = .rw ∨ mdJoin m m0 k = m ∧ k = 0 := by
                      unfold mdJoin; split
                      · rename_i hj; exact .inr ⟨rfl, hj.2⟩
                      · exact .inl rfl
                    have hset : (st.set o (.cells m (l.take (k + len * szT P e) ++ new)))[o]? = some (.cells m (l.take (k + len * szT P e) ++ new)) := by simp [hlt]
                    have hmv := hw2.move (k := k) (l' := (l.drop k).take (len * szT P e) ++ new) (md' := mdJoin m m0 k) hset hmw hjoin hb (by omega) (by
                      rw [List.drop_append_of_le_length (by simp; omega), List.drop_take, Nat.add_sub_cancel_left])
                    simp only [List.set_set, List.length_set] at hmv
                    refine ⟨.slice (some ⟨b.blk, b.base + k, none⟩) (len + n) ((b.room - k) / szT P e), w', ?_, _, ?_, hmv, Lay.le_put (h.dom _ (Nat.le_refl _))⟩
                    · rw [run_append_in A hc hl fus0]
                      simp only [addr_add]
                      rw [show b.base + k + len * szT P e = b.base + (k + len * szT P e) from by omega, hw1]; rfl
                    · refine ⟨_, Lay.put_same, ?_, ?_⟩
                      · simpa [CapI.cap] using hc
                      · simp [CapI.cap]
                  · obtain ⟨nc, r, os, hc1, hc2, ho2, hrun⟩ := realloc (c := (b.room - k) / szT P e) hcond.2 hcond.1 (by omega)
                    have hd : Rel w0 β (st.set o .dead) w := h.weaken ho (by simp [LObj.rw]) (by simp [LObj.live]) (fun _ => trivial)
                    have hnew := hd.newArr (e := e) (r := r) (m0 := mdJoin m m0 k) (by
                      unfold mdJoin; split
                      · rename_i hj; rw [hj.1]; exact hm1
                      · exact .inl rfl) (ho2.append rus)
                    simp only [List.length_set] at hnew
                    refine ⟨_, _, hrun, _, ?_, hnew, Lay.le_put (h.dom _ (Nat.le_refl _))⟩
                    rw [hc2]
                    exact ⟨_, Lay.put_same, (rest_cap hpos hc1).1, by rw [(rest_cap hpos hc1).2]⟩
                · simp at ha
            · simp at ha
        · simp at ha
    · simp at ha

end
end Go.CP

