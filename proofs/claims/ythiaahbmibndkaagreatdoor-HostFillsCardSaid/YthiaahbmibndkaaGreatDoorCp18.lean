/- The clean machine, part 18: every write; regions in the order of the text; code and calls: what is shown here holds in the model. -/
import Derived.Test.YthiaahbmibndkaaGreatDoorCp17m
namespace Go.CP

section
variable {β : Lay} {P : Program} {w w0 : World} {st : LState}

theorem loadBytes_sound : ∀ {n : Nat} {cs : List LV} {us : List Value} {s : List UInt8} {bl off : Nat} {acc : ByteArray}, us.length = n → Rps β cs us → bytesOf cs = some s →
    (∀ j v, us[j]? = some v → w.cell? ⟨bl, off + j, none⟩ = some v) → (loadBytes ⟨bl, off, none⟩ acc n).run P w = .ok (acc ++ ⟨⟨s⟩⟩) w
  | 0, cs, us, s, bl, off, acc, hn, hr, hb, _ => by
    have : us = [] := List.eq_nil_of_length_eq_zero hn
    subst this
    have hc : cs = [] := by
      cases cs with
      | nil => rfl
      | cons c cs => obtain ⟨v, us, e, _⟩ := hr; cases e
    subst hc
    simp [bytesOf] at hb; subst hb
    have : acc ++ (⟨⟨[]⟩⟩ : ByteArray) = acc := by apply ByteArray.ext; rw [ByteArray.data_append]; simp
    simp [loadBytes, this]
  | n + 1, cs, us, s, bl, off, acc, hn, hr, hb, hc => by
    cases cs with
    | nil => simp only [Rps] at hr; subst hr; simp at hn
    | cons c cs =>
      obtain ⟨v, us, rfl, r, rs⟩ := hr
      unfold bytesOf at hb
      split at hb
      · rename_i e; simp at e
      · rename_i m rest e
        simp only [List.cons.injEq] at e
        obtain ⟨rfl, rfl⟩ := e
        simp only [Rp] at r; subst r
        split at hb
        · rename_i s' hs'
          simp at hb; subst hb
          have h0 := hc 0 _ rfl
          unfold loadBytes
          simp only [Sem.run_bind, run_load, Nat.add_zero] at h0 ⊢
          rw [h0]
          simp only [Result.andThen_ok, addr_add]
          rw [loadBytes_sound (by simpa using hn) rs hs' (fun j v hv => by
            have := hc (j + 1) v (by simpa using hv)
            rwa [show off + 1 + j = off + (j + 1) from by omega])]
          congr 1
          apply ByteArray.ext
          simp [ByteArray.data_append]
        · simp at hb
      · simp at hb

theorem freeze_other {a : Addr} {n k : Nat} (h : k ≠ a.block) : (w.freeze a n).heap[k]? = w.heap[k]? := by
  unfold World.freeze
  split
  · rfl
  · simp only [Array.getElem?_modify]
    rw [if_neg (Ne.symm h)]

theorem freeze_same {a : Addr} {n : Nat} {c : Array Value} {e : TypeId} {fz : Nat × Nat} (h : w.heap[a.block]? = some (.cells c e fz)) : ∃ fz', (w.freeze a n).heap[a.block]? = some (.cells c e fz') := by
  unfold World.freeze
  split
  · exact ⟨fz, h⟩
  · simp only [Array.getElem?_modify, if_true, h, Option.map_some]
    exact ⟨_, rfl⟩

/-- Bytes become a text: they are read only from now on. -/
theorem Rel.freeze {o off n : Nat} {m : Md} {l : List LV} {b : Bl} (h : Rel w0 β st w) (ho : st[o]? = some (.cells m l)) (hm : m.w = true) (hb : β o = some b) :
    Rel w0 β (st.set o (.cells .ro l)) (w.freeze ⟨b.blk, off, none⟩ n) := by
  obtain ⟨b', hb', c, e, fz, hh, h1, h2, h3, h4⟩ := h.obj o _ ho
  rw [hb] at hb'; cases hb'
  obtain ⟨fz', hf⟩ := freeze_same (a := ⟨b.blk, off, none⟩) (n := n) hh
  refine h.upd ho hm hb ?_ ?_ ?_ ?_ (fun k hk => freeze_other hk) ⟨b, hb, c, e, fz', hf, h1, h2, h3, ?_⟩
  · unfold World.freeze; split <;> rfl
  · unfold World.freeze; split <;> rfl
  · unfold World.freeze; split <;> rfl
  · unfold World.freeze; split
    · rfl
    · simp
  · exact ⟨(fun k => by cases k), (by rintro t ⟨⟩), (by rintro g n ⟨⟩)⟩

theorem bytesAt_self {a : Addr} {c : Array Value} {e : TypeId} {fz : Nat × Nat} {n : Nat} (hh : w.heap[a.block]? = some (.cells c e fz)) (hz : szT P e = 1) (hc : a.off + n ≤ c.size) :
    (variablesAt a e n).run P w = .ok true w := by
  unfold variablesAt
  simp only [Sem.run_bind, run_program, Result.andThen_ok, run_shape, World.shape?, hh, Sem.run_pure]
  congr 1
  obtain ⟨d, hd⟩ := depth_succ (P := P)
  rw [hd]
  unfold liesAt
  rw [hd]
  have hr : rowAt P (fun x => sameLayout P (d + 1) x e) (d + 1) e (c.size / P.cellsOf e) a.off n = true := by
    unfold rowAt
    have h1 : P.cellsOf e = 1 := by rw [cellsOf_szT]; exact hz
    simp [h1, hc, sameLayout_self, Nat.mod_one]
  rw [hr]; rfl

theorem uStr_sound {p n v : LV} {st' : LState} {u q : Value} {ats : Array TypeId} {rt e : TypeId} (h : Rel w0 β st w) (h0 : 0 < ats.size) (he : ptrT P (ats.getD 0 0) = some e) (hz : szT P e = 1)
    (hp : Rp β p u) (hn : Rp β n q) (hl : luStr st e p n = some (v, st')) :
    ∃ u' w', (Builtin.unsafeString_ ats rt #[u, q]).run P w = .ok u' w' ∧ Wrote w0 β v st' u' w' := by
  unfold luStr at hl
  split at hl
  · rename_i k m
    split at hl
    · rename_i hm
      cases hl
      simp only [Rp] at hp hn; subst hp; subst hn; subst hm
      refine ⟨.string .empty, w, ?_, β, rfl, h, Lay.le.refl _⟩
      obtain ⟨l⟩ := ats
      cases l with
      | nil => simp at h0
      | cons t r => rfl
    · cases hl
  · rename_i o k kk m
    split at hl
    · rename_i hm
      cases hl
      obtain ⟨b, hb, rfl⟩ := hp
      simp only [Rp] at hn; subst hn; subst hm
      refine ⟨.string .empty, w, ?_, β, rfl, h, Lay.le.refl _⟩
      obtain ⟨l⟩ := ats
      cases l with
      | nil => simp at h0
      | cons t r => rfl
    · split at hl
      · rename_i hm0 hm
        split at hl
        · rename_i e' l ho
          split at hl
          · rename_i hc
            obtain ⟨rfl, hlen⟩ := hc
            split at hl
            · rename_i s hs
              cases hl
              obtain ⟨b, hb, rfl⟩ := hp
              simp only [Rp] at hn; subst hn
              obtain ⟨c, e2, fz, hh, h1, h2, h3⟩ := h.blk ho hb
              obtain ⟨rfl, hbase⟩ := h3.2.1 _ rfl
              obtain ⟨us, g1, g2, g3⟩ := h.cells (k := k) (n := m.toNat) ho hb hlen
              have ha : ats[0]? = some (ats.getD 0 0) := by simp [Array.getD_eq_getD_getElem?, h0]
              refine ⟨.string ⟨⟨s⟩⟩, w.freeze ⟨b.blk, b.base + k, none⟩ m.toNat, ?_, β, rfl, h.freeze ho rfl hb, Lay.le.refl _⟩
              have n1 : ¬ m < 0 := by omega
              have n2 : ¬ m > IntKind.i64.max := by
                have : IntKind.i64.max = 9223372036854775807 := by decide
                omega
              conv => lhs; arg 2; whnf
              simp only [asInt, asIntOf, Sem.run_bind, Sem.run_pure, Result.andThen_ok, ha, n1, n2, if_false, hm0, elemOf, run_und (ptrT_spec he),
                bytesAt_self (P := P) (w := w) (a := ⟨b.blk, b.base + k, none⟩) (n := m.toNat) hh hz (by simp; omega), if_true,
                loadBytes_sound (P := P) (w := w) (acc := .empty) g1 g2 hs g3, run_freeze]
              congr 2
            · cases hl
          · cases hl
        · cases hl
      · cases hl
  · cases hl

theorem mdOf_spec (e : TypeId) : mdOf P e = .rw ∨ mdOf P e = .bt e := by
  unfold mdOf; split
  · exact .inr rfl
  · exact .inl rfl

theorem lopW_sound {t : List LV} {a : Act} {o : Oper} {v : LV} {st' : LState} (h : Rel w0 β st w) (ht : Rps β t a.tmps.toList) (hl : lopW P t st o.op = some (v, st')) :
    ∃ n w', (execOp a.eval o).run P w = .ok n w' ∧ Did w0 β v st' n w' := by
  have fin : ∀ {s : Sem Value}, (execOp a.eval o = do pure (.value (← s))) → (∃ u w', s.run P w = .ok u w' ∧ Wrote w0 β v st' u w') → ∃ n w', (execOp a.eval o).run P w = .ok n w' ∧ Did w0 β v st' n w' := by
    intro s e ⟨u, w', h1, h2⟩
    exact ⟨_, w', by rw [e]; exact run_v h1, did_value h2⟩
  have finu : ∀ {s : Sem Unit}, (execOp a.eval o = do s; pure .skip) → v = lundef → (∃ w', s.run P w = .ok () w' ∧ Rel w0 β st' w') → ∃ n w', (execOp a.eval o).run P w = .ok n w' ∧ Did w0 β v st' n w' := by
    intro s e ev ⟨w', h1, h2⟩
    subst ev
    exact ⟨_, w', by rw [e]; exact run_u h1, did_skip h2⟩
  cases ho : o.op with
  | alloc e =>
    rw [ho] at hl; simp only [lopW] at hl
    split at hl
    · rename_i z hz
      simp only [Option.some.injEq] at hl
      have e1 : (lalloc P e st z.cells).1 = v := by rw [hl]
      have e2 : (lalloc P e st z.cells).2 = st' := by rw [hl]
      subst e1; subst e2
      exact fin (by unfold execOp; rw [ho]) (alloc_sound h hz)
    · simp at hl
  | box e x =>
    rw [ho] at hl; simp only [lopW] at hl
    split at hl
    · rename_i x' h1
      unfold lbox at hl
      split at hl
      · rename_i hok
        simp only [lnew, Option.some.injEq, Prod.mk.injEq] at hl; obtain ⟨rfl, rfl⟩ := hl
        exact fin (by unfold execOp; rw [ho]) (box_sound h (ev_sound ht h1) hok)
      · simp at hl
    · simp at hl
  | buildSlice ty n parts =>
    rw [ho] at hl; simp only [lopW] at hl
    split at hl
    · rename_i ps h1
      unfold slNew at hl
      split at hl
      · rename_i cs hcs
        simp only [Option.some.injEq, Prod.mk.injEq] at hl; obtain ⟨rfl, rfl⟩ := hl
        obtain ⟨e1, e2⟩ := evp_sound ht h1
        have hq : parts.map (fun x => (x.1, a.eval x.2)) = ⟨parts.toList.map fun x => (x.1, a.eval x.2)⟩ := by apply Array.ext'; simp
        refine fin (s := Instr.buildSlice ty n (parts.map fun x => (x.1, a.eval x.2))) (by unfold execOp; rw [ho]) ?_
        rw [hq]
        exact buildSlice_sound h (by rw [List.map_map]; exact e1) (by rw [List.map_map]; exact e2) hcs
      · simp at hl
    · simp at hl
  | store ty p x =>
    rw [ho] at hl; simp only [lopW] at hl
    split at hl
    · rename_i p' x' h1 h2
      obtain ⟨h3, hv⟩ := lmk_spec hl
      exact finu (by unfold execOp; rw [ho]) hv (store_sound h (ev_sound ht h1) (ev_sound ht h2) h3)
    · simp at hl
  | makeMap ty r =>
    cases r with
    | none =>
      rw [ho] at hl; simp only [lopW, lnewMap, Option.some.injEq, Prod.mk.injEq] at hl; obtain ⟨rfl, rfl⟩ := hl
      exact fin (by unfold execOp; rw [ho]; rfl) (makeMap_sound h)
    | some x => rw [ho] at hl; simp [lopW] at hl
  | makeSlice ty l c =>
    rw [ho] at hl; simp only [lopW] at hl
    split at hl
    · rename_i l' c' e h1 h2 he
      split at hl
      · rename_i z hz
        exact fin (by unfold execOp; rw [ho]) (makeSlice_sound h (ev_sound ht h1) (ev_sound ht h2) he hz hl)
      · simp at hl
    · simp at hl
  | mapUpdate ty m k x =>
    rw [ho] at hl; simp only [lopW] at hl
    split at hl
    · rename_i m' k' x' h1 h2 h3
      obtain ⟨h4, hv⟩ := lmk_spec hl
      exact finu (by unfold execOp; rw [ho]) hv (mapPut_sound h (ev_sound ht h1) (ev_sound ht h2) (ev_sound ht h3) h4)
    · simp at hl
  | insert ty m k x =>
    rw [ho] at hl; simp only [lopW] at hl
    split at hl
    · rename_i m' k' x' h1 h2 h3
      obtain ⟨h4, hv⟩ := lmk_spec hl
      exact finu (by unfold execOp; rw [ho]) hv (mapPut_sound h (ev_sound ht h1) (ev_sound ht h2) (ev_sound ht h3) h4)
    · simp at hl
  | mapEntry ty m k =>
    rw [ho] at hl; simp only [lopW] at hl
    split at hl
    · rename_i m' k' h1 h2
      exact fin (by unfold execOp; rw [ho]) (mapEntry_sound h (ev_sound ht h1) (ev_sound ht h2) hl)
    · simp at hl
  | entryStore ty m k x =>
    rw [ho] at hl; simp only [lopW] at hl
    split at hl
    · rename_i m' k' x' h1 h2 h3
      obtain ⟨h4, hv⟩ := lmk_spec hl
      exact finu (by unfold execOp; rw [ho]) hv (entStore_sound h (ev_sound ht h1) (ev_sound ht h2) (ev_sound ht h3) h4)
    · simp at hl
  | range ty x =>
    rw [ho] at hl; simp only [lopW] at hl
    split at hl
    · rename_i x' h1
      exact fin (by unfold execOp; rw [ho]) (range_sound h (ev_sound ht h1) hl)
    · simp at hl
  | next it s =>
    cases s with
    | true => rw [ho] at hl; simp [lopW] at hl
    | false =>
      rw [ho] at hl; simp only [lopW] at hl
      split at hl
      · rename_i x' h1
        exact fin (by unfold execOp; rw [ho]) (next_sound h (ev_sound ht h1) hl)
      · simp at hl
  | convert s d x =>
    rw [ho] at hl; simp only [lopW] at hl
    split at hl
    · rename_i v' h1
      split at hl
      case isFalse => simp at hl
      rename_i hc
      unfold lbytesNew at hl
      split at hl
      · rename_i s'
        simp only [Bool.and_eq_true] at hc
        simp only [Option.some.injEq, Prod.mk.injEq] at hl; obtain ⟨rfl, rfl⟩ := hl
        have hs := isStrT_spec hc.1
        obtain ⟨e, hd1, hd2⟩ := isU8Sl_spec hc.2
        have hx := ev_sound ht h1
        simp only [Rp] at hx
        obtain ⟨u, w', h3, h4⟩ := bytes_conv (P := P) (e := e) (s := s') h
        refine fin (s := convert s d (a.eval x)) (by unfold execOp; rw [ho]) ⟨u, w', ?_, h4⟩
        unfold convert
        simp only [Sem.run_bind, run_und hs, run_und hd1, Result.andThen_ok, hx, run_und hd2]
        exact h3
      · simp at hl
    · simp at hl
  | call c =>
    rw [ho] at hl; simp only [lopW] at hl
    split at hl
    · rename_i s x hc h1
      obtain ⟨p, q, e, r1, r2⟩ := evs_two ht h1
      obtain ⟨cs, hcs⟩ := run_builtin (P := P) (w := w) (ρ := a.eval) ho hc
      rw [e] at hcs
      split at hl
      · rename_i el hel
        split at hl
        · rename_i hcond
          obtain ⟨c1, c2, c3, c4, c5⟩ := hcond
          obtain ⟨i, z, A, hzs⟩ := appArgs_of c1 c2 c3 hel c5
          obtain ⟨u, w', h3, h4⟩ := append_sound (rt := o.type) A hzs c4 (mdOf_spec el) h r1 r2 hl
          exact ⟨_, w', by rw [hcs]; unfold builtin; exact run_v h3, did_value h4⟩
        · simp at hl
      · simp at hl
    · rename_i x hc h1
      obtain ⟨p, e, r1⟩ := evs_one ht h1
      obtain ⟨cs, hcs⟩ := run_builtin (P := P) (w := w) (ρ := a.eval) ho hc
      rw [e] at hcs
      by_cases h0 : 0 < c.argTypes.size
      · rw [if_pos h0] at hl
        split at hl
        · rename_i el hel
          split at hl
          · rename_i z hz
            obtain ⟨h3, hv⟩ := lmk_spec hl
            obtain ⟨w', h5, h6⟩ := clear_sound (rt := o.type) h r1 h0 hel hz h3
            subst hv
            exact ⟨_, w', by rw [hcs]; unfold builtin; exact run_v h5, β, undef, .inl rfl, Rp.undef, h6, Lay.le.refl _⟩
          · simp at hl
        · simp at hl
      · rw [if_neg h0] at hl; simp at hl
    · rename_i d x hc h1
      obtain ⟨p, q, e, r1, r2⟩ := evs_two ht h1
      obtain ⟨cs, hcs⟩ := run_builtin (P := P) (w := w) (ρ := a.eval) ho hc
      rw [e] at hcs
      by_cases h0 : 0 < c.argTypes.size
      · rw [if_pos h0] at hl
        split at hl
        · rename_i el hel
          obtain ⟨u, w', h3, h4⟩ := copy_sound (rt := o.type) h r1 r2 h0 hel hl
          exact ⟨_, w', by rw [hcs]; unfold builtin; exact run_v h3, did_value h4⟩
        · simp at hl
      · rw [if_neg h0] at hl; simp at hl
    · rename_i p n hc h1
      obtain ⟨u, q, e, r1, r2⟩ := evs_two ht h1
      obtain ⟨cs, hcs⟩ := run_builtin (P := P) (w := w) (ρ := a.eval) ho hc
      rw [e] at hcs
      by_cases h0 : 0 < c.argTypes.size
      · rw [if_pos h0] at hl
        split at hl
        · rename_i e' he
          split at hl
          · rename_i hz
            obtain ⟨u', w', h3, h4⟩ := uStr_sound (P := P) (rt := o.type) h h0 he hz.2 r1 r2 hl
            exact ⟨_, w', by rw [hcs]; unfold builtin; exact run_v h3, did_value h4⟩
          · simp at hl
        · simp at hl
      · rw [if_neg h0] at hl; simp at hl
    · rename_i m k hc h1
      obtain ⟨p, q, e, r1, r2⟩ := evs_two ht h1
      obtain ⟨cs, hcs⟩ := run_builtin (P := P) (w := w) (ρ := a.eval) ho hc
      rw [e] at hcs
      by_cases h0 : 0 < c.argTypes.size
      · rw [if_pos h0] at hl
        obtain ⟨h3, hv⟩ := lmk_spec hl
        obtain ⟨w', h5, h6⟩ := mapDel_sound (rt := o.type) h r1 r2 h0 h3
        subst hv
        exact ⟨_, w', by rw [hcs]; unfold builtin; exact run_v h5, β, undef, .inl rfl, Rp.undef, h6, Lay.le.refl _⟩
      · rw [if_neg h0] at hl; simp at hl
    · simp at hl
  | _ => rw [ho] at hl; simp [lopW] at hl

end
end Go.CP
