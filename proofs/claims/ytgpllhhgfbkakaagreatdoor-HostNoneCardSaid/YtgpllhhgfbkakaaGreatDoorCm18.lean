/- The clean machine, part 18: every write; regions in the order of the text; code and calls: what is shown here holds in the model. -/
import Derived.Test.YtgpllhhgfbkakaaGreatDoorCm17
namespace Go.CM

section
variable {β : Lay} {P : Program} {w w0 : World} {st : LState}

theorem uStr_sound {p n v : LV} {st' : LState} {u q : Value} {ats : Array TypeId} {rt : TypeId} (h : Rel w0 β st w) (h0 : 0 < ats.size) (hp : Rp β p u) (hn : Rp β n q) (hl : luStr st p n = some (v, st')) :
    ∃ u' w', (Builtin.unsafeString_ ats rt #[u, q]).run P w = .ok u' w' ∧ Wrote w0 β v st' u' w' := by
  unfold luStr at hl
  split at hl
  · rename_i k m
    split at hl
    · rename_i hm
      cases hl
      simp only [Rp] at hp hn; subst hp; subst hn; subst hm
      refine ⟨.string .empty, w, ?_, β, rfl, h, Lay.le.refl _⟩
      obtain ⟨l⟩ := ats
      cases l with
      | nil => simp at h0
      | cons t r => rfl
    · cases hl
  · rename_i o k kk m
    split at hl
    · rename_i hm
      cases hl
      obtain ⟨b, hb, rfl⟩ := hp
      simp only [Rp] at hn; subst hn; subst hm
      refine ⟨.string .empty, w, ?_, β, rfl, h, Lay.le.refl _⟩
      obtain ⟨l⟩ := ats
      cases l with
      | nil => simp at h0
      | cons t r => rfl
    · cases hl
  · cases hl

theorem lopW_sound {t : List LV} {a : Act} {o : Oper} {v : LV} {st' : LState} (h : Rel w0 β st w) (ht : Rps β t a.tmps.toList) (hl : lopW P t st o.op = some (v, st')) :
    ∃ n w', (execOp a.eval o).run P w = .ok n w' ∧ Did w0 β v st' n w' := by
  have fin : ∀ {s : Sem Value}, (execOp a.eval o = do pure (.value (← s))) → (∃ u w', s.run P w = .ok u w' ∧ Wrote w0 β v st' u w') → ∃ n w', (execOp a.eval o).run P w = .ok n w' ∧ Did w0 β v st' n w' := by
    intro s e ⟨u, w', h1, h2⟩
    exact ⟨_, w', by rw [e]; exact run_v h1, did_value h2⟩
  have finu : ∀ {s : Sem Unit}, (execOp a.eval o = do s; pure .skip) → v = lundef → (∃ w', s.run P w = .ok () w' ∧ Rel w0 β st' w') → ∃ n w', (execOp a.eval o).run P w = .ok n w' ∧ Did w0 β v st' n w' := by
    intro s e ev ⟨w', h1, h2⟩
    subst ev
    exact ⟨_, w', by rw [e]; exact run_u h1, did_skip h2⟩
  cases ho : o.op with
  | alloc e =>
    rw [ho] at hl; simp only [lopW] at hl
    split at hl
    · rename_i z hz
      simp only [lnew, Option.some.injEq, Prod.mk.injEq] at hl; obtain ⟨rfl, rfl⟩ := hl
      exact fin (by unfold execOp; rw [ho]) (alloc_sound h hz)
    · simp at hl
  | box e x =>
    rw [ho] at hl; simp only [lopW] at hl
    split at hl
    · rename_i x' h1
      unfold lbox at hl
      split at hl
      · rename_i hok
        simp only [lnew, Option.some.injEq, Prod.mk.injEq] at hl; obtain ⟨rfl, rfl⟩ := hl
        exact fin (by unfold execOp; rw [ho]) (box_sound h (ev_sound ht h1) hok)
      · simp at hl
    · simp at hl
  | buildSlice ty n parts =>
    rw [ho] at hl; simp only [lopW] at hl
    split at hl
    · rename_i ps h1
      unfold slNew at hl
      split at hl
      · rename_i cs hcs
        simp only [Option.some.injEq, Prod.mk.injEq] at hl; obtain ⟨rfl, rfl⟩ := hl
        obtain ⟨e1, e2⟩ := evp_sound ht h1
        have hq : parts.map (fun x => (x.1, a.eval x.2)) = ⟨parts.toList.map fun x => (x.1, a.eval x.2)⟩ := by apply Array.ext'; simp
        refine fin (s := Instr.buildSlice ty n (parts.map fun x => (x.1, a.eval x.2))) (by unfold execOp; rw [ho]) ?_
        rw [hq]
        exact buildSlice_sound h (by rw [List.map_map]; exact e1) (by rw [List.map_map]; exact e2) hcs
      · simp at hl
    · simp at hl
  | store ty p x =>
    rw [ho] at hl; simp only [lopW] at hl
    split at hl
    · rename_i p' x' h1 h2
      obtain ⟨h3, hv⟩ := lmk_spec hl
      exact finu (by unfold execOp; rw [ho]) hv (store_sound h (ev_sound ht h1) (ev_sound ht h2) h3)
    · simp at hl
  | makeMap ty r =>
    cases r with
    | none =>
      rw [ho] at hl; simp only [lopW, lnewMap, Option.some.injEq, Prod.mk.injEq] at hl; obtain ⟨rfl, rfl⟩ := hl
      exact fin (by unfold execOp; rw [ho]; rfl) (makeMap_sound h)
    | some x => rw [ho] at hl; simp [lopW] at hl
  | makeSlice ty l c =>
    rw [ho] at hl; simp only [lopW] at hl
    split at hl
    · rename_i l' c' e h1 h2 he
      split at hl
      · rename_i z hz
        exact fin (by unfold execOp; rw [ho]) (makeSlice_sound h (ev_sound ht h1) (ev_sound ht h2) he hz hl)
      · simp at hl
    · simp at hl
  | mapUpdate ty m k x =>
    rw [ho] at hl; simp only [lopW] at hl
    split at hl
    · rename_i m' k' x' h1 h2 h3
      obtain ⟨h4, hv⟩ := lmk_spec hl
      exact finu (by unfold execOp; rw [ho]) hv (mapPut_sound h (ev_sound ht h1) (ev_sound ht h2) (ev_sound ht h3) h4)
    · simp at hl
  | insert ty m k x =>
    rw [ho] at hl; simp only [lopW] at hl
    split at hl
    · rename_i m' k' x' h1 h2 h3
      obtain ⟨h4, hv⟩ := lmk_spec hl
      exact finu (by unfold execOp; rw [ho]) hv (mapPut_sound h (ev_sound ht h1) (ev_sound ht h2) (ev_sound ht h3) h4)
    · simp at hl
  | convert s d x =>
    rw [ho] at hl; simp only [lopW] at hl
    split at hl
    · rename_i v' h1
      split at hl
      case isFalse => simp at hl
      rename_i hc
      unfold lbytesNew at hl
      split at hl
      · rename_i s'
        simp only [Bool.and_eq_true] at hc
        simp only [Option.some.injEq, Prod.mk.injEq] at hl; obtain ⟨rfl, rfl⟩ := hl
        have hs := isStrT_spec hc.1
        obtain ⟨e, hd1, hd2⟩ := isU8Sl_spec hc.2
        have hx := ev_sound ht h1
        simp only [Rp] at hx
        obtain ⟨u, w', h3, h4⟩ := bytes_conv (P := P) (e := e) (s := s') h
        refine fin (s := convert s d (a.eval x)) (by unfold execOp; rw [ho]) ⟨u, w', ?_, h4⟩
        unfold convert
        simp only [Sem.run_bind, run_und hs, run_und hd1, Result.andThen_ok, hx, run_und hd2]
        exact h3
      · simp at hl
    · simp at hl
  | call c =>
    rw [ho] at hl; simp only [lopW] at hl
    split at hl
    · rename_i s x hc h1
      obtain ⟨p, q, e, r1, r2⟩ := evs_two ht h1
      obtain ⟨cs, hcs⟩ := run_builtin (P := P) (w := w) (ρ := a.eval) ho hc
      rw [e] at hcs
      split at hl
      · rename_i el hel
        split at hl
        · rename_i hcond
          obtain ⟨c1, c2, c3, c4, c5⟩ := hcond
          obtain ⟨i, z, A, hzs⟩ := appArgs_of c1 c2 c3 hel c5
          obtain ⟨u, w', h3, h4⟩ := append_sound (rt := o.type) A hzs c4 h r1 r2 hl
          exact ⟨_, w', by rw [hcs]; unfold builtin; exact run_v h3, did_value h4⟩
        · simp at hl
      · simp at hl
    · rename_i x hc h1
      obtain ⟨p, e, r1⟩ := evs_one ht h1
      obtain ⟨cs, hcs⟩ := run_builtin (P := P) (w := w) (ρ := a.eval) ho hc
      rw [e] at hcs
      by_cases h0 : 0 < c.argTypes.size
      · rw [if_pos h0] at hl
        split at hl
        · rename_i el hel
          split at hl
          · rename_i z hz
            obtain ⟨h3, hv⟩ := lmk_spec hl
            obtain ⟨w', h5, h6⟩ := clear_sound (rt := o.type) h r1 h0 hel hz h3
            subst hv
            exact ⟨_, w', by rw [hcs]; unfold builtin; exact run_v h5, β, undef, .inl rfl, Rp.undef, h6, Lay.le.refl _⟩
          · simp at hl
        · simp at hl
      · rw [if_neg h0] at hl; simp at hl
    · rename_i d x hc h1
      obtain ⟨p, q, e, r1, r2⟩ := evs_two ht h1
      obtain ⟨cs, hcs⟩ := run_builtin (P := P) (w := w) (ρ := a.eval) ho hc
      rw [e] at hcs
      by_cases h0 : 0 < c.argTypes.size
      · rw [if_pos h0] at hl
        split at hl
        · rename_i el hel
          obtain ⟨u, w', h3, h4⟩ := copy_sound (rt := o.type) h r1 r2 h0 hel hl
          exact ⟨_, w', by rw [hcs]; unfold builtin; exact run_v h3, did_value h4⟩
        · simp at hl
      · rw [if_neg h0] at hl; simp at hl
    · rename_i p n hc h1
      obtain ⟨u, q, e, r1, r2⟩ := evs_two ht h1
      obtain ⟨cs, hcs⟩ := run_builtin (P := P) (w := w) (ρ := a.eval) ho hc
      rw [e] at hcs
      by_cases h0 : 0 < c.argTypes.size
      · rw [if_pos h0] at hl
        obtain ⟨u', w', h3, h4⟩ := uStr_sound (P := P) (rt := o.type) h h0 r1 r2 hl
        exact ⟨_, w', by rw [hcs]; unfold builtin; exact run_v h3, did_value h4⟩
      · rw [if_neg h0] at hl; simp at hl
    · rename_i m k hc h1
      obtain ⟨p, q, e, r1, r2⟩ := evs_two ht h1
      obtain ⟨cs, hcs⟩ := run_builtin (P := P) (w := w) (ρ := a.eval) ho hc
      rw [e] at hcs
      by_cases h0 : 0 < c.argTypes.size
      · rw [if_pos h0] at hl
        obtain ⟨h3, hv⟩ := lmk_spec hl
        obtain ⟨w', h5, h6⟩ := mapDel_sound (rt := o.type) h r1 r2 h0 h3
        subst hv
        exact ⟨_, w', by rw [hcs]; unfold builtin; exact run_v h5, β, undef, .inl rfl, Rp.undef, h6, Lay.le.refl _⟩
      · rw [if_neg h0] at hl; simp at hl
    · simp at hl
  | _ => rw [ho] at hl; simp [lopW] at hl

end
end Go.CM
