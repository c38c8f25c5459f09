/- The clean machine, part 6: equality, and the operators on two values. -/
import Derived.Test.YthiaahbmibndkaaGreatDoorCp5
import Derived.ChangeKeysEq
namespace Go.CP

section
variable {β : Lay} {P : Program} {w : World}

theorem part_sound {t : TypeId} {cs : List LV} {vs : List Value} {off : Nat} {v : LV} (hcs : Rps β cs vs) (h : lpart P t cs off = some v) :
    ∃ u, (part t ⟨vs⟩ off).run P w = .ok u w ∧ Rp β v u := by
  unfold lpart at h
  split at h
  · rename_i hk
    split at h
    · rename_i ha
      simp only [Option.some.injEq] at h; subst h
      refine ⟨.agg ⟨(vs.drop off).take (szT P t)⟩, ?_, _, rfl, (hcs.drop off).take _⟩
      simp only [part, Sem.run_bind, run_isAgg' hk, Result.andThen_ok, ha, if_true, run_sizeOf' hk, Sem.run_pure]
      congr 1
      simp only [Value.agg.injEq]
      apply Array.ext'
      simp [Array.toList_extract, List.extract]
    · rename_i ha
      obtain ⟨u, hu, r⟩ := hcs.get h
      refine ⟨u, ?_, r⟩
      simp only [part, Sem.run_bind, run_isAgg' hk, Result.andThen_ok]
      simp [ha, hu]
  · simp at h

theorem fieldsOf_of {t : TypeId} {fs : Array Field} (h : P.underlying t = some (.struct fs)) : P.fieldsOf t = fs := by
  simp [Program.fieldsOf, h]

section
variable {t e : TypeId} {D : Nat}
theorem equalIn_nili {ms : Array (String × TypeId)} (ht : P.underlying t = some (.interface ms)) : (Op.equalIn (D + 1) t .nilIface .nilIface).run P w = .ok true w := by
  simp only [Op.equalIn, Sem.run_bind, run_und ht, Result.andThen_ok]; rfl
theorem equalIn_nili1 {ms : Array (String × TypeId)} {u : TypeId} {v : Value} (ht : P.underlying t = some (.interface ms)) : (Op.equalIn (D + 1) t .nilIface (.iface u v)).run P w = .ok false w := by
  simp only [Op.equalIn, Sem.run_bind, run_und ht, Result.andThen_ok]; rfl
theorem equalIn_nili2 {ms : Array (String × TypeId)} {u : TypeId} {v : Value} (ht : P.underlying t = some (.interface ms)) : (Op.equalIn (D + 1) t (.iface u v) .nilIface).run P w = .ok false w := by
  simp only [Op.equalIn, Sem.run_bind, run_und ht, Result.andThen_ok]; rfl
theorem equalIn_iface_ne {ms : Array (String × TypeId)} {a b : TypeId} {u v : Value} (ht : P.underlying t = some (.interface ms)) (hne : a ≠ b) :
    (Op.equalIn (D + 1) t (.iface a u) (.iface b v)).run P w = .ok false w := by
  simp only [Op.equalIn, Sem.run_bind, run_und ht, Result.andThen_ok]
  rw [if_pos hne]; rfl
theorem equalIn_iface_eq {ms : Array (String × TypeId)} {a : TypeId} {u v : Value} {i : TypeInfo} (ht : P.underlying t = some (.interface ms)) (hi : P.info? a = some i) (hc : i.comparable = true) :
    (Op.equalIn (D + 1) t (.iface a u) (.iface a v)).run P w = (Op.equalIn D a u v).run P w := by
  rw [Op.equalIn]
  simp only [Sem.run_bind, run_und ht, Result.andThen_ok, ne_eq, not_true_eq_false, ↓reduceIte, typeInfo, run_program, hi, Sem.run_pure, hc, Bool.not_true, Bool.false_eq_true]
theorem equalIn_cplx {k k0 : FloatKind} {a b c d : Nat} (ht : P.underlying t = some (.complex k0)) :
    (Op.equalIn (D + 1) t (.complex k a b) (.complex k c d)).run P w = .ok (Op.floatEq k a c && Op.floatEq k b d) w := by
  rw [Op.equalIn]
  simp only [Sem.run_bind, run_und ht, Result.andThen_ok, ↓reduceIte, Sem.run_pure]
end

mutual
theorem leq_sound : ∀ (d : Nat) {t : TypeId} {x y : LV} {u v : Value} {r : Bool}, leq P d t x y = some r → Rp β x u → Rp β y v →
    ∀ D, d ≤ D → (Op.equalIn D t u v).run P w = .ok r w
  | 0, _, _, _, _, _, _, h, _, _, _, _ => by simp [leq] at h
  | d + 1, t, x, y, u, v, r, h, hx, hy, D, hD => by
    obtain ⟨D, rfl⟩ : ∃ E, D = E + 1 := ⟨D - 1, by omega⟩
    unfold leq at h
    split at h
    · rename_i ht; simp only [Rp] at hx hy; subst hx; subst hy; simp only [Option.some.injEq] at h; subst h
      exact run_equalIn_bool w D t _ _ ht
    · rename_i ht; simp only [Rp] at hx hy; subst hx; subst hy
      split at h
      · rename_i hk; subst hk; simp only [Option.some.injEq] at h; subst h
        exact run_equalIn_int w D t _ _ _ _ ht
      · simp at h
    · rename_i ht; simp only [Rp] at hx hy; subst hx; subst hy; simp only [Option.some.injEq] at h; subst h
      rw [run_equalIn_string w D t _ _ ht, toList_mk', toList_mk']
    · rename_i ht; simp only [Rp] at hx hy; subst hx; subst hy; simp only [Option.some.injEq] at h; subst h
      exact equalIn_nili ht
    · rename_i ht; obtain ⟨_, rfl, _⟩ := hy; simp only [Rp] at hx; subst hx; simp only [Option.some.injEq] at h; subst h
      exact equalIn_nili1 ht
    · rename_i ht; obtain ⟨_, rfl, _⟩ := hx; simp only [Rp] at hy; subst hy; simp only [Option.some.injEq] at h; subst h
      exact equalIn_nili2 ht
    · rename_i tx vx ty vy ht; obtain ⟨u', rfl, hu'⟩ := hx; obtain ⟨v', rfl, hv'⟩ := hy
      split at h
      · rename_i hne; simp only [Option.some.injEq] at h; subst h
        exact equalIn_iface_ne ht hne
      · rename_i hne
        simp only [ne_eq, Decidable.not_not] at hne; subst hne
        split at h
        · rename_i i hi
          split at h
          · rename_i hc
            rw [equalIn_iface_eq ht hi hc]
            exact leq_sound d h hu' hv' D (by omega)
          · simp at h
        · simp at h
    · rename_i fs xs ys ht; obtain ⟨us, rfl, hus⟩ := hx; obtain ⟨vs, rfl, hvs⟩ := hy
      split at h
      · simp at h
      · rename_i hp
        rw [run_equalIn_struct w D t _ _ (by rw [fieldsOf_of ht]; exact ht) (by simpa using hp), fieldsOf_of ht]
        exact leqF_sound d h hus hvs D (by omega)
    · rename_i n e xs ys ht; obtain ⟨us, rfl, hus⟩ := hx; obtain ⟨vs, rfl, hvs⟩ := hy
      split at h
      · rename_i hk
        obtain ⟨i, hi⟩ := known_info hk
        rw [run_equalIn_array w D _ _ ht hi, List.range_eq_range']
        have hc : P.cellsOf e = szT P e := by simp [Program.cellsOf, szT, hi]
        rw [hc]
        exact leqA_sound d h hus hvs D (by omega)
      · simp at h
    · rename_i ht; simp only [Rp] at hx hy; subst hx; subst hy
      split at h
      · rename_i hk; subst hk; simp only [Option.some.injEq] at h; subst h
        exact equalIn_cplx ht
      · simp at h
    · simp at h
theorem leqF_sound : ∀ (d : Nat) {xs ys : List LV} {us vs : List Value} {fs : List Field} {r : Bool}, leqF P d xs ys fs = some r → Rps β xs us → Rps β ys vs →
    ∀ D, d ≤ D → (Op.eqFields D ⟨us⟩ ⟨vs⟩ fs).run P w = .ok r w
  | 0, _, _, _, _, _, _, h, _, _, _, _ => by simp [leqF] at h
  | d + 1, xs, ys, us, vs, [], r, h, hx, hy, D, hD => by
    simp [leqF] at h; subst h; simp [Op.eqFields]
  | d + 1, xs, ys, us, vs, f :: fs, r, h, hx, hy, D, hD => by
    simp only [leqF] at h
    simp only [Op.eqFields]
    split at h
    · rename_i hn
      rw [if_pos hn]
      split at h
      · rename_i a b h1 h2
        obtain ⟨u, r1, s1⟩ := part_sound (w := w) hx h1
        obtain ⟨v, r2, s2⟩ := part_sound (w := w) hy h2
        simp only [Sem.run_bind, r1, r2, Result.andThen_ok]
        split at h
        · rename_i h3
          rw [leq_sound d h3 s1 s2 D (by omega)]
          simpa using leqF_sound d h hx hy D (by omega)
        · rename_i h3
          simp only [Option.some.injEq] at h; subst h
          rw [leq_sound d h3 s1 s2 D (by omega)]
          simp
        · simp at h
      · simp at h
    · rename_i hn
      rw [if_neg hn]
      exact leqF_sound d h hx hy D (by omega)
theorem leqA_sound : ∀ (d : Nat) {e : TypeId} {xs ys : List LV} {us vs : List Value} {n i : Nat} {r : Bool}, leqA P d e xs ys n i = some r → Rps β xs us → Rps β ys vs →
    ∀ D, d ≤ D → (Op.eqItems D e (szT P e) ⟨us⟩ ⟨vs⟩ (List.range' i n)).run P w = .ok r w
  | 0, _, _, _, _, _, _, _, _, h, _, _, _, _ => by simp [leqA] at h
  | d + 1, e, xs, ys, us, vs, 0, i, r, h, hx, hy, D, hD => by
    simp [leqA] at h; subst h; simp [Op.eqItems]
  | d + 1, e, xs, ys, us, vs, n + 1, i, r, h, hx, hy, D, hD => by
    simp only [leqA] at h
    simp only [List.range'_succ, Op.eqItems]
    split at h
    · rename_i a b h1 h2
      obtain ⟨u, r1, s1⟩ := part_sound (w := w) hx h1
      obtain ⟨v, r2, s2⟩ := part_sound (w := w) hy h2
      simp only [Sem.run_bind, r1, r2, Result.andThen_ok]
      split at h
      · rename_i h3
        rw [leq_sound d h3 s1 s2 D (by omega)]
        simpa using leqA_sound d h hx hy D (by omega)
      · rename_i h3
        simp only [Option.some.injEq] at h; subst h
        rw [leq_sound d h3 s1 s2 D (by omega)]
        simp
      · simp at h
    · simp at h
end

end
end Go.CP
