/- The clean machine, part 6: equality, and the operators on two values. -/
/- The clean machine, part 7: the operators on two values do in the model what they do here. -/
import Derived.Test.YtknegckgmklnhaaGreatDoorCp4
import Derived.ChangeKeysEq
namespace Go.CP

section
variable {β : Lay} {P : Program} {w : World}

theorem part_sound {t : TypeId} {cs : List LV} {vs : List Value} {off : Nat} {v : LV} (hcs : Rps β cs vs) (h : lpart P t cs off = some v) :
    ∃ u, (part t ⟨vs⟩ off).run P w = .ok u w ∧ Rp β v u := by
  unfold lpart at h
  split at h
  · rename_i hk
    split at h
    · rename_i ha
      simp only [Option.some.injEq] at h; subst h
      refine ⟨.agg ⟨(vs.drop off).take (szT P t)⟩, ?_, _, rfl, (hcs.drop off).take _⟩
      simp only [part, Sem.run_bind, run_isAgg' hk, Result.andThen_ok, ha, if_true, run_sizeOf' hk, Sem.run_pure]
      congr 1
      simp only [Value.agg.injEq]
      apply Array.ext'
      simp [Array.toList_extract, List.extract]
    · rename_i ha
      obtain ⟨u, hu, r⟩ := hcs.get h
      refine ⟨u, ?_, r⟩
      simp only [part, Sem.run_bind, run_isAgg' hk, Result.andThen_ok]
      simp [ha, hu]
  · simp at h

theorem fieldsOf_of {t : TypeId} {fs : Array Field} (h : P.underlying t = some (.struct fs)) : P.fieldsOf t = fs := by
  simp [Program.fieldsOf, h]

section
variable {t e : TypeId} {D : Nat}
theorem equalIn_nili {ms : Array (String × TypeId)} (ht : P.underlying t = some (.interface ms)) : (Op.equalIn (D + 1) t .nilIface .nilIface).run P w = .ok true w := by
  simp only [Op.equalIn, Sem.run_bind, run_und ht, Result.andThen_ok]; rfl
theorem equalIn_nili1 {ms : Array (String × TypeId)} {u : TypeId} {v : Value} (ht : P.underlying t = some (.interface ms)) : (Op.equalIn (D + 1) t .nilIface (.iface u v)).run P w = .ok false w := by
  simp only [Op.equalIn, Sem.run_bind, run_und ht, Result.andThen_ok]; rfl
theorem equalIn_nili2 {ms : Array (String × TypeId)} {u : TypeId} {v : Value} (ht : P.underlying t = some (.interface ms)) : (Op.equalIn (D + 1) t (.iface u v) .nilIface).run P w = .ok false w := by
  simp only [Op.equalIn, Sem.run_bind, run_und ht, Result.andThen_ok]; rfl
theorem equalIn_iface_ne {ms : Array (String × TypeId)} {a b : TypeId} {u v : Value} (ht : P.underlying t = some (.interface ms)) (hne : a ≠ b) :
    (Op.equalIn (D + 1) t (.iface a u) (.iface b v)).run P w = .ok false w := by
  simp only [Op.equalIn, Sem.run_bind, run_und ht, Result.andThen_ok]
  rw [if_pos hne]; rfl
theorem equalIn_iface_eq {ms : Array (String × TypeId)} {a : TypeId} {u v : Value} {i : TypeInfo} (ht : P.underlying t = some (.interface ms)) (hi : P.info? a = some i) (hc : i.comparable = true) :
    (Op.equalIn (D + 1) t (.iface a u) (.iface a v)).run P w = (Op.equalIn D a u v).run P w := by
  rw [Op.equalIn]
  simp only [Sem.run_bind, run_und ht, Result.andThen_ok, ne_eq, not_true_eq_false, ↓reduceIte, typeInfo, run_program, hi, Sem.run_pure, hc, Bool.not_true, Bool.false_eq_true]
theorem equalIn_cplx {k k0 : FloatKind} {a b c d : Nat} (ht : P.underlying t = some (.complex k0)) :
    (Op.equalIn (D + 1) t (.complex k a b) (.complex k c d)).run P w = .ok (Op.floatEq k a c && Op.floatEq k b d) w := by
  rw [Op.equalIn]
  simp only [Sem.run_bind, run_und ht, Result.andThen_ok, ↓reduceIte, Sem.run_pure]
end

mutual
theorem leq_sound : ∀ (d : Nat) {t : TypeId} {x y : LV} {u v : Value} {r : Bool}, leq P d t x y = some r → Rp β x u → Rp β y v →
    ∀ D, d ≤ D → (Op.equalIn D t u v).run P w = .ok r w
  | 0, _, _, _, _, _, _, h, _, _, _, _ => by simp [leq] at h
  | d + 1, t, x, y, u, v, r, h, hx, hy, D, hD => by
    obtain ⟨D, rfl⟩ : ∃ E, D = E + 1 := ⟨D - 1, by omega⟩
    unfold leq at h
    split at h
    · rename_i ht; simp only [Rp] at hx hy; subst hx; subst hy; simp only [Option.some.injEq] at h; subst h
      exact run_equalIn_bool w D t _ _ ht
    · rename_i ht; simp only [Rp] at hx hy; subst hx; subst hy
      split at h
      · rename_i hk; subst hk; simp only [Option.some.injEq] at h; subst h
        exact run_equalIn_int w D t _ _ _ _ ht
      · simp at h
    · rename_i ht; simp only [Rp] at hx hy; subst hx; subst hy; simp only [Option.some.injEq] at h; subst h
      rw [run_equalIn_string w D t _ _ ht, toList_mk', toList_mk']
    · rename_i ht; simp only [Rp] at hx hy; subst hx; subst hy; simp only [Option.some.injEq] at h; subst h
      exact equalIn_nili ht
    · rename_i ht; obtain ⟨_, rfl, _⟩ := hy; simp only [Rp] at hx; subst hx; simp only [Option.some.injEq] at h; subst h
      exact equalIn_nili1 ht
    · rename_i ht; obtain ⟨_, rfl, _⟩ := hx; simp only [Rp] at hy; subst hy; simp only [Option.some.injEq] at h; subst h
      exact equalIn_nili2 ht
    · rename_i tx vx ty vy ht; obtain ⟨u', rfl, hu'⟩ := hx; obtain ⟨v', rfl, hv'⟩ := hy
      split at h
      · rename_i hne; simp only [Option.some.injEq] at h; subst h
        exact equalIn_iface_ne ht hne
      · rename_i hne
        simp only [ne_eq, Decidable.not_not] at hne; subst hne
        split at h
        · rename_i i hi
          split at h
          · rename_i hc
            rw [equalIn_iface_eq ht hi hc]
            exact leq_sound d h hu' hv' D (by omega)
          · simp at h
        · simp at h
    · rename_i fs xs ys ht; obtain ⟨us, rfl, hus⟩ := hx; obtain ⟨vs, rfl, hvs⟩ := hy
      split at h
      · simp at h
      · rename_i hp
        rw [run_equalIn_struct w D t _ _ (by rw [fieldsOf_of ht]; exact ht) (by simpa using hp), fieldsOf_of ht]
        exact leqF_sound d h hus hvs D (by omega)
    · rename_i n e xs ys ht; obtain ⟨us, rfl, hus⟩ := hx; obtain ⟨vs, rfl, hvs⟩ := hy
      split at h
      · rename_i hk
        obtain ⟨i, hi⟩ := known_info hk
        rw [run_equalIn_array w D _ _ ht hi, List.range_eq_range']
        have hc : P.cellsOf e = szT P e := by simp [Program.cellsOf, szT, hi]
        rw [hc]
        exact leqA_sound d h hus hvs D (by omega)
      · simp at h
    · rename_i ht; simp only [Rp] at hx hy; subst hx; subst hy
      split at h
      · rename_i hk; subst hk; simp only [Option.some.injEq] at h; subst h
        exact equalIn_cplx ht
      · simp at h
    · simp at h
theorem leqF_sound : ∀ (d : Nat) {xs ys : List LV} {us vs : List Value} {fs : List Field} {r : Bool}, leqF P d xs ys fs = some r → Rps β xs us → Rps β ys vs →
    ∀ D, d ≤ D → (Op.eqFields D ⟨us⟩ ⟨vs⟩ fs).run P w = .ok r w
  | 0, _, _, _, _, _, _, h, _, _, _, _ => by simp [leqF] at h
  | d + 1, xs, ys, us, vs, [], r, h, hx, hy, D, hD => by
    simp [leqF] at h; subst h; simp [Op.eqFields]
  | d + 1, xs, ys, us, vs, f :: fs, r, h, hx, hy, D, hD => by
    simp only [leqF] at h
    simp only [Op.eqFields]
    split at h
    · rename_i hn
      rw [if_pos hn]
      split at h
      · rename_i a b h1 h2
        obtain ⟨u, r1, s1⟩ := part_sound (w := w) hx h1
        obtain ⟨v, r2, s2⟩ := part_sound (w := w) hy h2
        simp only [Sem.run_bind, r1, r2, Result.andThen_ok]
        split at h
        · rename_i h3
          rw [leq_sound d h3 s1 s2 D (by omega)]
          simpa using leqF_sound d h hx hy D (by omega)
        · rename_i h3
          simp only [Option.some.injEq] at h; subst h
          rw [leq_sound d h3 s1 s2 D (by omega)]
          simp
        · simp at h
      · simp at h
    · rename_i hn
      rw [if_neg hn]
      exact leqF_sound d h hx hy D (by omega)
theorem leqA_sound : ∀ (d : Nat) {e : TypeId} {xs ys : List LV} {us vs : List Value} {n i : Nat} {r : Bool}, leqA P d e xs ys n i = some r → Rps β xs us → Rps β ys vs →
    ∀ D, d ≤ D → (Op.eqItems D e (szT P e) ⟨us⟩ ⟨vs⟩ (List.range' i n)).run P w = .ok r w
  | 0, _, _, _, _, _, _, _, _, h, _, _, _, _ => by simp [leqA] at h
  | d + 1, e, xs, ys, us, vs, 0, i, r, h, hx, hy, D, hD => by
    simp [leqA] at h; subst h; simp [Op.eqItems]
  | d + 1, e, xs, ys, us, vs, n + 1, i, r, h, hx, hy, D, hD => by
    simp only [leqA] at h
    simp only [List.range'_succ, Op.eqItems]
    split at h
    · rename_i a b h1 h2
      obtain ⟨u, r1, s1⟩ := part_sound (w := w) hx h1
      obtain ⟨v, r2, s2⟩ := part_sound (w := w) hy h2
      simp only [Sem.run_bind, r1, r2, Result.andThen_ok]
      split at h
      · rename_i h3
        rw [leq_sound d h3 s1 s2 D (by omega)]
        simpa using leqA_sound d h hx hy D (by omega)
      · rename_i h3
        simp only [Option.some.injEq] at h; subst h
        rw [leq_sound d h3 s1 s2 D (by omega)]
        simp
      · simp at h
    · simp at h
end

end
end Go.CP

namespace Go.CP

section
variable {β : Lay} {P : Program} {w : World}

/-- An operator with its guard. -/
def binG (op : BinOp) (t : TypeId) (x y : Operand) (a b : Value) : Sem Value := do eqGuard op t x y a b; Go.binOp op t a b

/-- Values at which the guard of == asks nothing. -/
def noGuard : Value → Bool
  | .nilIface | .agg _ => false
  | _ => true

theorem eqGuard_plain {op : BinOp} {t : TypeId} {x y : Operand} {a b : Value} (h : noGuard a = true ∨ noGuard b = true) : (eqGuard op t x y a b).run P w = .ok () w := by
  unfold eqGuard
  cases op <;> simp
  all_goals
    cases a <;> cases b <;> simp [noGuard] at h ⊢

theorem eqGuard_other {op : BinOp} {t : TypeId} {x y : Operand} {a b : Value} (h1 : op ≠ .eql) (h2 : op ≠ .neq) : (eqGuard op t x y a b).run P w = .ok () w := by
  unfold eqGuard
  cases op <;> simp at h1 h2 ⊢

theorem run_binG {op : BinOp} {t : TypeId} {x y : Operand} {a b : Value} (h : (eqGuard op t x y a b).run P w = .ok () w) :
    (binG op t x y a b).run P w = (Go.binOp op t a b).run P w := by
  simp [binG, h]

theorem eqOut_sound {op : BinOp} {r : Bool} {v : LV} {t : TypeId} {a b : Value} (h : eqOut op r = some v) (he : (Op.equal t a b).run P w = .ok r w)
    (hb : (op = .eql → Go.binOp .eql t a b = (do pure (.bool (← Op.equal t a b)))) ∧ (op = .neq → Go.binOp .neq t a b = (do pure (.bool (!(← Op.equal t a b)))))) :
    ∃ u, (Go.binOp op t a b).run P w = .ok u w ∧ Rp β v u := by
  cases op <;> simp [eqOut] at h <;> subst h
  · exact ⟨.bool r, by rw [hb.1 rfl]; simp [he], rfl⟩
  · exact ⟨.bool (!r), by rw [hb.2 rfl]; simp [he], rfl⟩

section
variable {t : TypeId}
theorem equal_ptr {e : TypeId} {a b : Option Addr} (ht : P.underlying t = some (.pointer e)) (h : a = none ∨ b = none) :
    (Op.equal t (.pointer a) (.pointer b)).run P w = .ok (decide (a = b)) w := by
  unfold Op.equal Op.maxDepth
  rw [Op.equalIn]
  simp only [Sem.run_bind, run_und ht, Result.andThen_ok]
  rcases h with h | h <;> subst h
  · cases b <;> simp
  · cases a <;> simp
theorem equal_ptr_same {e : TypeId} {a : Addr} (ht : P.underlying t = some (.pointer e)) (hk : known P e = true) :
    (Op.equal t (.pointer (some a)) (.pointer (some a))).run P w = .ok true w := by
  unfold Op.equal Op.maxDepth
  rw [Op.equalIn]
  simp only [Sem.run_bind, run_und ht, Result.andThen_ok, run_sizeOf' hk]
  split
  · simp only [sameAddr, beq_self_eq_true, if_true]
    simp
  · simp
theorem equal_sl1 {e : TypeId} {a : Option Addr} {i j : Nat} (ht : P.underlying t = some (.slice e)) : (Op.equal t (.slice none 0 0) (.slice a i j)).run P w = .ok a.isNone w := by
  unfold Op.equal Op.maxDepth
  rw [Op.equalIn]
  simp only [Sem.run_bind, run_und ht, Result.andThen_ok, Sem.run_pure]
theorem equal_sl2 {e : TypeId} {a : Addr} {i j : Nat} (ht : P.underlying t = some (.slice e)) : (Op.equal t (.slice (some a) i j) (.slice none 0 0)).run P w = .ok false w := by
  unfold Op.equal Op.maxDepth
  rw [Op.equalIn]
  simp only [Sem.run_bind, run_und ht, Result.andThen_ok]; rfl
theorem equal_map1 {k e : TypeId} {a : Option Nat} (ht : P.underlying t = some (.map k e)) : (Op.equal t (.map none) (.map a)).run P w = .ok a.isNone w := by
  unfold Op.equal Op.maxDepth
  rw [Op.equalIn]
  simp only [Sem.run_bind, run_und ht, Result.andThen_ok, Sem.run_pure]
theorem equal_map2 {k e : TypeId} {a : Nat} (ht : P.underlying t = some (.map k e)) : (Op.equal t (.map (some a)) (.map none)).run P w = .ok false w := by
  unfold Op.equal Op.maxDepth
  rw [Op.equalIn]
  simp only [Sem.run_bind, run_und ht, Result.andThen_ok]; rfl
theorem equal_fn0 {p q : Array TypeId} {z : Bool} (ht : P.underlying t = some (.func p q z)) : (Op.equal t .nilFunc .nilFunc).run P w = .ok true w := by
  unfold Op.equal Op.maxDepth
  rw [Op.equalIn]
  simp only [Sem.run_bind, run_und ht, Result.andThen_ok]; rfl
theorem equal_fn1 {p q : Array TypeId} {z : Bool} {f : Fn} {a b : Array Value} (ht : P.underlying t = some (.func p q z)) : (Op.equal t .nilFunc (.func f a b)).run P w = .ok false w := by
  unfold Op.equal Op.maxDepth
  rw [Op.equalIn]
  simp only [Sem.run_bind, run_und ht, Result.andThen_ok]; rfl
theorem equal_fn2 {p q : Array TypeId} {z : Bool} {f : Fn} {a b : Array Value} (ht : P.underlying t = some (.func p q z)) : (Op.equal t (.func f a b) .nilFunc).run P w = .ok false w := by
  unfold Op.equal Op.maxDepth
  rw [Op.equalIn]
  simp only [Sem.run_bind, run_und ht, Result.andThen_ok]; rfl
end

theorem guardIn_nil {t : TypeId} {ms : Array (String × TypeId)} {D : Nat} (ht : P.underlying t = some (.interface ms)) : (Op.eqGuardIn (D + 1) t .nilIface .nilIface).run P w = .ok (!ms.isEmpty) w := by
  rw [Op.eqGuardIn]
  simp only [Sem.run_bind, run_und ht, Result.andThen_ok, Sem.run_pure]

theorem equal_leq {t : TypeId} {x y : LV} {u v : Value} {r : Bool} (h : leq P eqDepth t x y = some r) (hx : Rp β x u) (hy : Rp β y v) : (Op.equal t u v).run P w = .ok r w :=
  leq_sound eqDepth h hx hy Op.maxDepth (by decide)

theorem lbin_sound {op : BinOp} {t : TypeId} {x y : Operand} {a b v : LV} {p q : Value} (hp : Rp β a p) (hq : Rp β b q)
    (h : lbin P op t (isConstO x || isConstO y) a b = some v) : ∃ u, (binG op t x y p q).run P w = .ok u w ∧ Rp β v u := by
  unfold lbin at h
  split at h
  · unfold bShift at h
    split at h
    · rename_i k i k' j
      simp only [Rp] at hp hq; subst hp; subst hq
      rw [run_binG (eqGuard_plain (by simp [noGuard]))]
      simp only [lshift] at h
      split at h
      · simp at h
      · rename_i hj
        simp only [Option.some.injEq] at h; subst h
        exact ⟨_, by simp only [Go.binOp, Op.shift, hj, if_false]; rfl, rfl⟩
    · simp at h
  · unfold bShift at h
    split at h
    · rename_i k i k' j
      simp only [Rp] at hp hq; subst hp; subst hq
      rw [run_binG (eqGuard_plain (by simp [noGuard]))]
      simp only [lshift] at h
      split at h
      · simp at h
      · rename_i hj
        simp only [Option.some.injEq] at h; subst h
        exact ⟨_, by simp only [Go.binOp, Op.shift, hj, if_false]; rfl, rfl⟩
    · simp at h
  · rename_i h1 h2
    split at h
    · unfold bInt at h
      split at h
      · rename_i k i k' j
        simp only [Rp] at hp hq; subst hp; subst hq
        rw [run_binG (eqGuard_plain (by simp [noGuard]))]
        split at h
        · rename_i hk; subst hk
          exact lint_sound ⟨fun e => h1 e, fun e => h2 e⟩ t h
        · simp at h
      · simp at h
    · unfold bStr at h
      split at h
      · simp only [Rp] at hp hq; subst hp; subst hq
        rw [run_binG (eqGuard_plain (by simp [noGuard]))]
        exact lstr_sound t h
      · simp at h
    · rename_i ht
      unfold bBool at h
      split at h
      · simp only [Rp] at hp hq; subst hp; subst hq
        rw [run_binG (eqGuard_plain (by simp [noGuard]))]
        exact eqOut_sound h (run_equalIn_bool w _ t _ _ ht) ⟨fun _ => rfl, fun _ => rfl⟩
      · simp at h
    · rename_i e ht
      simp only [eqB, Option.bind_eq_some_iff] at h
      obtain ⟨r, hr, h⟩ := h
      unfold eqPtr at hr
      split at hr
      · simp only [Option.some.injEq] at hr; subst hr
        simp only [Rp] at hp hq; subst hp; subst hq
        rw [run_binG (eqGuard_plain (by simp [noGuard]))]
        exact eqOut_sound h (by rw [equal_ptr ht (.inl rfl)]; simp) ⟨fun _ => rfl, fun _ => rfl⟩
      · simp only [Option.some.injEq] at hr; subst hr
        simp only [Rp] at hp; subst hp; obtain ⟨b, _, rfl⟩ := hq
        rw [run_binG (eqGuard_plain (by simp [noGuard]))]
        exact eqOut_sound h (by rw [equal_ptr ht (.inl rfl)]; simp) ⟨fun _ => rfl, fun _ => rfl⟩
      · simp only [Option.some.injEq] at hr; subst hr
        simp only [Rp] at hq; subst hq; obtain ⟨b, _, rfl⟩ := hp
        rw [run_binG (eqGuard_plain (by simp [noGuard]))]
        exact eqOut_sound h (by rw [equal_ptr ht (.inr rfl)]; simp) ⟨fun _ => rfl, fun _ => rfl⟩
      · split at hr
        · rename_i hc
          obtain ⟨hk, rfl, rfl⟩ := hc
          simp only [Option.some.injEq] at hr; subst hr
          obtain ⟨b, hb, rfl⟩ := hp; obtain ⟨b', hb', rfl⟩ := hq
          rw [hb] at hb'; cases hb'
          rw [run_binG (eqGuard_plain (by simp [noGuard]))]
          exact eqOut_sound h (equal_ptr_same ht hk) ⟨fun _ => rfl, fun _ => rfl⟩
        · simp at hr
      · simp only [Option.some.injEq] at hr; subst hr
        simp only [Rp] at hp; subst hp; obtain ⟨_, b, _, _, rfl, _⟩ := hq
        rw [run_binG (eqGuard_plain (by simp [noGuard]))]
        exact eqOut_sound h (by rw [equal_ptr ht (.inl rfl)]; simp) ⟨fun _ => rfl, fun _ => rfl⟩
      · simp only [Option.some.injEq] at hr; subst hr
        simp only [Rp] at hq; subst hq; obtain ⟨_, b, _, _, rfl, _⟩ := hp
        rw [run_binG (eqGuard_plain (by simp [noGuard]))]
        exact eqOut_sound h (by rw [equal_ptr ht (.inr rfl)]; simp) ⟨fun _ => rfl, fun _ => rfl⟩
      · simp at hr
    · rename_i e ht
      simp only [eqB, Option.bind_eq_some_iff] at h
      obtain ⟨r, hr, h⟩ := h
      unfold eqSl at hr
      split at hr <;> try simp only [Option.some.injEq, reduceCtorEq] at hr
      all_goals try subst hr
      · simp only [Rp] at hp hq; subst hp; subst hq
        rw [run_binG (eqGuard_plain (by simp [noGuard]))]
        exact eqOut_sound h (by rw [equal_sl1 ht]; rfl) ⟨fun _ => rfl, fun _ => rfl⟩
      · simp only [Rp] at hp; subst hp; obtain ⟨b, _, _, rfl⟩ := hq
        rw [run_binG (eqGuard_plain (by simp [noGuard]))]
        exact eqOut_sound h (by rw [equal_sl1 ht]; rfl) ⟨fun _ => rfl, fun _ => rfl⟩
      · simp only [Rp] at hp; subst hp; obtain ⟨b, _, rfl⟩ := hq
        rw [run_binG (eqGuard_plain (by simp [noGuard]))]
        exact eqOut_sound h (by rw [equal_sl1 ht]; rfl) ⟨fun _ => rfl, fun _ => rfl⟩
      · simp only [Rp] at hq; subst hq; obtain ⟨b, _, _, rfl⟩ := hp
        rw [run_binG (eqGuard_plain (by simp [noGuard]))]
        exact eqOut_sound h (equal_sl2 ht) ⟨fun _ => rfl, fun _ => rfl⟩
      · simp only [Rp] at hq; subst hq; obtain ⟨b, _, rfl⟩ := hp
        rw [run_binG (eqGuard_plain (by simp [noGuard]))]
        exact eqOut_sound h (equal_sl2 ht) ⟨fun _ => rfl, fun _ => rfl⟩
      · split at hr
        · simp only [Option.some.injEq] at hr; subst hr
          simp only [Rp] at hp; subst hp; obtain ⟨_, _, _, _, rfl, _, _, hz | ⟨_, _, rfl, _⟩⟩ := hq
          · omega
          rw [run_binG (eqGuard_plain (by simp [noGuard]))]
          exact eqOut_sound h (by rw [equal_sl1 ht]; rfl) ⟨fun _ => rfl, fun _ => rfl⟩
        · cases hr
      · split at hr
        · simp only [Option.some.injEq] at hr; subst hr
          simp only [Rp] at hq; subst hq; obtain ⟨_, _, _, _, rfl, _, _, hz | ⟨_, _, rfl, _⟩⟩ := hp
          · omega
          rw [run_binG (eqGuard_plain (by simp [noGuard]))]
          exact eqOut_sound h (equal_sl2 ht) ⟨fun _ => rfl, fun _ => rfl⟩
        · cases hr
    · rename_i k e ht
      simp only [eqB, Option.bind_eq_some_iff] at h
      obtain ⟨r, hr, h⟩ := h
      unfold eqMap at hr
      split at hr <;> simp only [Option.some.injEq, reduceCtorEq] at hr <;> subst hr
      · simp only [Rp] at hp hq; subst hp; subst hq
        rw [run_binG (eqGuard_plain (by simp [noGuard]))]
        exact eqOut_sound h (by rw [equal_map1 ht]; rfl) ⟨fun _ => rfl, fun _ => rfl⟩
      · simp only [Rp] at hp; subst hp; obtain ⟨b, _, rfl⟩ := hq
        rw [run_binG (eqGuard_plain (by simp [noGuard]))]
        exact eqOut_sound h (by rw [equal_map1 ht]; rfl) ⟨fun _ => rfl, fun _ => rfl⟩
      · simp only [Rp] at hq; subst hq; obtain ⟨b, _, rfl⟩ := hp
        rw [run_binG (eqGuard_plain (by simp [noGuard]))]
        exact eqOut_sound h (equal_map2 ht) ⟨fun _ => rfl, fun _ => rfl⟩
      · simp only [Rp] at hp; subst hp; obtain ⟨b, _, _, rfl, _⟩ := hq
        rw [run_binG (eqGuard_plain (by simp [noGuard]))]
        exact eqOut_sound h (by rw [equal_map1 ht]; rfl) ⟨fun _ => rfl, fun _ => rfl⟩
      · simp only [Rp] at hq; subst hq; obtain ⟨b, _, _, rfl, _⟩ := hp
        rw [run_binG (eqGuard_plain (by simp [noGuard]))]
        exact eqOut_sound h (equal_map2 ht) ⟨fun _ => rfl, fun _ => rfl⟩
    · rename_i ht
      simp only [eqB, Option.bind_eq_some_iff] at h
      obtain ⟨r, hr, h⟩ := h
      unfold eqFn at hr
      split at hr <;> simp only [Option.some.injEq, reduceCtorEq] at hr <;> subst hr
      · simp only [Rp] at hp hq; subst hp; subst hq
        rw [run_binG (eqGuard_plain (by simp [noGuard]))]
        exact eqOut_sound h (equal_fn0 ht) ⟨fun _ => rfl, fun _ => rfl⟩
      · simp only [Rp] at hp; subst hp; obtain ⟨_, _, rfl, _⟩ := hq
        rw [run_binG (eqGuard_plain (by simp [noGuard]))]
        exact eqOut_sound h (equal_fn1 ht) ⟨fun _ => rfl, fun _ => rfl⟩
      · simp only [Rp] at hq; subst hq; obtain ⟨_, _, rfl, _⟩ := hp
        rw [run_binG (eqGuard_plain (by simp [noGuard]))]
        exact eqOut_sound h (equal_fn2 ht) ⟨fun _ => rfl, fun _ => rfl⟩
    · rename_i ms ht
      simp only [eqB, Option.bind_eq_some_iff] at h
      obtain ⟨r, hr, h⟩ := h
      unfold eqIf at hr
      split at hr
      · simp only [Rp] at hp hq; subst hp; subst hq
        split at hr
        · rename_i hg
          simp only [Option.some.injEq] at hr; subst hr
          have hgd : (eqGuard op t x y .nilIface .nilIface).run P w = .ok () w := by
            unfold eqGuard
            cases op <;> simp
            all_goals
              have hgi := guardIn_nil (P := P) (w := w) (D := 9999) ht
              cases x <;> cases y <;> simp [isConstO] at hg ⊢ <;> simp [show Op.maxDepth = 9999 + 1 from rfl, hgi, hg]
          rw [run_binG hgd]
          exact eqOut_sound h (equalIn_nili ht) ⟨fun _ => rfl, fun _ => rfl⟩
        · simp at hr
      · simp only [Option.some.injEq] at hr; subst hr
        simp only [Rp] at hp; subst hp; obtain ⟨_, rfl, _⟩ := hq
        rw [run_binG (eqGuard_plain (by simp [noGuard]))]
        exact eqOut_sound h (equalIn_nili1 ht) ⟨fun _ => rfl, fun _ => rfl⟩
      · simp only [Option.some.injEq] at hr; subst hr
        simp only [Rp] at hq; subst hq; obtain ⟨_, rfl, _⟩ := hp
        rw [run_binG (eqGuard_plain (by simp [noGuard]))]
        exact eqOut_sound h (equalIn_nili2 ht) ⟨fun _ => rfl, fun _ => rfl⟩
      · obtain ⟨u, rfl, hu⟩ := hp; obtain ⟨u', rfl, hu'⟩ := hq
        rw [run_binG (eqGuard_plain (by simp [noGuard]))]
        split at hr
        · rename_i hne
          simp only [Option.some.injEq] at hr; subst hr
          exact eqOut_sound h (equalIn_iface_ne ht hne) ⟨fun _ => rfl, fun _ => rfl⟩
        · rename_i hne
          simp only [ne_eq, Decidable.not_not] at hne; subst hne
          unfold eqDyn at hr
          split at hr
          · rename_i i hi
            split at hr
            · rename_i hcc
              refine eqOut_sound h ?_ ⟨fun _ => rfl, fun _ => rfl⟩
              show (Op.equalIn (9999 + 1) t _ _).run P w = _
              rw [equalIn_iface_eq ht hi hcc]
              exact leq_sound eqDepth hr hu hu' 9999 (by decide)
            · simp at hr
          · simp at hr
      · simp at hr
    · rename_i fs ht
      split at h
      · simp at h
      · rename_i hg
        simp only [eqB, Option.bind_eq_some_iff] at h
        obtain ⟨r, hr, h⟩ := h
        unfold eqAgg at hr
        split at hr
        · obtain ⟨us, rfl, hu⟩ := hp; obtain ⟨us', rfl, hu'⟩ := hq
          rw [run_binG (run_eqGuard_agg w op t x y _ _ (by simpa using hg))]
          exact eqOut_sound h (equal_leq hr ⟨us, rfl, hu⟩ ⟨us', rfl, hu'⟩) ⟨fun _ => rfl, fun _ => rfl⟩
        · simp at hr
    · rename_i n e ht
      split at h
      · simp at h
      · rename_i hg
        simp only [eqB, Option.bind_eq_some_iff] at h
        obtain ⟨r, hr, h⟩ := h
        unfold eqAgg at hr
        split at hr
        · obtain ⟨us, rfl, hu⟩ := hp; obtain ⟨us', rfl, hu'⟩ := hq
          rw [run_binG (run_eqGuard_agg w op t x y _ _ (by simpa using hg))]
          exact eqOut_sound h (equal_leq hr ⟨us, rfl, hu⟩ ⟨us', rfl, hu'⟩) ⟨fun _ => rfl, fun _ => rfl⟩
        · simp at hr
    · simp at h

end
end Go.CP

