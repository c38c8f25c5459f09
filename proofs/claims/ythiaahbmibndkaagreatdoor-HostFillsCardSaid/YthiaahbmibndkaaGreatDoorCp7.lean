/- The clean machine, part 7: the operators on two values do in the model what they do here. -/
import Derived.Test.YthiaahbmibndkaaGreatDoorCp6
namespace Go.CP

section
variable {β : Lay} {P : Program} {w : World}

/-- An operator with its guard. -/
def binG (op : BinOp) (t : TypeId) (x y : Operand) (a b : Value) : Sem Value := do eqGuard op t x y a b; Go.binOp op t a b

/-- Values at which the guard of == asks nothing. -/
def noGuard : Value → Bool
  | .nilIface | .agg _ => false
  | _ => true

theorem eqGuard_plain {op : BinOp} {t : TypeId} {x y : Operand} {a b : Value} (h : noGuard a = true ∨ noGuard b = true) : (eqGuard op t x y a b).run P w = .ok () w := by
  unfold eqGuard
  cases op <;> simp
  all_goals
    cases a <;> cases b <;> simp [noGuard] at h ⊢

theorem eqGuard_other {op : BinOp} {t : TypeId} {x y : Operand} {a b : Value} (h1 : op ≠ .eql) (h2 : op ≠ .neq) : (eqGuard op t x y a b).run P w = .ok () w := by
  unfold eqGuard
  cases op <;> simp at h1 h2 ⊢

theorem run_binG {op : BinOp} {t : TypeId} {x y : Operand} {a b : Value} (h : (eqGuard op t x y a b).run P w = .ok () w) :
    (binG op t x y a b).run P w = (Go.binOp op t a b).run P w := by
  simp [binG, h]

theorem eqOut_sound {op : BinOp} {r : Bool} {v : LV} {t : TypeId} {a b : Value} (h : eqOut op r = some v) (he : (Op.equal t a b).run P w = .ok r w)
    (hb : (op = .eql → Go.binOp .eql t a b = (do pure (.bool (← Op.equal t a b)))) ∧ (op = .neq → Go.binOp .neq t a b = (do pure (.bool (!(← Op.equal t a b)))))) :
    ∃ u, (Go.binOp op t a b).run P w = .ok u w ∧ Rp β v u := by
  cases op <;> simp [eqOut] at h <;> subst h
  · exact ⟨.bool r, by rw [hb.1 rfl]; simp [he], rfl⟩
  · exact ⟨.bool (!r), by rw [hb.2 rfl]; simp [he], rfl⟩

section
variable {t : TypeId}
theorem equal_ptr {e : TypeId} {a b : Option Addr} (ht : P.underlying t = some (.pointer e)) (h : a = none ∨ b = none) :
    (Op.equal t (.pointer a) (.pointer b)).run P w = .ok (decide (a = b)) w := by
  unfold Op.equal Op.maxDepth
  rw [Op.equalIn]
  simp only [Sem.run_bind, run_und ht, Result.andThen_ok]
  rcases h with h | h <;> subst h
  · cases b <;> simp
  · cases a <;> simp
theorem equal_ptr_same {e : TypeId} {a : Addr} (ht : P.underlying t = some (.pointer e)) (hk : known P e = true) :
    (Op.equal t (.pointer (some a)) (.pointer (some a))).run P w = .ok true w := by
  unfold Op.equal Op.maxDepth
  rw [Op.equalIn]
  simp only [Sem.run_bind, run_und ht, Result.andThen_ok, run_sizeOf' hk]
  split
  · simp only [sameAddr, beq_self_eq_true, if_true]
    simp
  · simp
theorem equal_sl1 {e : TypeId} {a : Option Addr} {i j : Nat} (ht : P.underlying t = some (.slice e)) : (Op.equal t (.slice none 0 0) (.slice a i j)).run P w = .ok a.isNone w := by
  unfold Op.equal Op.maxDepth
  rw [Op.equalIn]
  simp only [Sem.run_bind, run_und ht, Result.andThen_ok, Sem.run_pure]
theorem equal_sl2 {e : TypeId} {a : Addr} {i j : Nat} (ht : P.underlying t = some (.slice e)) : (Op.equal t (.slice (some a) i j) (.slice none 0 0)).run P w = .ok false w := by
  unfold Op.equal Op.maxDepth
  rw [Op.equalIn]
  simp only [Sem.run_bind, run_und ht, Result.andThen_ok]; rfl
theorem equal_map1 {k e : TypeId} {a : Option Nat} (ht : P.underlying t = some (.map k e)) : (Op.equal t (.map none) (.map a)).run P w = .ok a.isNone w := by
  unfold Op.equal Op.maxDepth
  rw [Op.equalIn]
  simp only [Sem.run_bind, run_und ht, Result.andThen_ok, Sem.run_pure]
theorem equal_map2 {k e : TypeId} {a : Nat} (ht : P.underlying t = some (.map k e)) : (Op.equal t (.map (some a)) (.map none)).run P w = .ok false w := by
  unfold Op.equal Op.maxDepth
  rw [Op.equalIn]
  simp only [Sem.run_bind, run_und ht, Result.andThen_ok]; rfl
theorem equal_fn0 {p q : Array TypeId} {z : Bool} (ht : P.underlying t = some (.func p q z)) : (Op.equal t .nilFunc .nilFunc).run P w = .ok true w := by
  unfold Op.equal Op.maxDepth
  rw [Op.equalIn]
  simp only [Sem.run_bind, run_und ht, Result.andThen_ok]; rfl
theorem equal_fn1 {p q : Array TypeId} {z : Bool} {f : Fn} {a b : Array Value} (ht : P.underlying t = some (.func p q z)) : (Op.equal t .nilFunc (.func f a b)).run P w = .ok false w := by
  unfold Op.equal Op.maxDepth
  rw [Op.equalIn]
  simp only [Sem.run_bind, run_und ht, Result.andThen_ok]; rfl
theorem equal_fn2 {p q : Array TypeId} {z : Bool} {f : Fn} {a b : Array Value} (ht : P.underlying t = some (.func p q z)) : (Op.equal t (.func f a b) .nilFunc).run P w = .ok false w := by
  unfold Op.equal Op.maxDepth
  rw [Op.equalIn]
  simp only [Sem.run_bind, run_und ht, Result.andThen_ok]; rfl
end

theorem guardIn_nil {t : TypeId} {ms : Array (String × TypeId)} {D : Nat} (ht : P.underlying t = some (.interface ms)) : (Op.eqGuardIn (D + 1) t .nilIface .nilIface).run P w = .ok (!ms.isEmpty) w := by
  rw [Op.eqGuardIn]
  simp only [Sem.run_bind, run_und ht, Result.andThen_ok, Sem.run_pure]

theorem equal_leq {t : TypeId} {x y : LV} {u v : Value} {r : Bool} (h : leq P eqDepth t x y = some r) (hx : Rp β x u) (hy : Rp β y v) : (Op.equal t u v).run P w = .ok r w :=
  leq_sound eqDepth h hx hy Op.maxDepth (by decide)

theorem lbin_sound {op : BinOp} {t : TypeId} {x y : Operand} {a b v : LV} {p q : Value} (hp : Rp β a p) (hq : Rp β b q)
    (h : lbin P op t (isConstO x || isConstO y) a b = some v) : ∃ u, (binG op t x y p q).run P w = .ok u w ∧ Rp β v u := by
  unfold lbin at h
  split at h
  · unfold bShift at h
    split at h
    · rename_i k i k' j
      simp only [Rp] at hp hq; subst hp; subst hq
      rw [run_binG (eqGuard_plain (by simp [noGuard]))]
      simp only [lshift] at h
      split at h
      · simp at h
      · rename_i hj
        simp only [Option.some.injEq] at h; subst h
        exact ⟨_, by simp only [Go.binOp, Op.shift, hj, if_false]; rfl, rfl⟩
    · simp at h
  · unfold bShift at h
    split at h
    · rename_i k i k' j
      simp only [Rp] at hp hq; subst hp; subst hq
      rw [run_binG (eqGuard_plain (by simp [noGuard]))]
      simp only [lshift] at h
      split at h
      · simp at h
      · rename_i hj
        simp only [Option.some.injEq] at h; subst h
        exact ⟨_, by simp only [Go.binOp, Op.shift, hj, if_false]; rfl, rfl⟩
    · simp at h
  · rename_i h1 h2
    split at h
    · unfold bInt at h
      split at h
      · rename_i k i k' j
        simp only [Rp] at hp hq; subst hp; subst hq
        rw [run_binG (eqGuard_plain (by simp [noGuard]))]
        split at h
        · rename_i hk; subst hk
          exact lint_sound ⟨fun e => h1 e, fun e => h2 e⟩ t h
        · simp at h
      · simp at h
    · unfold bStr at h
      split at h
      · simp only [Rp] at hp hq; subst hp; subst hq
        rw [run_binG (eqGuard_plain (by simp [noGuard]))]
        exact lstr_sound t h
      · simp at h
    · rename_i ht
      unfold bBool at h
      split at h
      · simp only [Rp] at hp hq; subst hp; subst hq
        rw [run_binG (eqGuard_plain (by simp [noGuard]))]
        exact eqOut_sound h (run_equalIn_bool w _ t _ _ ht) ⟨fun _ => rfl, fun _ => rfl⟩
      · simp at h
    · rename_i e ht
      simp only [eqB, Option.bind_eq_some_iff] at h
      obtain ⟨r, hr, h⟩ := h
      unfold eqPtr at hr
      split at hr
      · simp only [Option.some.injEq] at hr; subst hr
        simp only [Rp] at hp hq; subst hp; subst hq
        rw [run_binG (eqGuard_plain (by simp [noGuard]))]
        exact eqOut_sound h (by rw [equal_ptr ht (.inl rfl)]; simp) ⟨fun _ => rfl, fun _ => rfl⟩
      · simp only [Option.some.injEq] at hr; subst hr
        simp only [Rp] at hp; subst hp; obtain ⟨b, _, rfl⟩ := hq
        rw [run_binG (eqGuard_plain (by simp [noGuard]))]
        exact eqOut_sound h (by rw [equal_ptr ht (.inl rfl)]; simp) ⟨fun _ => rfl, fun _ => rfl⟩
      · simp only [Option.some.injEq] at hr; subst hr
        simp only [Rp] at hq; subst hq; obtain ⟨b, _, rfl⟩ := hp
        rw [run_binG (eqGuard_plain (by simp [noGuard]))]
        exact eqOut_sound h (by rw [equal_ptr ht (.inr rfl)]; simp) ⟨fun _ => rfl, fun _ => rfl⟩
      · split at hr
        · rename_i hc
          obtain ⟨hk, rfl, rfl⟩ := hc
          simp only [Option.some.injEq] at hr; subst hr
          obtain ⟨b, hb, rfl⟩ := hp; obtain ⟨b', hb', rfl⟩ := hq
          rw [hb] at hb'; cases hb'
          rw [run_binG (eqGuard_plain (by simp [noGuard]))]
          exact eqOut_sound h (equal_ptr_same ht hk) ⟨fun _ => rfl, fun _ => rfl⟩
        · simp at hr
      · simp at hr
    · rename_i e ht
      simp only [eqB, Option.bind_eq_some_iff] at h
      obtain ⟨r, hr, h⟩ := h
      unfold eqSl at hr
      split at hr <;> simp only [Option.some.injEq, reduceCtorEq] at hr <;> subst hr
      · simp only [Rp] at hp hq; subst hp; subst hq
        rw [run_binG (eqGuard_plain (by simp [noGuard]))]
        exact eqOut_sound h (by rw [equal_sl1 ht]; rfl) ⟨fun _ => rfl, fun _ => rfl⟩
      · simp only [Rp] at hp; subst hp; obtain ⟨b, _, _, rfl⟩ := hq
        rw [run_binG (eqGuard_plain (by simp [noGuard]))]
        exact eqOut_sound h (by rw [equal_sl1 ht]; rfl) ⟨fun _ => rfl, fun _ => rfl⟩
      · simp only [Rp] at hp; subst hp; obtain ⟨b, _, rfl⟩ := hq
        rw [run_binG (eqGuard_plain (by simp [noGuard]))]
        exact eqOut_sound h (by rw [equal_sl1 ht]; rfl) ⟨fun _ => rfl, fun _ => rfl⟩
      · simp only [Rp] at hq; subst hq; obtain ⟨b, _, _, rfl⟩ := hp
        rw [run_binG (eqGuard_plain (by simp [noGuard]))]
        exact eqOut_sound h (equal_sl2 ht) ⟨fun _ => rfl, fun _ => rfl⟩
      · simp only [Rp] at hq; subst hq; obtain ⟨b, _, rfl⟩ := hp
        rw [run_binG (eqGuard_plain (by simp [noGuard]))]
        exact eqOut_sound h (equal_sl2 ht) ⟨fun _ => rfl, fun _ => rfl⟩
    · rename_i k e ht
      simp only [eqB, Option.bind_eq_some_iff] at h
      obtain ⟨r, hr, h⟩ := h
      unfold eqMap at hr
      split at hr <;> simp only [Option.some.injEq, reduceCtorEq] at hr <;> subst hr
      · simp only [Rp] at hp hq; subst hp; subst hq
        rw [run_binG (eqGuard_plain (by simp [noGuard]))]
        exact eqOut_sound h (by rw [equal_map1 ht]; rfl) ⟨fun _ => rfl, fun _ => rfl⟩
      · simp only [Rp] at hp; subst hp; obtain ⟨b, _, rfl⟩ := hq
        rw [run_binG (eqGuard_plain (by simp [noGuard]))]
        exact eqOut_sound h (by rw [equal_map1 ht]; rfl) ⟨fun _ => rfl, fun _ => rfl⟩
      · simp only [Rp] at hq; subst hq; obtain ⟨b, _, rfl⟩ := hp
        rw [run_binG (eqGuard_plain (by simp [noGuard]))]
        exact eqOut_sound h (equal_map2 ht) ⟨fun _ => rfl, fun _ => rfl⟩
    · rename_i ht
      simp only [eqB, Option.bind_eq_some_iff] at h
      obtain ⟨r, hr, h⟩ := h
      unfold eqFn at hr
      split at hr <;> simp only [Option.some.injEq, reduceCtorEq] at hr <;> subst hr
      · simp only [Rp] at hp hq; subst hp; subst hq
        rw [run_binG (eqGuard_plain (by simp [noGuard]))]
        exact eqOut_sound h (equal_fn0 ht) ⟨fun _ => rfl, fun _ => rfl⟩
      · simp only [Rp] at hp; subst hp; obtain ⟨_, _, rfl, _⟩ := hq
        rw [run_binG (eqGuard_plain (by simp [noGuard]))]
        exact eqOut_sound h (equal_fn1 ht) ⟨fun _ => rfl, fun _ => rfl⟩
      · simp only [Rp] at hq; subst hq; obtain ⟨_, _, rfl, _⟩ := hp
        rw [run_binG (eqGuard_plain (by simp [noGuard]))]
        exact eqOut_sound h (equal_fn2 ht) ⟨fun _ => rfl, fun _ => rfl⟩
    · rename_i ms ht
      simp only [eqB, Option.bind_eq_some_iff] at h
      obtain ⟨r, hr, h⟩ := h
      unfold eqIf at hr
      split at hr
      · simp only [Rp] at hp hq; subst hp; subst hq
        split at hr
        · rename_i hg
          simp only [Option.some.injEq] at hr; subst hr
          have hgd : (eqGuard op t x y .nilIface .nilIface).run P w = .ok () w := by
            unfold eqGuard
            cases op <;> simp
            all_goals
              have hgi := guardIn_nil (P := P) (w := w) (D := 9999) ht
              cases x <;> cases y <;> simp [isConstO] at hg ⊢ <;> simp [show Op.maxDepth = 9999 + 1 from rfl, hgi, hg]
          rw [run_binG hgd]
          exact eqOut_sound h (equalIn_nili ht) ⟨fun _ => rfl, fun _ => rfl⟩
        · simp at hr
      · simp only [Option.some.injEq] at hr; subst hr
        simp only [Rp] at hp; subst hp; obtain ⟨_, rfl, _⟩ := hq
        rw [run_binG (eqGuard_plain (by simp [noGuard]))]
        exact eqOut_sound h (equalIn_nili1 ht) ⟨fun _ => rfl, fun _ => rfl⟩
      · simp only [Option.some.injEq] at hr; subst hr
        simp only [Rp] at hq; subst hq; obtain ⟨_, rfl, _⟩ := hp
        rw [run_binG (eqGuard_plain (by simp [noGuard]))]
        exact eqOut_sound h (equalIn_nili2 ht) ⟨fun _ => rfl, fun _ => rfl⟩
      · obtain ⟨u, rfl, hu⟩ := hp; obtain ⟨u', rfl, hu'⟩ := hq
        rw [run_binG (eqGuard_plain (by simp [noGuard]))]
        split at hr
        · rename_i hne
          simp only [Option.some.injEq] at hr; subst hr
          exact eqOut_sound h (equalIn_iface_ne ht hne) ⟨fun _ => rfl, fun _ => rfl⟩
        · rename_i hne
          simp only [ne_eq, Decidable.not_not] at hne; subst hne
          unfold eqDyn at hr
          split at hr
          · rename_i i hi
            split at hr
            · rename_i hcc
              refine eqOut_sound h ?_ ⟨fun _ => rfl, fun _ => rfl⟩
              show (Op.equalIn (9999 + 1) t _ _).run P w = _
              rw [equalIn_iface_eq ht hi hcc]
              exact leq_sound eqDepth hr hu hu' 9999 (by decide)
            · simp at hr
          · simp at hr
      · simp at hr
    · rename_i fs ht
      split at h
      · simp at h
      · rename_i hg
        simp only [eqB, Option.bind_eq_some_iff] at h
        obtain ⟨r, hr, h⟩ := h
        unfold eqAgg at hr
        split at hr
        · obtain ⟨us, rfl, hu⟩ := hp; obtain ⟨us', rfl, hu'⟩ := hq
          rw [run_binG (run_eqGuard_agg w op t x y _ _ (by simpa using hg))]
          exact eqOut_sound h (equal_leq hr ⟨us, rfl, hu⟩ ⟨us', rfl, hu'⟩) ⟨fun _ => rfl, fun _ => rfl⟩
        · simp at hr
    · rename_i n e ht
      split at h
      · simp at h
      · rename_i hg
        simp only [eqB, Option.bind_eq_some_iff] at h
        obtain ⟨r, hr, h⟩ := h
        unfold eqAgg at hr
        split at hr
        · obtain ⟨us, rfl, hu⟩ := hp; obtain ⟨us', rfl, hu'⟩ := hq
          rw [run_binG (run_eqGuard_agg w op t x y _ _ (by simpa using hg))]
          exact eqOut_sound h (equal_leq hr ⟨us, rfl, hu⟩ ⟨us', rfl, hu'⟩) ⟨fun _ => rfl, fun _ => rfl⟩
        · simp at hr
    · simp at h

end
end Go.CP
