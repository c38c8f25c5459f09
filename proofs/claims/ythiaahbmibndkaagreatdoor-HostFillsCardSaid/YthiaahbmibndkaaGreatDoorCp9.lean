/- The clean machine, part 9: the rest of the operations that neither read nor write the store. -/
import Derived.Test.YthiaahbmibndkaaGreatDoorCp8
namespace Go.CP

section
variable {β : Lay} {P : Program} {w : World}

theorem fieldAt_sound {ty : TypeId} {x v : LV} {u : Value} {f : Nat} (hx : Rp β x u) (h : lfieldAddr P ty x f = some v) :
    ∃ u', (Instr.fieldAt ty u f).run P w = .ok u' w ∧ Rp β v u' := by
  unfold lfieldAddr at h
  split at h
  · rename_i fs ht
    split at h
    · rename_i fd hf
      split at h
      · rename_i hc
        unfold fAddr at h
        split at h
        · obtain ⟨b, hb, rfl⟩ := hx
          simp at h; subst h
          refine ⟨_, ?_, b, hb, rfl⟩
          unfold Instr.fieldAt
          simp only [Sem.run_bind, run_und ht, Result.andThen_ok, hf, Instr.sureAddr, Sem.run_pure, fieldPlace, run_sizeOf' hc.1]
          rw [if_neg hc.2]
          simp [addr_add, Nat.add_assoc]
        · simp only [Rp] at hx; subst hx
          simp at h; subst h
          refine ⟨_, ?_, rfl⟩
          unfold Instr.fieldAt
          simp only [Sem.run_bind, run_und ht, Result.andThen_ok, hf, Instr.sureAddr, Sem.run_pure, fieldPlace, run_sizeOf' hc.1]
          rw [if_neg hc.2]
          simp [addr_add, Nat.add_assoc]
        · simp at h
      · simp at h
    · simp at h
  · simp at h

theorem lpartV_part {ty : TypeId} {x v : LV} {off : Nat} (h : lpartV P ty x off = some v) : ∃ cs, x = .agg cs ∧ lpart P ty cs off = some v := by
  unfold lpartV at h
  split at h
  · rename_i hk
    split at h
    · rename_i ha
      unfold fldA at h
      split at h
      · exact ⟨_, rfl, by simp only [lpart, hk, ha, if_true]; exact h⟩
      · simp at h
    · rename_i ha
      unfold fld1 at h
      split at h
      · exact ⟨_, rfl, by simp only [lpart, hk, if_true]; rw [if_neg ha]; exact h⟩
      · simp at h
  · simp at h

theorem field_sound {ty : TypeId} {x v : LV} {u : Value} {f : Nat} (hx : Rp β x u) (h : lfield P ty x f = some v) :
    ∃ u', (Instr.field ty u f).run P w = .ok u' w ∧ Rp β v u' := by
  unfold lfield at h
  split at h
  · rename_i fs ht
    split at h
    · rename_i fd hf
      obtain ⟨cs, rfl, hp⟩ := lpartV_part h
      obtain ⟨vs, rfl, hvs⟩ := hx
      obtain ⟨u', h1, h2⟩ := part_sound (w := w) hvs hp
      refine ⟨u', ?_, h2⟩
      unfold Instr.field
      simp only [Sem.run_bind, run_und ht, Result.andThen_ok, hf, asAgg, Sem.run_pure, h1]
    · simp at h
  · simp at h

theorem indexAt_sound {ty : TypeId} {x i v : LV} {u j : Value} (hx : Rp β x u) (hi : Rp β i j) (h : lindexAddr P ty x i = some v) :
    ∃ u', (Instr.indexAt ty u j).run P w = .ok u' w ∧ Rp β v u' := by
  unfold lindexAddr at h
  split at h
  · rename_i n e ht
    split at h
    · rename_i hk
      unfold ixArr at h
      split at h
      · obtain ⟨b, hb, rfl⟩ := hx
        simp only [Rp] at hi; subst hi
        split at h
        · rename_i hc
          simp at h; subst h
          refine ⟨_, ?_, b, hb, rfl⟩
          unfold Instr.indexAt
          simp only [asIntOf, Sem.run_bind, Sem.run_pure, run_und ht, Result.andThen_ok, Instr.sureAddr]
          rw [if_pos hc]
          simp only [Sem.run_bind, run_sizeOf' hk, Result.andThen_ok, Sem.run_pure, addr_add, Nat.add_assoc]
        · simp at h
      · simp only [Rp] at hx; subst hx
        simp only [Rp] at hi; subst hi
        split at h
        · rename_i hc
          simp at h; subst h
          refine ⟨_, ?_, rfl⟩
          unfold Instr.indexAt
          simp only [asIntOf, Sem.run_bind, Sem.run_pure, run_und ht, Result.andThen_ok, Instr.sureAddr]
          rw [if_pos hc]
          simp only [Sem.run_bind, run_sizeOf' hk, Result.andThen_ok, Sem.run_pure, addr_add, Nat.add_assoc]
        · simp at h
      · simp at h
    · simp at h
  · rename_i e ht
    split at h
    · rename_i hk
      unfold ixSl at h
      split at h
      · obtain ⟨b, hb, hlen, rfl⟩ := hx
        simp only [Rp] at hi; subst hi
        split at h
        · rename_i hc
          simp at h; subst h
          refine ⟨_, ?_, b, hb, rfl⟩
          unfold Instr.indexAt
          simp only [asIntOf, Sem.run_bind, Sem.run_pure, run_und ht, Result.andThen_ok]
          rw [if_pos hc]
          simp only [Sem.run_bind, run_sizeOf' hk, Result.andThen_ok, Sem.run_pure, addr_add, Nat.add_assoc]
        · simp at h
      · simp at h
    · simp at h
  · simp at h

theorem index_sound {ty : TypeId} {x i v : LV} {u j : Value} (hx : Rp β x u) (hi : Rp β i j) (h : lindex P ty x i = some v) :
    ∃ u', (Instr.index ty u j).run P w = .ok u' w ∧ Rp β v u' := by
  unfold lindex at h
  split at h
  · rename_i n e ht
    split at h
    · rename_i hk
      have hg : ∃ k z, i = .int k z ∧ 0 ≤ z ∧ z < n ∧ lpartV P e x (z.toNat * szT P e) = some v := by
        split at h
        · rename_i ha
          unfold ixAgg at h
          split at h
          · split at h
            · rename_i hc
              exact ⟨_, _, rfl, hc.1, hc.2, by simp only [lpartV, hk, ha, if_true]; exact h⟩
            · simp at h
          · simp at h
        · rename_i ha
          unfold ixAgg at h
          split at h
          · split at h
            · rename_i hc
              exact ⟨_, _, rfl, hc.1, hc.2, by simp only [lpartV, hk, if_true]; rw [if_neg ha]; exact h⟩
            · simp at h
          · simp at h
      obtain ⟨k, z, rfl, h0, h1, hp⟩ := hg
      obtain ⟨cs, rfl, hp⟩ := lpartV_part hp
      obtain ⟨vs, rfl, hvs⟩ := hx
      obtain ⟨u', h3, h4⟩ := part_sound (w := w) hvs hp
      refine ⟨u', ?_, h4⟩
      simp only [Rp] at hi; subst hi
      unfold Instr.index
      simp only [asIntOf, Sem.run_bind, Sem.run_pure, run_und ht, Result.andThen_ok]
      rw [if_pos ⟨h0, h1⟩]
      simp only [Sem.run_bind, run_sizeOf' hk, Result.andThen_ok, h3]
    · simp at h
  · rename_i ht
    unfold ixStr at h
    split at h
    · simp only [Rp] at hx hi; subst hx; subst hi
      split at h
      · rename_i s k z h0
        split at h
        · rename_i b hb
          simp at h; subst h
          refine ⟨_, ?_, rfl⟩
          unfold Instr.index
          simp only [asIntOf, Sem.run_bind, Sem.run_pure, run_und ht, Result.andThen_ok]
          rw [if_pos h0]
          have : (⟨⟨s⟩⟩ : ByteArray)[z.toNat]? = some b := by
            have hlt : z.toNat < s.length := by
              rcases Nat.lt_or_ge z.toNat s.length with k | k
              · exact k
              · simp [List.getElem?_eq_none k] at hb
            have hlt' : z.toNat < (⟨⟨s⟩⟩ : ByteArray).size := hlt
            rw [getElem?_pos (⟨⟨s⟩⟩ : ByteArray) z.toNat hlt']
            rw [List.getElem?_eq_getElem hlt] at hb
            exact hb
          rw [this]; rfl
        · simp at h
      · simp at h
    · simp at h
  · simp at h

theorem assert_sound {a xt : TypeId} {x v : LV} {u : Value} {ok : Bool} (hx : Rp β x u) (h : lassert P x a ok = some v) :
    ∃ u', (Instr.typeAssert u xt a ok).run P w = .ok u' w ∧ Rp β v u' := by
  have zz : ∀ {z : LV}, zeroT P a = some z → ∃ u', (zeroValue a).run P w = .ok u' w ∧ Rp β z u' := fun hz =>
    let ⟨u', h1, h2, _⟩ := run_zero (w := w) hz; ⟨u', h1, ofV_sound h2⟩
  unfold lassert at h
  split at h
  · rename_i want ht
    unfold asI at h
    split at h
    · rename_i t y
      obtain ⟨q, rfl, hq⟩ := hx
      split at h
      · rename_i hf
        unfold hasAll at hf
        split at hf
        · rename_i i hi
          simp at hf
          simp at h; subst h
          refine ⟨if ok then .tuple #[.iface t q, .bool true] else .iface t q, ?_, ?_⟩
          · unfold Instr.typeAssert
            simp only [Sem.run_bind, run_und ht, Result.andThen_ok, typeInfo, run_program, hi, Sem.run_pure]
            rw [hf]; rfl
          · cases ok
            · exact ⟨q, rfl, hq⟩
            · exact ⟨[.iface t q, .bool true], rfl, _, _, rfl, ⟨q, rfl, hq⟩, _, _, rfl, rfl, rfl⟩
        · simp at hf
      · rename_i hf
        unfold hasAll at hf
        split at hf
        · rename_i i hi
          simp at hf
          split at h
          · rename_i hok
            simp at h; obtain ⟨z, hz, rfl⟩ := h
            obtain ⟨u', h1, h2⟩ := zz hz
            refine ⟨.tuple #[u', .bool false], ?_, [u', .bool false], rfl, _, _, rfl, h2, _, _, rfl, rfl, rfl⟩
            unfold Instr.typeAssert
            simp only [Sem.run_bind, run_und ht, Result.andThen_ok, typeInfo, run_program, hi, Sem.run_pure]
            cases hm : Instr.missingMethod want i.methods with
            | none => rw [hm] at hf; simp at hf
            | some m => simp [hok, h1]
          · simp at h
        · simp at hf
      · simp at h
    · simp only [Rp] at hx; subst hx
      split at h
      · rename_i hok
        simp at h; obtain ⟨z, hz, rfl⟩ := h
        obtain ⟨u', h1, h2⟩ := zz hz
        refine ⟨.tuple #[u', .bool false], ?_, [u', .bool false], rfl, _, _, rfl, h2, _, _, rfl, rfl, rfl⟩
        unfold Instr.typeAssert
        simp [run_und ht, hok, h1]
      · simp at h
    · simp at h
  · rename_i d hni ht
    unfold asC at h
    split at h
    · rename_i t y
      obtain ⟨q, rfl, hq⟩ := hx
      split at h
      · rename_i he
        subst he
        simp at h; subst h
        refine ⟨if ok then .tuple #[q, .bool true] else q, ?_, ?_⟩
        · unfold Instr.typeAssert
          simp only [Sem.run_bind, run_und ht, Result.andThen_ok]
          cases d <;> first | (exact (hni _ rfl).elim) | simp
        · cases ok
          · exact hq
          · exact ⟨[q, .bool true], rfl, _, _, rfl, hq, _, _, rfl, rfl, rfl⟩
      · rename_i he
        split at h
        · rename_i hok
          simp at h; obtain ⟨z, hz, rfl⟩ := h
          obtain ⟨u', h1, h2⟩ := zz hz
          refine ⟨.tuple #[u', .bool false], ?_, [u', .bool false], rfl, _, _, rfl, h2, _, _, rfl, rfl, rfl⟩
          unfold Instr.typeAssert
          simp only [Sem.run_bind, run_und ht, Result.andThen_ok]
          cases d <;> first | (exact (hni _ rfl).elim) | (simp [he, hok, h1])
        · simp at h
    · simp only [Rp] at hx; subst hx
      split at h
      · rename_i hok
        simp at h; obtain ⟨z, hz, rfl⟩ := h
        obtain ⟨u', h1, h2⟩ := zz hz
        refine ⟨.tuple #[u', .bool false], ?_, [u', .bool false], rfl, _, _, rfl, h2, _, _, rfl, rfl, rfl⟩
        unfold Instr.typeAssert
        simp only [Sem.run_bind, run_und ht, Result.andThen_ok]
        cases d <;> simp [hok, h1]
      · simp at h
    · simp at h
  · simp at h

end
end Go.CP
