/- The clean machine, part 8: every operation that neither reads nor writes the store does in the model what it does here. -/
/- The clean machine, part 9: the rest of the operations that neither read nor write the store. -/
import Derived.Test.YtknegckgmklnhaaGreatDoorCp6
namespace Go.CP

section
variable {β : Lay} {P : Program} {w : World}

theorem addr_add (b o n : Nat) : (⟨b, o, none⟩ : Addr).add n = ⟨b, o + n, none⟩ := by
  unfold Addr.add
  split
  · rename_i h; subst h; rfl
  · rfl

/-- A bound of a slice expression. -/
def OB (n : Option Nat) (v : Option Value) : Prop := (n = none ∧ v = none) ∨ ∃ k i, n = some i.toNat ∧ 0 ≤ i ∧ v = some (.int k i)

theorem ob_of {t : List LV} {a : Act} (ht : Rps β t a.tmps.toList) {x : Option Operand} {v : Option LV} {n : Option Nat} (h : evo t x = some v) (hn : optNat v = some n) :
    OB n (x.map a.eval) := by
  rcases evo_sound ht h with ⟨rfl, h2⟩ | ⟨y, u, rfl, h2, r⟩
  · simp [optNat] at hn; subst hn; exact .inl ⟨rfl, h2⟩
  · unfold optNat at hn
    split at hn
    · rename_i he; simp at he
    · rename_i k i he
      simp at he; subst he
      split at hn
      · simp at hn; subst hn
        simp only [Rp] at r; subst r
        rename_i h0
        exact .inr ⟨k, i, rfl, h0, h2⟩
      · simp at hn
    · simp at hn

theorem bound_ok {k : IntKind} {i : Int} {y : Nat} {c : BoundsCode} (h0 : 0 ≤ i) (h : i.toNat ≤ y) : (Instr.sliceBound (.int k i) y c).run P w = .ok i.toNat w := by
  unfold Instr.sliceBound
  simp only [asIntOf, pure_bind]
  rw [if_pos ⟨h0, by omega⟩]; rfl

theorem bounds_ok {s : Bool} {len cap : Nat} {l h m : Option Nat} {lv hv mv : Option Value} (hl : OB l lv) (hh : OB h hv) (hm : OB m mv)
    (h1 : l.getD 0 ≤ h.getD len) (h2 : h.isSome = true → h.getD len ≤ m.getD cap) (h3 : m.getD cap ≤ cap) (h4 : m.isSome = true → h.isSome = true) :
    (Instr.sliceBounds s len cap lv hv mv).run P w = .ok (l.getD 0, h.getD len, m.getD cap) w := by
  unfold Instr.sliceBounds
  rcases hm with ⟨rfl, rfl⟩ | ⟨km, im, rfl, im0, rfl⟩
  · simp only [Option.getD_none] at h2 h3 ⊢
    rcases hh with ⟨rfl, rfl⟩ | ⟨kh, ih, rfl, ih0, rfl⟩
    · simp only [Option.getD_none] at h1 ⊢
      rcases hl with ⟨rfl, rfl⟩ | ⟨kl, il, rfl, il0, rfl⟩
      · simp
      · simp only [Option.getD_some] at h1
        simp [bound_ok il0 h1]
    · simp only [Option.getD_some, Option.isSome_some, forall_const] at h1 h2 ⊢
      rcases hl with ⟨rfl, rfl⟩ | ⟨kl, il, rfl, il0, rfl⟩
      · simp [bound_ok ih0 h2]
      · simp only [Option.getD_some] at h1
        simp [bound_ok il0 h1, bound_ok ih0 h2]
  · simp only [Option.getD_some, Option.isSome_some, forall_const] at h2 h3 h4 ⊢
    rcases hh with ⟨rfl, rfl⟩ | ⟨kh, ih, rfl, ih0, rfl⟩
    · simp at h4
    · simp only [Option.getD_some, Option.isSome_some, forall_const] at h1 h2 ⊢
      rcases hl with ⟨rfl, rfl⟩ | ⟨kl, il, rfl, il0, rfl⟩
      · simp [bound_ok ih0 h2, bound_ok im0 h3]
      · simp only [Option.getD_some] at h1
        simp [bound_ok il0 h1, bound_ok ih0 h2, bound_ok im0 h3]

theorem str_extract (s : List UInt8) (l h : Nat) : (⟨⟨s⟩⟩ : ByteArray).extract l h = ⟨⟨(s.drop l).take (h - l)⟩⟩ := by
  apply ByteArray.ext
  rw [ByteArray.data_extract]
  apply Array.ext'
  simp [List.extract]

theorem slice_sound {ty : TypeId} {x v : LV} {u : Value} {l h m : Option Nat} {lv hv mv : Option Value} (hx : Rp β x u) (hl : OB l lv) (hh : OB h hv) (hm : OB m mv)
    (hs : lsliceOf P ty x l h m = some v) : ∃ u', (Instr.sliceAt ty u lv hv mv).run P w = .ok u' w ∧ Rp β v u' := by
  unfold lsliceOf at hs
  split at hs
  · rename_i ht
    unfold slStr at hs
    split at hs
    · rename_i s
      simp only [Rp] at hx; subst hx
      split at hs
      · rename_i hc
        simp at hs; subst hs
        have hmv : mv = none := by rcases hm with ⟨_, e⟩ | ⟨_, _, e, _⟩; exact e; simp at e
        subst hmv
        have hb := bounds_ok (P := P) (w := w) (s := false) (len := s.length) (cap := s.length) hl hh (.inl ⟨rfl, rfl⟩) hc.1 (fun _ => by simpa using hc.2) (by simp) (by simp)
        refine ⟨_, ?_, rfl⟩
        unfold Instr.sliceAt
        simp only [Sem.run_bind, run_und ht, Result.andThen_ok]
        unfold Instr.slice
        simp only [Sem.run_bind, run_und ht, Result.andThen_ok, Option.isSome_none, Bool.false_eq_true, if_false]
        rw [show (⟨⟨s⟩⟩ : ByteArray).size = s.length from rfl]
        simp only [Sem.run_bind, Sem.run_pure, Result.andThen_ok, hb, str_extract]
      · simp at hs
    · simp at hs
  · rename_i e ht
    split at hs
    · rename_i hk
      have hunf : ∀ (a : Option Addr) (n c : Nat) (l h m : Nat), (Instr.sliceBounds true n c lv hv mv).run P w = .ok (l, h, m) w →
          (Instr.sliceAt ty (.slice a n c) lv hv mv).run P w = .ok (.slice (if m = l then a else a.map (·.add (l * szT P e))) (h - l) (m - l)) w := by
        intro a n c l h m hb
        unfold Instr.sliceAt
        simp only [Sem.run_bind, run_und ht, Result.andThen_ok]
        unfold Instr.slice
        simp only [Sem.run_bind, run_und ht, Result.andThen_ok, hb, run_sizeOf' hk, Sem.run_pure]
      unfold slSl at hs
      split at hs
      · rename_i o k len ci
        obtain ⟨b, hb, hlen, rfl⟩ := hx
        simp only [lslice] at hs
        split at hs
        · rename_i m'
          split at hs
          · rename_i c
            split at hs
            · rename_i hc
              simp at hs; subst hs
              refine ⟨_, hunf _ _ _ _ _ _ (bounds_ok hl hh hm hc.1 (fun _ => by simpa using hc.2.1) (by simpa [CapI.cap] using hc.2.2.1) (fun _ => hc.2.2.2)), b, hb, ?_, ?_⟩
              · simp [CapI.cap]; omega
              · simp only [Option.getD_some, CapI.cap]
                by_cases e : m' = l.getD 0
                · simp only [e, if_true]
                · simp only [if_neg e, Option.map_some, addr_add, Nat.add_assoc]
            · simp at hs
          · rename_i s
            split at hs
            · rename_i hc
              simp at hs; subst hs
              refine ⟨_, hunf _ _ _ _ _ _ (bounds_ok hl hh hm hc.1 (fun _ => by simpa using hc.2.1) (by have := hc.2.2.1; simp only [Option.getD_some]; omega) (fun _ => hc.2.2.2)), b, hb, ?_, ?_⟩
              · simp [CapI.cap]; omega
              · simp only [Option.getD_some, CapI.cap]
                by_cases e : m' = l.getD 0
                · simp only [e, if_true]
                · simp only [if_neg e, Option.map_some, addr_add, Nat.add_assoc]
            · simp at hs
        · have hmv : mv = none := by rcases hm with ⟨_, e⟩ | ⟨_, _, e, _⟩; exact e; simp at e
          subst hmv
          split at hs
          · rename_i c
            split at hs
            · rename_i hc
              simp at hs; subst hs
              refine ⟨_, hunf _ _ _ _ _ _ (bounds_ok hl hh (.inl ⟨rfl, rfl⟩) hc.1 (fun _ => by simpa [CapI.cap] using hc.2) (by simp) (by simp)), b, hb, ?_, ?_⟩
              · simp [CapI.cap]; omega
              · simp only [Option.getD_none, CapI.cap]
                by_cases e : c = l.getD 0
                · simp only [e, if_true]
                · simp only [if_neg e, Option.map_some, addr_add, Nat.add_assoc]
            · simp at hs
          · rename_i s
            split at hs
            · rename_i hc
              obtain ⟨rfl, hs0, hlo, hhi⟩ := hc
              simp only [CapI.cap] at hlen
              have hb' := hunf (some ⟨b.blk, b.base + k, none⟩) len ((b.room - k) / szT P e) _ _ _ (bounds_ok (len := len) (cap := (b.room - k) / szT P e) hl hh (.inl ⟨rfl, rfl⟩) hlo (fun _ => by simp; omega) (by simp) (by simp))
              simp only [Option.getD_none] at hb'
              split at hs
              · rename_i h0
                simp at hs; subst hs
                refine ⟨_, hb', b, hb, ?_, ?_⟩
                · simp [CapI.cap]; omega
                · simp only [h0, Nat.zero_mul, Nat.sub_zero, CapI.cap]
                  split
                  · rfl
                  · simp only [Option.map_some, addr_add, Nat.add_zero]
              · rename_i h0
                split at hs
                · rename_i hlt
                  simp at hs; subst hs
                  have hcap : (b.room - (k + l.getD 0 * szT P e)) / szT P e = (b.room - k) / szT P e - l.getD 0 := by
                    rw [Nat.sub_add_eq, Nat.mul_comm, Nat.sub_mul_div]
                  refine ⟨_, hb', b, hb, ?_, ?_⟩
                  · simp only [CapI.cap, hcap]; omega
                  · rw [if_neg (by omega)]
                    simp only [CapI.cap, hcap, Option.map_some, addr_add, Nat.add_assoc]
                · simp at hs; subst hs
                  have he : h.getD len - l.getD 0 = 0 := by omega
                  rw [he] at hb'
                  refine ⟨_, hb', ?_⟩
                  split
                  · exact ⟨_, _, rfl⟩
                  · exact ⟨_, _, rfl⟩
            · simp at hs
      · simp only [Rp] at hx; subst hx
        split at hs
        · rename_i hc
          simp at hs; subst hs
          obtain ⟨c1, c2, c3, c4⟩ := hc
          refine ⟨_, hunf none 0 0 _ _ _ (bounds_ok (len := 0) (cap := 0) hl hh hm (by omega) (fun _ => by omega) (by omega) c4), ?_⟩
          simp [c1, c2, c3, Rp]
        · simp at hs
      · obtain ⟨a, c, rfl⟩ := hx
        split at hs
        · rename_i hc
          simp at hs; subst hs
          obtain ⟨c1, c2, rfl⟩ := hc
          have hmv : mv = none := by rcases hm with ⟨_, e⟩ | ⟨_, _, e, _⟩; exact e; simp at e
          subst hmv
          refine ⟨_, hunf (some a) 0 c _ _ _ (bounds_ok (len := 0) (cap := c) hl hh (.inl ⟨rfl, rfl⟩) (by omega) (fun _ => by simp [c2]) (by simp) (by simp)), ?_⟩
          simp only [c1, c2]
          split <;> exact ⟨_, _, rfl⟩
        · simp at hs
      · rename_i cs len cap
        obtain ⟨us, hus, a, c, rfl, hlc, hcap, hF⟩ := hx
        split at hs
        · rename_i hc
          simp only [Option.some.injEq] at hs; subst hs
          obtain ⟨c0, c1, c2, c3, c4⟩ := hc
          have hm1 : m.getD len ≤ m.getD c ∧ m.getD c ≤ c := by
            cases m with
            | none => simp only [Option.getD_none]; omega
            | some m => simp only [Option.getD_some] at c3 ⊢; omega
          refine ⟨_, hunf a len c _ _ _ (bounds_ok (len := len) (cap := c) hl hh hm c1 (fun _ => by omega) hm1.2 c4), (us.drop (l.getD 0 * szT P e)).take ((h.getD len - l.getD 0) * szT P e), (hus.drop _).take _, (if m.getD c = l.getD 0 then a else a.map (·.add (l.getD 0 * szT P e))), m.getD c - l.getD 0, rfl, by omega, ?_, ?_⟩
          · intro k hk
            cases m with
            | none => simp at hk
            | some m => simpa using hk
          · rcases Nat.eq_zero_or_pos (h.getD len - l.getD 0) with z | z
            · refine .inl ⟨z, fun ha => ?_⟩
              have ha' : a = none := by
                cases a with
                | none => rfl
                | some a => split at ha <;> simp at ha
              rcases hF with ⟨h0, hc0⟩ | ⟨b, base, e1, _⟩
              · have := hc0 ha'
                omega
              · rw [ha'] at e1; cases e1
            · rcases hF with hF | ⟨b, base, rfl, fc, fe, ffz, f1, f2, f3⟩
              · omega
              · refine .inr ⟨b, base + l.getD 0 * szT P e, ?_, fc, fe, ffz, f1, ?_, ?_⟩
                · rw [if_neg (by omega), Option.map_some, addr_add]
                · have hul := hus.length
                  have : l.getD 0 * szT P e + (h.getD len - l.getD 0) * szT P e ≤ len * szT P e := by rw [← Nat.add_mul]; exact Nat.mul_le_mul_right _ (by omega)
                  have : ((us.drop (l.getD 0 * szT P e)).take ((h.getD len - l.getD 0) * szT P e)).length ≤ (h.getD len - l.getD 0) * szT P e := by simp; omega
                  omega
                · intro i u hu
                  rw [List.getElem?_take] at hu
                  split at hu
                  · rw [List.getElem?_drop] at hu
                    rw [Nat.add_assoc]; exact f3 _ _ hu
                  · cases hu
        · simp at hs
      · simp at hs
    · simp at hs
  · rename_i n e ht
    split at hs
    · rename_i hk
      unfold slArr at hs
      split at hs
      · obtain ⟨b, hb, rfl⟩ := hx
        split at hs
        · rename_i hc
          obtain ⟨c1, c2, c3, c4⟩ := hc
          simp at hs; subst hs
          refine ⟨_, ?_, b, hb, ?_, rfl⟩
          · unfold Instr.sliceAt
            simp only [Sem.run_bind, run_und ht, Result.andThen_ok, Instr.sureAddr, Sem.run_pure, bounds_ok (P := P) (w := w) (len := n) (cap := n) hl hh hm c1 (fun _ => c2) c3 c4, run_sizeOf' hk]
            by_cases e : m.getD n = l.getD 0
            · simp only [e, if_true, CapI.cap]
            · simp only [if_neg e, addr_add, Nat.add_assoc, CapI.cap]
          · simp [CapI.cap]; omega
        · simp at hs
      · simp at hs
    · simp at hs
  · simp at hs

end
end Go.CP

namespace Go.CP

section
variable {β : Lay} {P : Program} {w : World}

theorem fieldAt_sound {ty : TypeId} {x v : LV} {u : Value} {f : Nat} (hx : Rp β x u) (h : lfieldAddr P ty x f = some v) :
    ∃ u', (Instr.fieldAt ty u f).run P w = .ok u' w ∧ Rp β v u' := by
  unfold lfieldAddr at h
  split at h
  · rename_i fs ht
    split at h
    · rename_i fd hf
      split at h
      · rename_i hc
        unfold fAddr at h
        split at h
        · obtain ⟨b, hb, rfl⟩ := hx
          simp at h; subst h
          refine ⟨_, ?_, b, hb, rfl⟩
          unfold Instr.fieldAt
          simp only [Sem.run_bind, run_und ht, Result.andThen_ok, hf, Instr.sureAddr, Sem.run_pure, fieldPlace, run_sizeOf' hc.1]
          rw [if_neg hc.2]
          simp [addr_add, Nat.add_assoc]
        · simp only [Rp] at hx; subst hx
          simp at h; subst h
          refine ⟨_, ?_, rfl⟩
          unfold Instr.fieldAt
          simp only [Sem.run_bind, run_und ht, Result.andThen_ok, hf, Instr.sureAddr, Sem.run_pure, fieldPlace, run_sizeOf' hc.1]
          rw [if_neg hc.2]
          simp [addr_add, Nat.add_assoc]
        · obtain ⟨us, b, base, hus, rfl, hF⟩ := hx
          simp at h; subst h
          refine ⟨_, ?_, us, b, base, hus, rfl, hF⟩
          unfold Instr.fieldAt
          simp only [Sem.run_bind, run_und ht, Result.andThen_ok, hf, Instr.sureAddr, Sem.run_pure, fieldPlace, run_sizeOf' hc.1]
          rw [if_neg hc.2]
          simp [addr_add, Nat.add_assoc]
        · simp at h
      · simp at h
    · simp at h
  · simp at h

theorem lpartV_part {ty : TypeId} {x v : LV} {off : Nat} (h : lpartV P ty x off = some v) : ∃ cs, x = .agg cs ∧ lpart P ty cs off = some v := by
  unfold lpartV at h
  split at h
  · rename_i hk
    split at h
    · rename_i ha
      unfold fldA at h
      split at h
      · exact ⟨_, rfl, by simp only [lpart, hk, ha, if_true]; exact h⟩
      · simp at h
    · rename_i ha
      unfold fld1 at h
      split at h
      · exact ⟨_, rfl, by simp only [lpart, hk, if_true]; rw [if_neg ha]; exact h⟩
      · simp at h
  · simp at h

theorem field_sound {ty : TypeId} {x v : LV} {u : Value} {f : Nat} (hx : Rp β x u) (h : lfield P ty x f = some v) :
    ∃ u', (Instr.field ty u f).run P w = .ok u' w ∧ Rp β v u' := by
  unfold lfield at h
  split at h
  · rename_i fs ht
    split at h
    · rename_i fd hf
      obtain ⟨cs, rfl, hp⟩ := lpartV_part h
      obtain ⟨vs, rfl, hvs⟩ := hx
      obtain ⟨u', h1, h2⟩ := part_sound (w := w) hvs hp
      refine ⟨u', ?_, h2⟩
      unfold Instr.field
      simp only [Sem.run_bind, run_und ht, Result.andThen_ok, hf, asAgg, Sem.run_pure, h1]
    · simp at h
  · simp at h

theorem indexAt_sound {ty : TypeId} {x i v : LV} {u j : Value} (hx : Rp β x u) (hi : Rp β i j) (h : lindexAddr P ty x i = some v) :
    ∃ u', (Instr.indexAt ty u j).run P w = .ok u' w ∧ Rp β v u' := by
  unfold lindexAddr at h
  split at h
  · rename_i n e ht
    split at h
    · rename_i hk
      unfold ixArr at h
      split at h
      · obtain ⟨b, hb, rfl⟩ := hx
        simp only [Rp] at hi; subst hi
        split at h
        · rename_i hc
          simp at h; subst h
          refine ⟨_, ?_, b, hb, rfl⟩
          unfold Instr.indexAt
          simp only [asIntOf, Sem.run_bind, Sem.run_pure, run_und ht, Result.andThen_ok, Instr.sureAddr]
          rw [if_pos hc]
          simp only [Sem.run_bind, run_sizeOf' hk, Result.andThen_ok, Sem.run_pure, addr_add, Nat.add_assoc]
        · simp at h
      · simp only [Rp] at hx; subst hx
        simp only [Rp] at hi; subst hi
        split at h
        · rename_i hc
          simp at h; subst h
          refine ⟨_, ?_, rfl⟩
          unfold Instr.indexAt
          simp only [asIntOf, Sem.run_bind, Sem.run_pure, run_und ht, Result.andThen_ok, Instr.sureAddr]
          rw [if_pos hc]
          simp only [Sem.run_bind, run_sizeOf' hk, Result.andThen_ok, Sem.run_pure, addr_add, Nat.add_assoc]
        · simp at h
      · simp at h
    · simp at h
  · rename_i e ht
    split at h
    · rename_i hk
      unfold ixSl at h
      split at h
      · obtain ⟨b, hb, hlen, rfl⟩ := hx
        simp only [Rp] at hi; subst hi
        split at h
        · rename_i hc
          simp at h; subst h
          refine ⟨_, ?_, b, hb, rfl⟩
          unfold Instr.indexAt
          simp only [asIntOf, Sem.run_bind, Sem.run_pure, run_und ht, Result.andThen_ok]
          rw [if_pos hc]
          simp only [Sem.run_bind, run_sizeOf' hk, Result.andThen_ok, Sem.run_pure, addr_add, Nat.add_assoc]
        · simp at h
      · rename_i cs len cap _ i'
        obtain ⟨us, hus, a, c, rfl, hlc, hcap, hF⟩ := hx
        simp only [Rp] at hi; subst hi
        split at h
        · rename_i hc
          simp at h; subst h
          rcases hF with hF | ⟨b, base, rfl, hF⟩
          · omega
          refine ⟨_, ?_, us, b, base, hus, rfl, hF⟩
          unfold Instr.indexAt
          simp only [asIntOf, Sem.run_bind, Sem.run_pure, run_und ht, Result.andThen_ok]
          rw [if_pos hc]
          simp only [Sem.run_bind, run_sizeOf' hk, Result.andThen_ok, Sem.run_pure, addr_add, Nat.add_assoc]
        · simp at h
      · simp at h
    · simp at h
  · simp at h

theorem index_sound {ty : TypeId} {x i v : LV} {u j : Value} (hx : Rp β x u) (hi : Rp β i j) (h : lindex P ty x i = some v) :
    ∃ u', (Instr.index ty u j).run P w = .ok u' w ∧ Rp β v u' := by
  unfold lindex at h
  split at h
  · rename_i n e ht
    split at h
    · rename_i hk
      have hg : ∃ k z, i = .int k z ∧ 0 ≤ z ∧ z < n ∧ lpartV P e x (z.toNat * szT P e) = some v := by
        split at h
        · rename_i ha
          unfold ixAgg at h
          split at h
          · split at h
            · rename_i hc
              exact ⟨_, _, rfl, hc.1, hc.2, by simp only [lpartV, hk, ha, if_true]; exact h⟩
            · simp at h
          · simp at h
        · rename_i ha
          unfold ixAgg at h
          split at h
          · split at h
            · rename_i hc
              exact ⟨_, _, rfl, hc.1, hc.2, by simp only [lpartV, hk, if_true]; rw [if_neg ha]; exact h⟩
            · simp at h
          · simp at h
      obtain ⟨k, z, rfl, h0, h1, hp⟩ := hg
      obtain ⟨cs, rfl, hp⟩ := lpartV_part hp
      obtain ⟨vs, rfl, hvs⟩ := hx
      obtain ⟨u', h3, h4⟩ := part_sound (w := w) hvs hp
      refine ⟨u', ?_, h4⟩
      simp only [Rp] at hi; subst hi
      unfold Instr.index
      simp only [asIntOf, Sem.run_bind, Sem.run_pure, run_und ht, Result.andThen_ok]
      rw [if_pos ⟨h0, h1⟩]
      simp only [Sem.run_bind, run_sizeOf' hk, Result.andThen_ok, h3]
    · simp at h
  · rename_i ht
    unfold ixStr at h
    split at h
    · simp only [Rp] at hx hi; subst hx; subst hi
      split at h
      · rename_i s k z h0
        split at h
        · rename_i b hb
          simp at h; subst h
          refine ⟨_, ?_, rfl⟩
          unfold Instr.index
          simp only [asIntOf, Sem.run_bind, Sem.run_pure, run_und ht, Result.andThen_ok]
          rw [if_pos h0]
          have : (⟨⟨s⟩⟩ : ByteArray)[z.toNat]? = some b := by
            have hlt : z.toNat < s.length := by
              rcases Nat.lt_or_ge z.toNat s.length with k | k
              · exact k
              · simp [List.getElem?_eq_none k] at hb
            have hlt' : z.toNat < (⟨⟨s⟩⟩ : ByteArray).size := hlt
            rw [getElem?_pos (⟨⟨s⟩⟩ : ByteArray) z.toNat hlt']
            rw [List.getElem?_eq_getElem hlt] at hb
            exact hb
          rw [this]; rfl
        · simp at h
      · simp at h
    · simp at h
  · simp at h

theorem assert_sound {a xt : TypeId} {x v : LV} {u : Value} {ok : Bool} (hx : Rp β x u) (h : lassert P x a ok = some v) :
    ∃ u', (Instr.typeAssert u xt a ok).run P w = .ok u' w ∧ Rp β v u' := by
  have zz : ∀ {z : LV}, zeroT P a = some z → ∃ u', (zeroValue a).run P w = .ok u' w ∧ Rp β z u' := fun hz =>
    let ⟨u', h1, h2, _⟩ := run_zero (w := w) hz; ⟨u', h1, ofV_sound h2⟩
  unfold lassert at h
  split at h
  · rename_i want ht
    unfold asI at h
    split at h
    · rename_i t y
      obtain ⟨q, rfl, hq⟩ := hx
      split at h
      · rename_i hf
        unfold hasAll at hf
        split at hf
        · rename_i i hi
          simp at hf
          simp at h; subst h
          refine ⟨if ok then .tuple #[.iface t q, .bool true] else .iface t q, ?_, ?_⟩
          · unfold Instr.typeAssert
            simp only [Sem.run_bind, run_und ht, Result.andThen_ok, typeInfo, run_program, hi, Sem.run_pure]
            rw [hf]; rfl
          · cases ok
            · exact ⟨q, rfl, hq⟩
            · exact ⟨[.iface t q, .bool true], rfl, _, _, rfl, ⟨q, rfl, hq⟩, _, _, rfl, rfl, rfl⟩
        · simp at hf
      · rename_i hf
        unfold hasAll at hf
        split at hf
        · rename_i i hi
          simp at hf
          split at h
          · rename_i hok
            simp at h; obtain ⟨z, hz, rfl⟩ := h
            obtain ⟨u', h1, h2⟩ := zz hz
            refine ⟨.tuple #[u', .bool false], ?_, [u', .bool false], rfl, _, _, rfl, h2, _, _, rfl, rfl, rfl⟩
            unfold Instr.typeAssert
            simp only [Sem.run_bind, run_und ht, Result.andThen_ok, typeInfo, run_program, hi, Sem.run_pure]
            cases hm : Instr.missingMethod want i.methods with
            | none => rw [hm] at hf; simp at hf
            | some m => simp [hok, h1]
          · simp at h
        · simp at hf
      · simp at h
    · simp only [Rp] at hx; subst hx
      split at h
      · rename_i hok
        simp at h; obtain ⟨z, hz, rfl⟩ := h
        obtain ⟨u', h1, h2⟩ := zz hz
        refine ⟨.tuple #[u', .bool false], ?_, [u', .bool false], rfl, _, _, rfl, h2, _, _, rfl, rfl, rfl⟩
        unfold Instr.typeAssert
        simp [run_und ht, hok, h1]
      · simp at h
    · simp at h
  · rename_i d hni ht
    unfold asC at h
    split at h
    · rename_i t y
      obtain ⟨q, rfl, hq⟩ := hx
      split at h
      · rename_i he
        subst he
        simp at h; subst h
        refine ⟨if ok then .tuple #[q, .bool true] else q, ?_, ?_⟩
        · unfold Instr.typeAssert
          simp only [Sem.run_bind, run_und ht, Result.andThen_ok]
          cases d <;> first | (exact (hni _ rfl).elim) | simp
        · cases ok
          · exact hq
          · exact ⟨[q, .bool true], rfl, _, _, rfl, hq, _, _, rfl, rfl, rfl⟩
      · rename_i he
        split at h
        · rename_i hok
          simp at h; obtain ⟨z, hz, rfl⟩ := h
          obtain ⟨u', h1, h2⟩ := zz hz
          refine ⟨.tuple #[u', .bool false], ?_, [u', .bool false], rfl, _, _, rfl, h2, _, _, rfl, rfl, rfl⟩
          unfold Instr.typeAssert
          simp only [Sem.run_bind, run_und ht, Result.andThen_ok]
          cases d <;> first | (exact (hni _ rfl).elim) | (simp [he, hok, h1])
        · simp at h
    · simp only [Rp] at hx; subst hx
      split at h
      · rename_i hok
        simp at h; obtain ⟨z, hz, rfl⟩ := h
        obtain ⟨u', h1, h2⟩ := zz hz
        refine ⟨.tuple #[u', .bool false], ?_, [u', .bool false], rfl, _, _, rfl, h2, _, _, rfl, rfl, rfl⟩
        unfold Instr.typeAssert
        simp only [Sem.run_bind, run_und ht, Result.andThen_ok]
        cases d <;> simp [hok, h1]
      · simp at h
    · simp at h
  · simp at h

end
end Go.CP

