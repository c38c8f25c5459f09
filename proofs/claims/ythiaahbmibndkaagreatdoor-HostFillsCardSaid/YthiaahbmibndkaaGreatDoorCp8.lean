/- The clean machine, part 8: every operation that neither reads nor writes the store does in the model what it does here. -/
import Derived.Test.YthiaahbmibndkaaGreatDoorCp7
namespace Go.CP

section
variable {β : Lay} {P : Program} {w : World}

theorem addr_add (b o n : Nat) : (⟨b, o, none⟩ : Addr).add n = ⟨b, o + n, none⟩ := by
  unfold Addr.add
  split
  · rename_i h; subst h; rfl
  · rfl

/-- A bound of a slice expression. -/
def OB (n : Option Nat) (v : Option Value) : Prop := (n = none ∧ v = none) ∨ ∃ k i, n = some i.toNat ∧ 0 ≤ i ∧ v = some (.int k i)

theorem ob_of {t : List LV} {a : Act} (ht : Rps β t a.tmps.toList) {x : Option Operand} {v : Option LV} {n : Option Nat} (h : evo t x = some v) (hn : optNat v = some n) :
    OB n (x.map a.eval) := by
  rcases evo_sound ht h with ⟨rfl, h2⟩ | ⟨y, u, rfl, h2, r⟩
  · simp [optNat] at hn; subst hn; exact .inl ⟨rfl, h2⟩
  · unfold optNat at hn
    split at hn
    · rename_i he; simp at he
    · rename_i k i he
      simp at he; subst he
      split at hn
      · simp at hn; subst hn
        simp only [Rp] at r; subst r
        rename_i h0
        exact .inr ⟨k, i, rfl, h0, h2⟩
      · simp at hn
    · simp at hn

theorem bound_ok {k : IntKind} {i : Int} {y : Nat} {c : BoundsCode} (h0 : 0 ≤ i) (h : i.toNat ≤ y) : (Instr.sliceBound (.int k i) y c).run P w = .ok i.toNat w := by
  unfold Instr.sliceBound
  simp only [asIntOf, pure_bind]
  rw [if_pos ⟨h0, by omega⟩]; rfl

theorem bounds_ok {s : Bool} {len cap : Nat} {l h m : Option Nat} {lv hv mv : Option Value} (hl : OB l lv) (hh : OB h hv) (hm : OB m mv)
    (h1 : l.getD 0 ≤ h.getD len) (h2 : h.isSome = true → h.getD len ≤ m.getD cap) (h3 : m.getD cap ≤ cap) (h4 : m.isSome = true → h.isSome = true) :
    (Instr.sliceBounds s len cap lv hv mv).run P w = .ok (l.getD 0, h.getD len, m.getD cap) w := by
  unfold Instr.sliceBounds
  rcases hm with ⟨rfl, rfl⟩ | ⟨km, im, rfl, im0, rfl⟩
  · simp only [Option.getD_none] at h2 h3 ⊢
    rcases hh with ⟨rfl, rfl⟩ | ⟨kh, ih, rfl, ih0, rfl⟩
    · simp only [Option.getD_none] at h1 ⊢
      rcases hl with ⟨rfl, rfl⟩ | ⟨kl, il, rfl, il0, rfl⟩
      · simp
      · simp only [Option.getD_some] at h1
        simp [bound_ok il0 h1]
    · simp only [Option.getD_some, Option.isSome_some, forall_const] at h1 h2 ⊢
      rcases hl with ⟨rfl, rfl⟩ | ⟨kl, il, rfl, il0, rfl⟩
      · simp [bound_ok ih0 h2]
      · simp only [Option.getD_some] at h1
        simp [bound_ok il0 h1, bound_ok ih0 h2]
  · simp only [Option.getD_some, Option.isSome_some, forall_const] at h2 h3 h4 ⊢
    rcases hh with ⟨rfl, rfl⟩ | ⟨kh, ih, rfl, ih0, rfl⟩
    · simp at h4
    · simp only [Option.getD_some, Option.isSome_some, forall_const] at h1 h2 ⊢
      rcases hl with ⟨rfl, rfl⟩ | ⟨kl, il, rfl, il0, rfl⟩
      · simp [bound_ok ih0 h2, bound_ok im0 h3]
      · simp only [Option.getD_some] at h1
        simp [bound_ok il0 h1, bound_ok ih0 h2, bound_ok im0 h3]

theorem str_extract (s : List UInt8) (l h : Nat) : (⟨⟨s⟩⟩ : ByteArray).extract l h = ⟨⟨(s.drop l).take (h - l)⟩⟩ := by
  apply ByteArray.ext
  rw [ByteArray.data_extract]
  apply Array.ext'
  simp [List.extract]

theorem slice_sound {ty : TypeId} {x v : LV} {u : Value} {l h m : Option Nat} {lv hv mv : Option Value} (hx : Rp β x u) (hl : OB l lv) (hh : OB h hv) (hm : OB m mv)
    (hs : lsliceOf P ty x l h m = some v) : ∃ u', (Instr.sliceAt ty u lv hv mv).run P w = .ok u' w ∧ Rp β v u' := by
  unfold lsliceOf at hs
  split at hs
  · rename_i ht
    unfold slStr at hs
    split at hs
    · rename_i s
      simp only [Rp] at hx; subst hx
      split at hs
      · rename_i hc
        simp at hs; subst hs
        have hmv : mv = none := by rcases hm with ⟨_, e⟩ | ⟨_, _, e, _⟩; exact e; simp at e
        subst hmv
        have hb := bounds_ok (P := P) (w := w) (s := false) (len := s.length) (cap := s.length) hl hh (.inl ⟨rfl, rfl⟩) hc.1 (fun _ => by simpa using hc.2) (by simp) (by simp)
        refine ⟨_, ?_, rfl⟩
        unfold Instr.sliceAt
        simp only [Sem.run_bind, run_und ht, Result.andThen_ok]
        unfold Instr.slice
        simp only [Sem.run_bind, run_und ht, Result.andThen_ok, Option.isSome_none, Bool.false_eq_true, if_false]
        rw [show (⟨⟨s⟩⟩ : ByteArray).size = s.length from rfl]
        simp only [Sem.run_bind, Sem.run_pure, Result.andThen_ok, hb, str_extract]
      · simp at hs
    · simp at hs
  · rename_i e ht
    split at hs
    · rename_i hk
      have hunf : ∀ (a : Option Addr) (n c : Nat) (l h m : Nat), (Instr.sliceBounds true n c lv hv mv).run P w = .ok (l, h, m) w →
          (Instr.sliceAt ty (.slice a n c) lv hv mv).run P w = .ok (.slice (if m = l then a else a.map (·.add (l * szT P e))) (h - l) (m - l)) w := by
        intro a n c l h m hb
        unfold Instr.sliceAt
        simp only [Sem.run_bind, run_und ht, Result.andThen_ok]
        unfold Instr.slice
        simp only [Sem.run_bind, run_und ht, Result.andThen_ok, hb, run_sizeOf' hk, Sem.run_pure]
      unfold slSl at hs
      split at hs
      · rename_i o k len ci
        obtain ⟨b, hb, hlen, rfl⟩ := hx
        simp only [lslice] at hs
        split at hs
        · rename_i m'
          split at hs
          · rename_i c
            split at hs
            · rename_i hc
              simp at hs; subst hs
              refine ⟨_, hunf _ _ _ _ _ _ (bounds_ok hl hh hm hc.1 (fun _ => by simpa using hc.2.1) (by simpa [CapI.cap] using hc.2.2.1) (fun _ => hc.2.2.2)), b, hb, ?_, ?_⟩
              · simp [CapI.cap]; omega
              · simp only [Option.getD_some, CapI.cap]
                by_cases e : m' = l.getD 0
                · simp only [e, if_true]
                · simp only [if_neg e, Option.map_some, addr_add, Nat.add_assoc]
            · simp at hs
          · rename_i s
            split at hs
            · rename_i hc
              simp at hs; subst hs
              refine ⟨_, hunf _ _ _ _ _ _ (bounds_ok hl hh hm hc.1 (fun _ => by simpa using hc.2.1) (by have := hc.2.2.1; simp only [Option.getD_some]; omega) (fun _ => hc.2.2.2)), b, hb, ?_, ?_⟩
              · simp [CapI.cap]; omega
              · simp only [Option.getD_some, CapI.cap]
                by_cases e : m' = l.getD 0
                · simp only [e, if_true]
                · simp only [if_neg e, Option.map_some, addr_add, Nat.add_assoc]
            · simp at hs
        · have hmv : mv = none := by rcases hm with ⟨_, e⟩ | ⟨_, _, e, _⟩; exact e; simp at e
          subst hmv
          split at hs
          · rename_i c
            split at hs
            · rename_i hc
              simp at hs; subst hs
              refine ⟨_, hunf _ _ _ _ _ _ (bounds_ok hl hh (.inl ⟨rfl, rfl⟩) hc.1 (fun _ => by simpa [CapI.cap] using hc.2) (by simp) (by simp)), b, hb, ?_, ?_⟩
              · simp [CapI.cap]; omega
              · simp only [Option.getD_none, CapI.cap]
                by_cases e : c = l.getD 0
                · simp only [e, if_true]
                · simp only [if_neg e, Option.map_some, addr_add, Nat.add_assoc]
            · simp at hs
          · rename_i s
            split at hs
            · rename_i hc
              obtain ⟨rfl, hs0, hlo, hhi⟩ := hc
              simp only [CapI.cap] at hlen
              have hb' := hunf (some ⟨b.blk, b.base + k, none⟩) len ((b.room - k) / szT P e) _ _ _ (bounds_ok (len := len) (cap := (b.room - k) / szT P e) hl hh (.inl ⟨rfl, rfl⟩) hlo (fun _ => by simp; omega) (by simp) (by simp))
              simp only [Option.getD_none] at hb'
              split at hs
              · rename_i h0
                simp at hs; subst hs
                refine ⟨_, hb', b, hb, ?_, ?_⟩
                · simp [CapI.cap]; omega
                · simp only [h0, Nat.zero_mul, Nat.sub_zero, CapI.cap]
                  split
                  · rfl
                  · simp only [Option.map_some, addr_add, Nat.add_zero]
              · rename_i h0
                split at hs
                · rename_i hlt
                  simp at hs; subst hs
                  have hcap : (b.room - (k + l.getD 0 * szT P e)) / szT P e = (b.room - k) / szT P e - l.getD 0 := by
                    rw [Nat.sub_add_eq, Nat.mul_comm, Nat.sub_mul_div]
                  refine ⟨_, hb', b, hb, ?_, ?_⟩
                  · simp only [CapI.cap, hcap]; omega
                  · rw [if_neg (by omega)]
                    simp only [CapI.cap, hcap, Option.map_some, addr_add, Nat.add_assoc]
                · simp at hs; subst hs
                  have he : h.getD len - l.getD 0 = 0 := by omega
                  rw [he] at hb'
                  refine ⟨_, hb', ?_⟩
                  split
                  · exact ⟨_, _, rfl⟩
                  · exact ⟨_, _, rfl⟩
            · simp at hs
      · simp only [Rp] at hx; subst hx
        split at hs
        · rename_i hc
          simp at hs; subst hs
          obtain ⟨c1, c2, c3, c4⟩ := hc
          refine ⟨_, hunf none 0 0 _ _ _ (bounds_ok (len := 0) (cap := 0) hl hh hm (by omega) (fun _ => by omega) (by omega) c4), ?_⟩
          simp [c1, c2, c3, Rp]
        · simp at hs
      · obtain ⟨a, c, rfl⟩ := hx
        split at hs
        · rename_i hc
          simp at hs; subst hs
          obtain ⟨c1, c2, rfl⟩ := hc
          have hmv : mv = none := by rcases hm with ⟨_, e⟩ | ⟨_, _, e, _⟩; exact e; simp at e
          subst hmv
          refine ⟨_, hunf (some a) 0 c _ _ _ (bounds_ok (len := 0) (cap := c) hl hh (.inl ⟨rfl, rfl⟩) (by omega) (fun _ => by simp [c2]) (by simp) (by simp)), ?_⟩
          simp only [c1, c2]
          split <;> exact ⟨_, _, rfl⟩
        · simp at hs
      · simp at hs
    · simp at hs
  · rename_i n e ht
    split at hs
    · rename_i hk
      unfold slArr at hs
      split at hs
      · obtain ⟨b, hb, rfl⟩ := hx
        split at hs
        · rename_i hc
          obtain ⟨c1, c2, c3, c4⟩ := hc
          simp at hs; subst hs
          refine ⟨_, ?_, b, hb, ?_, rfl⟩
          · unfold Instr.sliceAt
            simp only [Sem.run_bind, run_und ht, Result.andThen_ok, Instr.sureAddr, Sem.run_pure, bounds_ok (P := P) (w := w) (len := n) (cap := n) hl hh hm c1 (fun _ => c2) c3 c4, run_sizeOf' hk]
            by_cases e : m.getD n = l.getD 0
            · simp only [e, if_true, CapI.cap]
            · simp only [if_neg e, addr_add, Nat.add_assoc, CapI.cap]
          · simp [CapI.cap]; omega
        · simp at hs
      · simp at hs
    · simp at hs
  · simp at hs

end
end Go.CP
