/- The clean machine, part 19: an operation, and operations in the order of the text, in the model. -/
import Derived.Test.YthiaahbmibndkaaGreatDoorCp18
namespace Go.CP

section
variable {β : Lay} {P : Program} {w w0 : World} {st : LState} {dl : List Deferred}

/-- What goes on behind an operation. -/
def After (w0 : World) (β : Lay) (a : Act) (dst : Option Tmp) (K : LV → LState → Prop) (a' : Act) (w' : World) : Prop :=
  ∃ β' v st' u, K v st' ∧ Rp β' v u ∧ Rel w0 β' st' w' ∧ β.le β' ∧ a' = a.put dst u

theorem run_call {ρ : Operand → Value} {o : Oper} {c : Call} {f : Operand} {g : FuncId} {first captured : Array Value} (ho : o.op = .call c) (hc : c.callee = .value f) (hf : ρ f = .func (.func g) first captured) (hg : Callable P g) :
    (execOp ρ o).run P w = .ok (.enter g (first ++ c.args.map ρ ++ captured)) w := by
  obtain ⟨fn, body, h1, h2, h3⟩ := hg
  unfold execOp
  rw [ho]
  simp only [resolve, hc, Deferred.ofValue, hf, Sem.run_bind, Sem.run_pure, Result.andThen_ok, invoke, callFunc, run_program, h1, h3, h2, Option.isNone_some, Bool.false_eq_true, if_false]

theorem run_callF {ρ : Operand → Value} {o : Oper} {c : Call} {f : Operand} {g : FuncId} {first captured : Array Value} (ho : o.op = .call c) (hc : c.callee = .value f) (hf : ρ f = .func (.func g) first captured) :
    (execOp ρ o).run P w = (callFunc g (first ++ c.args.map ρ ++ captured)).run P w := by
  unfold execOp
  rw [ho]
  simp only [resolve, hc, Deferred.ofValue, hf, Sem.run_bind, Sem.run_pure, Result.andThen_ok, invoke]

theorem levOp_sound {t : List LV} {a : Act} {o : Oper} {K : LV → LState → Prop} {Q : Exit → Act → World → Prop} (h : Rel w0 β st w) (ht : Rps β t a.tmps.toList)
    (hk : levOp P o t st K) : o.wp P a w (After w0 β a o.dst K) Q := by
  unfold levOp at hk
  unfold Oper.wp
  split at hk
  · unfold bd at hk
    split at hk
    · rename_i v hv
      obtain ⟨u, h1, h2⟩ := lopA_sound (w := w) ht hv
      rw [h1]
      exact ⟨β, v, st, u, hk, h2, h, Lay.le.refl _, rfl⟩
    · exact hk.elim
  · unfold bd at hk
    split at hk
    · rename_i v hv
      obtain ⟨u, h1, h2⟩ := lopL_sound h ht hv
      rw [h1]
      exact ⟨β, v, st, u, hk, h2, h, Lay.le.refl _, rfl⟩
    · exact hk.elim
  · unfold bd2 at hk
    split at hk
    · rename_i v st' hr
      obtain ⟨n, w', h1, β', u, hn, h2, h3, h4⟩ := lopW_sound h ht hr
      rw [h1]
      rcases hn with rfl | ⟨rfl, rfl⟩
      · exact ⟨β', v, st', u, hk, h2, h3, h4, rfl⟩
      · exact ⟨β', v, st', undef, hk, h2, h3, h4, rfl⟩
    · exact hk.elim
  · split at hk
    · rename_i c ho
      unfold bd2 at hk
      split at hk
      · rename_i g xs hr
        unfold lcallee at hr
        split at hr
        · rename_i f hc
          split at hr
          case h_2 => simp at hr
          rename_i v' xs' h1 h2
          unfold lclo at hr
          split at hr
          · rename_i g' first captured
            simp only [Option.some.injEq, Prod.mk.injEq] at hr; obtain ⟨rfl, rfl⟩ := hr
            obtain ⟨vs, us, e, r1, r2⟩ := ev_sound ht h1
            have r3 := evs_sound ht h2
            have hargs : ((⟨vs⟩ : Array Value) ++ c.args.map a.eval ++ ⟨us⟩) = ⟨vs ++ c.args.toList.map a.eval ++ us⟩ := by
              apply Array.ext'; simp
            rcases hk with hk | hk
            · rw [run_call ho hc e hk.1]
              simp only [Oper.upon]
              rw [hargs]
              refine (hk.2 w0 β w _ h ((r1.append r3).append r2)).mono ?_
              intro e w' ⟨β', r, st', v, hR, he, hv, hrel, hle⟩
              subst he
              exact ⟨β', r, st', v, hR, hv, hrel, hle, rfl⟩
            · obtain ⟨u, w', h5, β', r, st', hR, hv, hrel, hle⟩ := hk w0 β w _ h ((r1.append r3).append r2)
              rw [run_callF ho hc e, hargs, h5]
              exact ⟨β', r, st', u, hR, hv, hrel, hle, rfl⟩
          · simp at hr
        · simp at hr
      · exact hk.elim
    · exact hk.elim
  · exact hk.elim

theorem getD_bool {t : List LV} {d : Nat} {b : Bool} (h : t.getD d lundef = .bool b) : t[d]? = some (.bool b) ∧ t.set d (.bool b) = t := by
  have hd : d < t.length := by
    rcases Nat.lt_or_ge d t.length with k | k
    · exact k
    · simp [List.getD_eq_getElem?_getD, List.getElem?_eq_none k, lundef] at h
  simp only [List.getD_eq_getElem?_getD, List.getElem?_eq_getElem hd, Option.getD_some] at h
  refine ⟨by rw [List.getElem?_eq_getElem hd, h], ?_⟩
  rw [← h]; exact List.set_getElem_self hd

theorem yielded_of {t : List LV} {a : Act} {ops : Array Oper} {j d : Nat} {b : Bool} (ht : Rps β t a.tmps.toList) (hd : (ops[j]?).bind (·.dst) = some d) (hb : t.getD d lundef = .bool b) :
    yielded ops a.tmps j = some b := by
  obtain ⟨u, hu, r⟩ := ht.get (getD_bool hb).1
  simp only [Rp] at r; subst r
  unfold yielded
  have : a.tmps[d]? = some (.bool b) := by simpa using hu
  simp [hd, this]

theorem yielded_tup {t : List LV} {a : Act} {ops : Array Oper} {j d : Nat} (ht : Rps β t a.tmps.toList) (hd : (ops[j]?).bind (·.dst) = some d) (hb : t.getD d lundef = .tup []) :
    yielded ops a.tmps j = none := by
  unfold yielded
  rw [hd]
  rcases Nat.lt_or_ge d t.length with k | k
  · have hx : t[d]? = some (.tup []) := by
      simp only [List.getD_eq_getElem?_getD, List.getElem?_eq_getElem k, Option.getD_some] at hb
      rw [List.getElem?_eq_getElem k, hb]
    obtain ⟨u, hu, r⟩ := ht.get hx
    obtain ⟨vs, rfl, r⟩ := r
    have : a.tmps[d]? = some (.tuple ⟨vs⟩) := by simpa using hu
    simp [this]
  · have : a.tmps[d]? = none := by
      rw [Array.getElem?_eq_none_iff]
      have := ht.length
      simp at this
      omega
    simp [this]

theorem put_rel {t : List LV} {a : Act} {dst : Option Tmp} {v : LV} {u : Value} (ht : Rps β t a.tmps.toList) (hv : Rp β v u) : Rps β (lput t dst v) (a.put dst u).tmps.toList := by
  cases dst with
  | none => exact ht
  | some d =>
    simp only [lput, Act.put]
    rw [Array.toList_setIfInBounds]
    exact ht.set d hv

theorem put_defers' {a : Act} {dst : Option Tmp} {u : Value} : (a.put dst u).defers = a.defers := by
  cases dst <;> rfl

theorem levOps_sound {ops : Array Oper} {Q : Exit → Act → World → Prop} : ∀ {l : List Nat} {K : List LV → LState → Prop} {t : List LV} {st : LState} {β : Lay} {a : Act} {w : World},
    Rel w0 β st w → Rps β t a.tmps.toList → a.defers = dl → levOps P ops l K t st →
    (∀ β' t' st' a' w', K t' st' → Rel w0 β' st' w' → Rps β' t' a'.tmps.toList → a'.defers = dl → β.le β' → Q .normal a' w') → wpOps P ops Q l a w
  | [], K, t, st, β, a, w, h, ht, hd, hk, hq => hq β t st a w hk h ht hd (Lay.le.refl _)
  | i :: rest, K, t, st, β, a, w, h, ht, hd, hk, hq => by
    simp only [wpOps]
    simp only [levOps, force_eq] at hk
    cases ho : ops[i]? with
    | none =>
      simp only [ho] at hk ⊢
      exact levOps_sound h ht hd hk hq
    | some o =>
      simp only [ho] at hk ⊢
      -- the operation, done
      have go : ∀ {t' : List LV}, t' = t → levOp P o t' st (fun v st' => splitV (nestG ops i) v fun v => levOps P ops rest K (lput t' o.dst v) st') → Oper.wp P o a w (wpOps P ops Q rest) Q := by
        intro t' e hk'
        subst e
        refine Oper.wp_mono ?_ (levOp_sound (Q := Q) h ht hk')
        intro a' w' ⟨β', v, st', u, h1, h2, h3, h4, h5⟩
        subst h5
        have h1 := splitV_spec h1
        exact levOps_sound h3 (put_rel (ht.mono h4) h2) (by rw [put_defers']; exact hd) h1 (fun β'' t'' st'' a'' w'' k1 k2 k3 k4 k5 => hq β'' t'' st'' a'' w'' k1 k2 k3 k4 (h4.trans k5))
      -- the operation, passed by
      have skip : ∀ {t' : List LV}, t' = t → levOps P ops rest K (lput t' o.dst lundef) st → wpOps P ops Q rest (a.put o.dst undef) w := by
        intro t' e hk'
        subst e
        exact levOps_sound h (put_rel ht Rp.undef) (by rw [put_defers']; exact hd) hk' hq
      cases hg : o.guard with
      | none =>
        simp only [hg] at hk
        have hw : Region.wanted o (yielded ops a.tmps) = true := by simp [Region.wanted, hg]
        rw [if_pos hw]
        exact .inl (go rfl hk)
      | some jw =>
        obtain ⟨j, want⟩ := jw
        simp only [hg] at hk
        cases hdst : (ops[j]?).bind (·.dst) with
        | none => simp only [hdst] at hk
        | some d =>
          simp only [hdst] at hk
          rcases gsel_cases hk with ⟨hb, hk⟩ | ⟨hb, hk⟩ | ⟨hb, hk⟩
          · have hy := yielded_of ht hdst hb
            have hs := (getD_bool hb).2
            cases want
            · have hw : ¬ Region.wanted o (yielded ops a.tmps) = true := by simp [Region.wanted, hg, hy]
              rw [if_neg hw]
              exact skip hs hk
            · have hw : Region.wanted o (yielded ops a.tmps) = true := by simp [Region.wanted, hg, hy]
              rw [if_pos hw]
              exact .inl (go hs hk)
          · have hy := yielded_of ht hdst hb
            have hs := (getD_bool hb).2
            cases want
            · have hw : Region.wanted o (yielded ops a.tmps) = true := by simp [Region.wanted, hg, hy]
              rw [if_pos hw]
              exact .inl (go hs hk)
            · have hw : ¬ Region.wanted o (yielded ops a.tmps) = true := by simp [Region.wanted, hg, hy]
              rw [if_neg hw]
              exact skip hs hk
          · have hy := yielded_tup ht hdst hb
            have hw : ¬ Region.wanted o (yielded ops a.tmps) = true := by simp [Region.wanted, hg, hy]
            rw [if_neg hw]
            exact skip rfl hk

end
end Go.CP
