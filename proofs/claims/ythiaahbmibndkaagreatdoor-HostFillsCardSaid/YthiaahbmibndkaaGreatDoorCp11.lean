/- The clean machine, part 11: all operations that neither read nor write the store, in one. -/
import Derived.Test.YthiaahbmibndkaaGreatDoorCp10
namespace Go.CP

section
variable {β : Lay} {P : Program} {w : World}

theorem nilCheck_sound {x v : LV} {u : Value} {ρ : Operand → Value} {o : Oper} {y : Operand} (ho : o.op = .nilCheck y) (hu : ρ y = u) (hx : Rp β x u) (h : lnilCheck x = some v) :
    (execOp ρ o).run P w = .ok (.value u) w ∧ Rp β v u := by
  unfold lnilCheck at h
  unfold execOp
  rw [ho]
  split at h
  · obtain ⟨b, hb, rfl⟩ := hx; simp at h; subst h
    simp only [hu]; exact ⟨rfl, b, hb, rfl⟩
  · obtain ⟨q, rfl, r⟩ := hx; simp at h; subst h
    simp only [hu]; exact ⟨rfl, q, rfl, r⟩
  · obtain ⟨q, s, rfl, r⟩ := hx; simp at h; subst h
    simp only [hu]; exact ⟨rfl, q, s, rfl, r⟩
  · simp only [Rp] at hx; subst hx; simp at h; subst h
    simp only [hu]; exact ⟨rfl, rfl⟩
  · simp at h

theorem conv_sound {s d : TypeId} {x v : LV} {u : Value} (hx : Rp β x u) (h : lconv P s d x = some v) : ∃ u', (convert s d u).run P w = .ok u' w ∧ Rp β v u' := by
  unfold lconv at h
  split at h
  · rename_i k' k h1 h2
    unfold cvInt at h
    split at h
    · simp only [Rp] at hx; subst hx; simp at h; subst h
      exact ⟨_, by unfold convert; simp only [Sem.run_bind, run_und h1, run_und h2, Result.andThen_ok]; rfl, rfl⟩
    · simp at h
  · rename_i h1 h2
    unfold cvStr at h
    split at h
    · simp only [Rp] at hx; subst hx; simp at h; subst h
      exact ⟨_, by unfold convert; simp only [Sem.run_bind, run_und h1, run_und h2, Result.andThen_ok]; rfl, rfl⟩
    · simp at h
  · simp at h

theorem unary_sound {op : UnOp} {x v : LV} {u : Value} (hx : Rp β x u) (h : lun op x = some v) : ∃ u', (Op.unary op u).run P w = .ok u' w ∧ Rp β v u' := by
  unfold lun at h
  split at h
  · simp only [Rp] at hx; subst hx; simp only [Option.some.injEq] at h; subst h; exact ⟨_, rfl, rfl⟩
  · simp only [Rp] at hx; subst hx; simp at h; subst h; exact ⟨_, rfl, rfl⟩
  · simp at h

theorem makeIface_sound {t : TypeId} {x v : LV} {u : Value} (hx : Rp β x u) (h : lmakeIface P t x = some v) : ∃ u', (Instr.makeInterface t u).run P w = .ok u' w ∧ Rp β v u' := by
  unfold lmakeIface at h
  split at h
  · rename_i hc
    simp at h; subst h
    simp only [Bool.and_eq_true, Bool.not_eq_true'] at hc
    obtain ⟨d, hd⟩ := Option.isSome_iff_exists.1 hc.1
    have hn := hc.2
    refine ⟨.iface t u, ?_, u, rfl, hx⟩
    unfold Instr.makeInterface
    simp only [Sem.run_bind, run_und hd, Result.andThen_ok]
    cases d <;> first | rfl | (simp [isIfaceT, hd] at hn)
  · simp at h

/-- The results of a list of operands. -/
theorem evs_one {t : List LV} {a : Act} {xs : Array Operand} {x : LV} (ht : Rps β t a.tmps.toList) (h : evs t xs.toList = some [x]) : ∃ u, xs.map a.eval = #[u] ∧ Rp β x u := by
  obtain ⟨u, us, e, r, s⟩ := evs_sound ht h
  simp only [Rps] at s; subst s
  exact ⟨u, by apply Array.ext'; simpa using e, r⟩

theorem evs_two {t : List LV} {a : Act} {xs : Array Operand} {x y : LV} (ht : Rps β t a.tmps.toList) (h : evs t xs.toList = some [x, y]) : ∃ u v, xs.map a.eval = #[u, v] ∧ Rp β x u ∧ Rp β y v := by
  obtain ⟨u, us, e, r, v, vs, rfl, s, s'⟩ := evs_sound ht h
  simp only [Rps] at s'; subst s'
  exact ⟨u, v, by apply Array.ext'; simpa using e, r, s⟩

theorem run_builtin {ρ : Operand → Value} {o : Oper} {c : Call} {b : Builtin} (ho : o.op = .call c) (hb : c.callee = .builtin b) :
    ∃ cs, (execOp ρ o).run P w = (builtin b c.argTypes o.type cs (c.args.map ρ)).run P w := by
  unfold execOp
  rw [ho]
  simp only [resolve, hb, Sem.run_bind, Sem.run_pure, Result.andThen_ok, invoke]
  exact ⟨_, rfl⟩

theorem run_v {s : Sem Value} {u : Value} {w' : World} (h : s.run P w = .ok u w') : (do pure (.value (← s)) : Sem Next).run P w = .ok (.value u) w' := by
  simp [h]

theorem slData_sound {x v : LV} {u : Value} {ats : Array TypeId} {rt : TypeId} (hx : Rp β x u) (h : lslData x = some v) : ∃ u', (Builtin.unsafeSliceData_ ats rt #[u]).run P w = .ok u' w ∧ Rp β v u' := by
  unfold lslData at h
  split at h
  · cases h
    simp only [Rp] at hx; subst hx
    exact ⟨_, rfl, rfl⟩
  · rename_i o k len c
    split at h
    · cases h
    · rename_i hc
      cases h
      obtain ⟨b, hb, hl, rfl⟩ := hx
      refine ⟨.pointer (some ⟨b.blk, b.base + k, none⟩), ?_, b, hb, rfl⟩
      show Sem.run P (ite (c ≠ 0) _ _) w = _
      rw [if_pos hc]; rfl
  · rename_i o k len sz
    split at h
    · cases h
    · rename_i hlen
      cases h
      obtain ⟨b, hb, hl, rfl⟩ := hx
      refine ⟨.pointer (some ⟨b.blk, b.base + k, none⟩), ?_, b, hb, rfl⟩
      have hc : ¬ (CapI.rest sz).cap b k = 0 := by omega
      show Sem.run P (ite ((CapI.rest sz).cap b k ≠ 0) _ _) w = _
      rw [if_pos hc]; rfl
  · cases h

theorem lopA_sound {t : List LV} {a : Act} {o : Oper} {v : LV} (ht : Rps β t a.tmps.toList) (h : lopA P t o.op = some v) :
    ∃ u, (execOp a.eval o).run P w = .ok (.value u) w ∧ Rp β v u := by
  cases ho : o.op with
  | move x =>
    rw [ho] at h; simp only [lopA] at h
    exact ⟨_, by unfold execOp; rw [ho]; rfl, ev_sound ht h⟩
  | assign x =>
    rw [ho] at h; simp only [lopA] at h
    exact ⟨_, by unfold execOp; rw [ho]; rfl, ev_sound ht h⟩
  | pick c x y =>
    rw [ho] at h; simp only [lopA] at h
    split at h
    · rename_i c' x' y' h1 h2 h3
      unfold lpick at h
      split at h
      · rename_i b
        simp at h; subst h
        have r1 := ev_sound ht h1; have r2 := ev_sound ht h2; have r3 := ev_sound ht h3
        simp only [Rp] at r1
        refine ⟨if b then a.eval x else a.eval y, ?_, ?_⟩
        · unfold execOp; rw [ho]; simp only [r1, asBool, Sem.run_bind, Sem.run_pure, Result.andThen_ok]
        · cases b
          · exact r3
          · exact r2
      · simp at h
    · simp at h
  | nilCheck x =>
    rw [ho] at h; simp only [lopA] at h
    split at h
    · rename_i x' h1
      exact ⟨_, nilCheck_sound ho rfl (ev_sound ht h1) h⟩
    · simp at h
  | binOp op ty x y yt =>
    rw [ho] at h; simp only [lopA] at h
    split at h
    · rename_i x' y' h1 h2
      obtain ⟨u, h3, h4⟩ := lbin_sound (w := w) (ev_sound ht h1) (ev_sound ht h2) h
      exact ⟨u, by unfold execOp; rw [ho]; exact run_v h3, h4⟩
    · simp at h
  | unOp op ty x =>
    rw [ho] at h; simp only [lopA] at h
    split at h
    · rename_i x' h1
      obtain ⟨u, h3, h4⟩ := unary_sound (P := P) (w := w) (ev_sound ht h1) h
      exact ⟨u, by unfold execOp; rw [ho]; exact run_v h3, h4⟩
    · simp at h
  | convert s d x =>
    rw [ho] at h; simp only [lopA] at h
    split at h
    · rename_i x' h1
      obtain ⟨u, h3, h4⟩ := conv_sound (w := w) (ev_sound ht h1) h
      exact ⟨u, by unfold execOp; rw [ho]; exact run_v h3, h4⟩
    · simp at h
  | makeInterface ty x =>
    rw [ho] at h; simp only [lopA] at h
    split at h
    · rename_i x' h1
      obtain ⟨u, h3, h4⟩ := makeIface_sound (w := w) (ev_sound ht h1) h
      exact ⟨u, by unfold execOp; rw [ho]; exact run_v h3, h4⟩
    · simp at h
  | makeFunc fn xs ys =>
    rw [ho] at h; simp only [lopA] at h
    split at h
    · rename_i x' y' h1 h2
      simp at h; subst h
      refine ⟨.func fn (xs.map a.eval) (ys.map a.eval), by unfold execOp; rw [ho]; rfl, xs.toList.map a.eval, ys.toList.map a.eval, ?_, evs_sound ht h1, evs_sound ht h2⟩
      congr 1 <;> (apply Array.ext'; simp)
    · simp at h
  | field ty x f =>
    rw [ho] at h; simp only [lopA] at h
    split at h
    · rename_i x' h1
      obtain ⟨u, h3, h4⟩ := field_sound (w := w) (ev_sound ht h1) h
      exact ⟨u, by unfold execOp; rw [ho]; exact run_v h3, h4⟩
    · simp at h
  | fieldAddr ty x f =>
    rw [ho] at h; simp only [lopA] at h
    split at h
    · rename_i x' h1
      obtain ⟨u, h3, h4⟩ := fieldAt_sound (w := w) (ev_sound ht h1) h
      exact ⟨u, by unfold execOp; rw [ho]; exact run_v h3, h4⟩
    · simp at h
  | indexAddr ty x i =>
    rw [ho] at h; simp only [lopA] at h
    split at h
    · rename_i x' y' h1 h2
      obtain ⟨u, h3, h4⟩ := indexAt_sound (w := w) (ev_sound ht h1) (ev_sound ht h2) h
      exact ⟨u, by unfold execOp; rw [ho]; exact run_v h3, h4⟩
    · simp at h
  | index ty x i =>
    rw [ho] at h; simp only [lopA] at h
    split at h
    · rename_i x' y' h1 h2
      obtain ⟨u, h3, h4⟩ := index_sound (w := w) (ev_sound ht h1) (ev_sound ht h2) h
      exact ⟨u, by unfold execOp; rw [ho]; exact run_v h3, h4⟩
    · simp at h
  | slice ty x l hh m =>
    rw [ho] at h; simp only [lopA] at h
    split at h
    · rename_i x' l' hh' m' h1 h2 h3 h4
      unfold ob3 at h
      split at h
      · rename_i l2 hh2 m2 e1 e2 e3
        obtain ⟨u, h5, h6⟩ := slice_sound (w := w) (ev_sound ht h1) (ob_of ht h2 e1) (ob_of ht h3 e2) (ob_of ht h4 e3) h
        exact ⟨u, by unfold execOp; rw [ho]; exact run_v h5, h6⟩
      · simp at h
    · simp at h
  | extract x i =>
    rw [ho] at h; simp only [lopA] at h
    split at h
    · rename_i x' h1
      have r := ev_sound ht h1
      unfold lextract at h
      split at h
      · obtain ⟨vs, e, rs⟩ := r
        obtain ⟨u, hu, ru⟩ := rs.get h
        refine ⟨u, ?_, ru⟩
        unfold execOp; rw [ho]
        refine run_v ?_
        rw [e]
        simp [Instr.extract, hu]
      · simp at h
    · simp at h
  | typeAssert x xt as ok =>
    rw [ho] at h; simp only [lopA] at h
    split at h
    · rename_i x' h1
      obtain ⟨u, h3, h4⟩ := assert_sound (w := w) (xt := xt) (ev_sound ht h1) h
      exact ⟨u, by unfold execOp; rw [ho]; exact run_v h3, h4⟩
    · simp at h
  | build ty parts =>
    rw [ho] at h; simp only [lopA] at h
    split at h
    · rename_i ps h1
      obtain ⟨e1, e2⟩ := evp_sound ht h1
      obtain ⟨u, h3, h4⟩ := build_sound (w := w) (qs := parts.toList.map fun x => (x.1, a.eval x.2)) (by rw [List.map_map]; exact e1) (by rw [List.map_map]; exact e2) h
      refine ⟨u, ?_, h4⟩
      unfold execOp; rw [ho]
      refine run_v ?_
      rw [← h3]
      congr 2
      apply Array.ext'
      simp
    · simp at h
  | call c =>
    rw [ho] at h; simp only [lopA] at h
    split at h
    · rename_i x hc h1
      obtain ⟨u, e, r⟩ := evs_one ht h1
      obtain ⟨cs, hcs⟩ := run_builtin (P := P) (w := w) (ρ := a.eval) ho hc
      rw [hcs, e]
      by_cases h0 : 0 < c.argTypes.size
      · rw [if_pos h0] at h
        obtain ⟨u', h3, h4⟩ := llen_sound (w0 := w) (rt := o.type) (st := []) (w := w) (.inr rfl) r h0 h
        exact ⟨u', by unfold builtin; exact run_v h3, h4⟩
      · rw [if_neg h0] at h; simp at h
    · rename_i x hc h1
      obtain ⟨u, e, r⟩ := evs_one ht h1
      obtain ⟨cs, hcs⟩ := run_builtin (P := P) (w := w) (ρ := a.eval) ho hc
      rw [hcs, e]
      by_cases h0 : 0 < c.argTypes.size
      · rw [if_pos h0] at h
        obtain ⟨u', h3, h4⟩ := lcap_sound (rt := o.type) (w := w) r h0 h
        exact ⟨u', by unfold builtin; exact run_v h3, h4⟩
      · rw [if_neg h0] at h; simp at h
    · rename_i xs hc h1
      obtain ⟨cs, hcs⟩ := run_builtin (P := P) (w := w) (ρ := a.eval) ho hc
      rw [hcs]
      have rs := evs_sound ht h1
      unfold lmaxs at h
      split at h
      · simp at h
      · obtain ⟨u, us, e, r, s⟩ := rs
        obtain ⟨q, h3, h4⟩ := lfold_sound (P := P) (w := w) (fun x y v a b hx hy h => lmax2_sound hx hy h) s r h
        refine ⟨q, ?_, h4⟩
        unfold builtin
        refine run_v ?_
        unfold Builtin.max_
        rw [show (Array.map a.eval c.args).toList = u :: us by rw [← e]; simp]
        exact h3
    · rename_i xs hc h1
      obtain ⟨cs, hcs⟩ := run_builtin (P := P) (w := w) (ρ := a.eval) ho hc
      rw [hcs]
      have rs := evs_sound ht h1
      unfold lmins at h
      split at h
      · simp at h
      · obtain ⟨u, us, e, r, s⟩ := rs
        obtain ⟨q, h3, h4⟩ := lfold_sound (P := P) (w := w) (fun x y v a b hx hy h => lmin2_sound hx hy h) s r h
        refine ⟨q, ?_, h4⟩
        unfold builtin
        refine run_v ?_
        unfold Builtin.min_
        rw [show (Array.map a.eval c.args).toList = u :: us by rw [← e]; simp]
        exact h3
    · rename_i x hc h1
      obtain ⟨u, e, r⟩ := evs_one ht h1
      obtain ⟨cs, hcs⟩ := run_builtin (P := P) (w := w) (ρ := a.eval) ho hc
      rw [hcs, e]
      obtain ⟨u', h3, h4⟩ := slData_sound (P := P) (w := w) (ats := c.argTypes) (rt := o.type) r h
      exact ⟨u', by unfold builtin; exact run_v h3, h4⟩
    · simp at h
  | _ => rw [ho] at h; simp [lopA] at h

end
end Go.CP
