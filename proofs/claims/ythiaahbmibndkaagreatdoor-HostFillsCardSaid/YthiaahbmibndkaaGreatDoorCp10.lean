/- The clean machine, part 10: literals; and, all in one, the operations that neither read nor write the store. -/
import Derived.Test.YthiaahbmibndkaaGreatDoorCp9
namespace Go.CP

def vsplice (l : List Value) (k : Nat) (vs : List Value) : List Value := l.take k ++ vs ++ l.drop (k + vs.length)

section
variable {β : Lay} {P : Program} {w : World}

theorem Rps.splice {l vs : List LV} {m us : List Value} (k : Nat) (h : Rps β l m) (h' : Rps β vs us) : Rps β (splice l k vs) (vsplice m k us) := by
  unfold CP.splice vsplice
  rw [h'.length]
  exact ((h.take k).append h').append (h.drop _)

theorem Rp.cells {v : LV} {u : Value} (h : Rp β v u) (hok : v.ok = true) : Rps β v.cells u.cells.toList := by
  cases v with
  | agg cs => obtain ⟨vs, rfl, r⟩ := h; exact r
  | tup cs => obtain ⟨vs, rfl, r⟩ := h; exact Rps.one ⟨vs, rfl, r⟩
  | bool b => simp only [Rp] at h; subst h; exact Rps.one rfl
  | int k n => simp only [Rp] at h; subst h; exact Rps.one rfl
  | flt k n => simp only [Rp] at h; subst h; exact Rps.one rfl
  | cplx k a b => simp only [Rp] at h; subst h; exact Rps.one rfl
  | str s => simp only [Rp] at h; subst h; exact Rps.one rfl
  | nilp => simp only [Rp] at h; subst h; exact Rps.one rfl
  | ptr o k => obtain ⟨b, hb, rfl⟩ := h; exact Rps.one ⟨b, hb, rfl⟩
  | nils => simp only [Rp] at h; subst h; exact Rps.one rfl
  | sl o k n c => obtain ⟨b, hb, hl, rfl⟩ := h; exact Rps.one ⟨b, hb, hl, rfl⟩
  | nilm => simp only [Rp] at h; subst h; exact Rps.one rfl
  | map o => obtain ⟨b, hb, rfl⟩ := h; exact Rps.one ⟨b, hb, rfl⟩
  | nilf => simp only [Rp] at h; subst h; exact Rps.one rfl
  | fn f xs ys => obtain ⟨a, b, rfl, r⟩ := h; exact Rps.one ⟨a, b, rfl, r⟩
  | nili => simp only [Rp] at h; subst h; exact Rps.one rfl
  | iface t x => obtain ⟨a, rfl, r⟩ := h; exact Rps.one ⟨a, rfl, r⟩
  | glob g => simp only [Rp] at h; subst h; exact Rps.one rfl
  | emp => obtain ⟨a, b, rfl⟩ := h; exact Rps.one ⟨a, b, rfl⟩
  | txt => obtain ⟨a, rfl⟩ := h; exact Rps.one ⟨a, rfl⟩
  | junk => simp [LV.ok] at hok

theorem take_set_succ : ∀ (l : List Value) (n : Nat) (v : Value), n < l.length → (l.set n v).take (n + 1) = l.take n ++ [v]
  | [], n, v, h => by simp at h
  | a :: l, 0, v, _ => by simp
  | a :: l, n + 1, v, h => by simp only [List.set_cons_succ, List.take_succ_cons, List.cons_append]; rw [take_set_succ l n v (by simpa using h)]

theorem ofV1_ok {v : Value} {x : LV} (h : ofV1 v = some x) : x.ok = true := by
  unfold ofV1 at h
  split at h <;> simp at h <;> subst h <;> rfl

theorem ofV_ok {v : Value} {x : LV} (h : ofV v = some x) : x.ok = true := by
  unfold ofV at h
  split at h
  · simp at h; obtain ⟨y, _, rfl⟩ := h; rfl
  · simp at h; obtain ⟨y, _, rfl⟩ := h; rfl
  · exact ofV1_ok h

theorem fold_set (off : Nat) : ∀ (vs : List Value) (k : Nat) (cs : Array Value), off + k + vs.length ≤ cs.size →
    ((vs.zipIdx k).foldl (fun cs (x : Value × Nat) => cs.setIfInBounds (off + x.2) x.1) cs).toList = vsplice cs.toList (off + k) vs
  | [], k, cs, h => by simp [vsplice]
  | v :: vs, k, cs, h => by
    simp only [List.zipIdx_cons, List.foldl_cons]
    rw [fold_set off vs (k + 1) _ (by simp at h ⊢; omega)]
    have hlt : off + k < cs.toList.length := by simp at h ⊢; omega
    have e1 : off + (k + 1) = (off + k) + 1 := by omega
    unfold vsplice
    rw [Array.toList_setIfInBounds, e1, take_set_succ _ _ _ hlt, List.drop_set_of_lt (by omega)]
    simp [Nat.add_comm, Nat.add_left_comm]

theorem fill_sound {place : Nat → Option (Nat × Nat)} : ∀ {ps : List (Nat × LV)} {qs : List (Nat × Value)} {cells r : List LV} {cs : Array Value},
    ps.map (·.1) = qs.map (·.1) → Rps β (ps.map (·.2)) (qs.map (·.2)) → Rps β cells cs.toList → lfill place cells ps = some r →
    ∃ cs', Instr.fill place cs qs = some cs' ∧ Rps β r cs'.toList
  | [], [], cells, r, cs, _, _, hc, h => by simp [lfill] at h; subst h; exact ⟨cs, rfl, hc⟩
  | [], _ :: _, _, _, _, h1, _, _, _ => by simp at h1
  | _ :: _, [], _, _, _, h1, _, _, _ => by simp at h1
  | (i, v) :: ps, (j, u) :: qs, cells, r, cs, h1, h2, hc, h => by
    simp only [List.map_cons, List.cons.injEq] at h1
    obtain ⟨rfl, h1⟩ := h1
    obtain ⟨u', us', e, ru, rs⟩ := h2
    simp only [List.map_cons, List.cons.injEq] at e
    obtain ⟨rfl, rfl⟩ := e
    simp only [lfill] at h
    split at h
    · simp at h
    · rename_i off size hp
      split at h
      · rename_i hs
        obtain ⟨hs1, hs2, hs3⟩ := hs
        have hlen : u.cells.size = size := by rw [← hs1, ← (ru.cells hs3).length]; simp
        have hcs : cs.size = cells.length := by rw [← hc.length]; simp
        simp only [Instr.fill, hp]
        rw [if_neg (by simp [hlen]; omega)]
        refine fill_sound h1 rs ?_ h
        have := fold_set off u.cells.toList 0 cs (by simp; omega)
        rw [← Array.foldl_toList, Array.toList_zipIdx]
        rw [this]
        exact hc.splice off (ru.cells hs3)
      · simp at h

theorem mapM_places {fs : Array Field} (h : fs.toList.all (fun f => known P f.type) = true) :
    (fs.mapM (fun f : Field => do pure (f.offset, ← sizeOf f.type)) : Sem (Array (Nat × Nat))).run P w = .ok (fs.map fun f => (f.offset, szT P f.type)) w := by
  have key : ∀ l : List Field, l.all (fun f => known P f.type) = true → (l.mapM (fun f : Field => do pure (f.offset, ← sizeOf f.type)) : Sem (List (Nat × Nat))).run P w = .ok (l.map fun f => (f.offset, szT P f.type)) w := by
    intro l
    induction l with
    | nil => intro _; simp
    | cons f l ih =>
      intro hl
      simp only [List.all_cons, Bool.and_eq_true] at hl
      simp only [List.mapM_cons, Sem.run_bind, run_sizeOf' hl.1, Result.andThen_ok, Sem.run_pure, ih hl.2, List.map_cons]
  rw [Array.mapM_eq_mapM_toList, Sem.run_map, key _ h]
  simp only [Result.andThen_ok]
  congr 1
  apply Array.ext'
  simp

theorem build_sound {ty : TypeId} {ps : List (Nat × LV)} {qs : List (Nat × Value)} {v : LV} (h1 : ps.map (·.1) = qs.map (·.1)) (h2 : Rps β (ps.map (·.2)) (qs.map (·.2)))
    (h : lbuild P ty ps = some v) : ∃ u, (Instr.build ty ⟨qs⟩).run P w = .ok u w ∧ Rp β v u := by
  unfold lbuild at h
  split at h
  · rename_i z fs hz ht
    split at h
    · rename_i hk
      simp [mkAgg] at h; obtain ⟨r, hr, rfl⟩ := h
      obtain ⟨zu, hz1, hz2, _⟩ := run_zero (w := w) hz
      have hz3 := (ofV_sound (β := β) hz2).cells (ofV_ok hz2)
      obtain ⟨cs', h3, h4⟩ := fill_sound (place := placesL (lplaces P fs)) h1 h2 hz3 hr
      refine ⟨.agg cs', ?_, cs'.toList, rfl, h4⟩
      unfold Instr.build
      simp only [Sem.run_bind, hz1, Sem.run_pure, run_und ht, Result.andThen_ok, mapM_places hk]
      have hp : (fun i => (Array.map (fun f : Field => (f.offset, szT P f.type)) fs)[i]?) = placesL (lplaces P fs) := by
        funext i
        simp only [Array.getElem?_map, placesL, lplaces, List.getElem?_map, Array.getElem?_toList]
      rw [hp, h3]; rfl
    · simp at h
  · rename_i z n e hz ht
    split at h
    · rename_i hk
      simp [mkAgg] at h; obtain ⟨r, hr, rfl⟩ := h
      obtain ⟨zu, hz1, hz2, _⟩ := run_zero (w := w) hz
      have hz3 := (ofV_sound (β := β) hz2).cells (ofV_ok hz2)
      obtain ⟨cs', h3, h4⟩ := fill_sound h1 h2 hz3 hr
      refine ⟨.agg cs', ?_, cs'.toList, rfl, h4⟩
      unfold Instr.build
      simp only [Sem.run_bind, hz1, Sem.run_pure, run_und ht, Result.andThen_ok, run_sizeOf' hk, h3]
    · simp at h
  · simp at h

theorem lmax2_sound {x y v : LV} {a b : Value} (hx : Rp β x a) (hy : Rp β y b) (h : lmax2 x y = some v) : ∃ u, (Builtin.max2 a b).run P w = .ok u w ∧ Rp β v u := by
  unfold lmax2 at h
  split at h
  · simp only [Rp] at hx hy; subst hx; subst hy; simp at h; subst h; exact ⟨_, rfl, rfl⟩
  · simp at h

theorem lmin2_sound {x y v : LV} {a b : Value} (hx : Rp β x a) (hy : Rp β y b) (h : lmin2 x y = some v) : ∃ u, (Builtin.min2 a b).run P w = .ok u w ∧ Rp β v u := by
  unfold lmin2 at h
  split at h
  · simp only [Rp] at hx hy; subst hx; subst hy; simp at h; subst h; exact ⟨_, rfl, rfl⟩
  · simp at h

theorem lfold_sound {f : LV → LV → Option LV} {g : Value → Value → Sem Value} (hf : ∀ x y v a b, Rp β x a → Rp β y b → f x y = some v → ∃ u, (g a b).run P w = .ok u w ∧ Rp β v u) :
    ∀ {xs : List LV} {us : List Value} {x v : LV} {a : Value}, Rps β xs us → Rp β x a → lfold f x xs = some v → ∃ u, (us.foldlM g a).run P w = .ok u w ∧ Rp β v u
  | [], us, x, v, a, h1, h2, h => by
    simp only [Rps] at h1; subst h1; simp [lfold] at h; subst h; exact ⟨a, rfl, h2⟩
  | y :: xs, us, x, v, a, h1, h2, h => by
    obtain ⟨b, us, rfl, r, s⟩ := h1
    simp only [lfold] at h
    split at h
    · rename_i z hz
      obtain ⟨u, h3, h4⟩ := hf x y z a b h2 r hz
      obtain ⟨u', h5, h6⟩ := lfold_sound hf s h4 h
      exact ⟨u', by simp [List.foldlM_cons, h3, h5], h6⟩
    · simp at h

theorem llen_sound {st : LState} {w0 : World} {rt : TypeId} {ats : Array TypeId} {x v : LV} {u : Value} (hr : Rel w0 β st w ∨ st = []) (hx : Rp β x u) (h0 : 0 < ats.size) (h : llen P st (ats.getD 0 0) x = some v) :
    ∃ u', (Builtin.len_ ats rt #[u]).run P w = .ok u' w ∧ Rp β v u' := by
  have ha : ats[0]? = some (ats.getD 0 0) := by simp [Array.getD_eq_getD_getElem?, h0]
  unfold Builtin.len_
  rw [ha]
  simp only [List.getElem?_toArray, List.getElem?_cons_zero]
  unfold llen at h
  split at h
  · rename_i ht
    unfold lenStr at h
    split at h
    · simp only [Rp] at hx; subst hx; simp at h; subst h
      exact ⟨_, by simp only [Sem.run_bind, run_und ht, Result.andThen_ok]; rfl, rfl⟩
    · simp at h
  · rename_i ht
    simp at h; subst h
    exact ⟨_, by simp only [Sem.run_bind, run_und ht, Result.andThen_ok]; rfl, rfl⟩
  · rename_i e ht
    split at h
    · rename_i he
      simp at h; subst h
      exact ⟨_, by simp only [Sem.run_bind, run_und ht, run_und he, Result.andThen_ok]; rfl, rfl⟩
    · simp at h
  · rename_i ht
    unfold lenSl at h
    split at h
    · simp only [Rp] at hx; subst hx; simp at h; subst h
      exact ⟨_, by simp only [Sem.run_bind, run_und ht, Result.andThen_ok]; rfl, rfl⟩
    · obtain ⟨a, c, rfl⟩ := hx; simp at h; subst h
      exact ⟨_, by simp only [Sem.run_bind, run_und ht, Result.andThen_ok]; rfl, rfl⟩
    · obtain ⟨b, _, _, rfl⟩ := hx; simp at h; subst h
      exact ⟨_, by simp only [Sem.run_bind, run_und ht, Result.andThen_ok]; rfl, rfl⟩
    · simp at h
  · rename_i ht
    unfold lenMap at h
    split at h
    · simp only [Rp] at hx; subst hx; simp at h; subst h
      exact ⟨_, by simp only [Sem.run_bind, run_und ht, Result.andThen_ok]; rfl, rfl⟩
    · rename_i o
      split at h
      · rename_i m es _ _ ho
        obtain ⟨b, hb, rfl⟩ := hx
        rcases hr with hr | hr
        · obtain ⟨b', hb', c, hh, hes, _⟩ := hr.obj o _ ho
          rw [hb] at hb'; cases hb'
          have hlen : c.size = es.length := by
            have : ∀ {l : List (LV × LV)} {v : List MapEntry}, Entries β l v → v.length = l.length := by
              intro l
              induction l with
              | nil => intro v hv; simp only [Entries] at hv; simp [hv]
              | cons a l ih => intro v hv; obtain ⟨q, us, rfl, _, hs⟩ := hv; simp [ih hs]
            rw [← this hes]; simp
          simp at h; subst h
          refine ⟨_, ?_, rfl⟩
          simp only [Sem.run_bind, run_und ht, Result.andThen_ok, getObj, Sem.run, hh, Sem.run_pure, hlen]; rfl
        · subst hr; simp at ho
      · simp at h
    · simp at h
  · simp at h

theorem lcap_sound {rt : TypeId} {ats : Array TypeId} {x v : LV} {u : Value} (hx : Rp β x u) (h0 : 0 < ats.size) (h : lcap P (ats.getD 0 0) x = some v) :
    ∃ u', (Builtin.cap_ ats rt #[u]).run P w = .ok u' w ∧ Rp β v u' := by
  have ha : ats[0]? = some (ats.getD 0 0) := by simp [Array.getD_eq_getD_getElem?, h0]
  unfold Builtin.cap_
  rw [ha]
  simp only [List.getElem?_toArray, List.getElem?_cons_zero]
  unfold lcap at h
  split at h
  · rename_i ht
    unfold capSl at h
    split at h
    · simp only [Rp] at hx; subst hx; simp at h; subst h
      exact ⟨_, by simp only [Sem.run_bind, run_und ht, Result.andThen_ok]; rfl, rfl⟩
    · obtain ⟨b, _, _, rfl⟩ := hx; simp at h; subst h
      exact ⟨_, by simp only [Sem.run_bind, run_und ht, Result.andThen_ok]; rfl, rfl⟩
    · simp at h
  · simp at h

end
end Go.CP
