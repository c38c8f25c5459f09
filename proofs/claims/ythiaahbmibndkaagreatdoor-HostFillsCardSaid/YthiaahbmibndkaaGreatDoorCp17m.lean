/- The clean machine, part 17m: stores into maps by an entry's stamp; walks over maps of whose entries one at most is left. -/
import Derived.Test.YthiaahbmibndkaaGreatDoorCp17
namespace Go.CP
section
variable {β : Lay} {P : Program} {w w0 : World} {st : LState}

theorem mapEntry_sound {ty : TypeId} {m k v : LV} {p q : Value} {st' : LState} (h : Rel w0 β st w) (hm : Rp β m p) (hk : Rp β k q) (hp : lmapEntry P st ty m k = some (v, st')) :
    ∃ u w', (Instr.mapEntry ty p q).run P w = .ok u w' ∧ Wrote w0 β v st' u w' := by
  unfold lmapEntry at hp
  split at hp
  case h_2 => cases hp
  rename_i kt e ht
  split at hp
  case h_2 => cases hp
  rename_i s hs
  unfold keyT at hs
  split at hs
  case h_2 => cases hs
  rename_i d hd
  unfold mentry at hp
  split at hp
  case isFalse => cases hp
  rename_i hpl
  have hka := keyAt_of hk hpl hs
  split at hp
  case h_2 => cases hp
  rename_i o
  split at hp
  case h_2 => cases hp
  rename_i es bs n ho
  obtain ⟨b, hb, rfl⟩ := hm
  obtain ⟨c, h1, h2, hst, hbs⟩ := h.mapAt ho hb
  have hrun : ∀ r, Instr.findNow d q c.toList 0 = some r → (Instr.mapEntry ty (.map (some b.blk)) q).run P w = ((do
      match r with
      | some (i, v) =>
        let key ← Instr.keyThatStays (((c[i]?).map (·.key)).getD q) q
        setObj b.blk (.map (c.modify i fun e => { e with key }) n)
        pure (.tuple #[v, goInt (((c[i]?).map (·.born)).getD 0)])
      | none =>
        let zero ← zeroValue e
        setObj b.blk (.map (c.push { key := q, val := zero, born := n }) (n + 1))
        pure (.tuple #[zero, goInt n])) : Sem Value).run P w := by
    intro r hr
    unfold Instr.mapEntry
    simp only [Sem.run_bind, run_und ht, Result.andThen_ok, MapKept.run_getObj_map h1, checkKey_ok hd hka, MapKept.run_findKey hd hr]
    cases r <;> rfl
  split at hp
  · rename_i v' hf
    split at hp
    case h_2 => cases hp
    rename_i b' hb'
    simp only [Option.some.injEq, Prod.mk.injEq] at hp
    obtain ⟨rfl, rfl⟩ := hp
    rcases mfind_sound hka 0 h2 hf with ⟨h3, _⟩ | ⟨v2, j, e2, h3, h4, h5⟩
    · cases h3
    simp only [Option.some.injEq] at h3; subst h3
    obtain ⟨ce, h6, _, h7, h8⟩ := mfind_at hka 0 h2 h4 hf
    have hj : j < c.size := by
      have := (List.getElem?_eq_some_iff.1 h6).1
      simpa using this
    have hcj : c[j] = ce := by simpa [hj] using h6
    have hkey : ((c[0 + j]?).map (·.key)).getD q = q := by simp [hj, hcj, h7]
    have hborn : ((c[0 + j]?).map fun e => (e.born : Int)).getD 0 = (b' : Int) := by
      rw [← hbs, h8] at hb'
      rw [List.getElem?_map, h6] at hb'
      simp at hb'
      simp [hj, hcj, hb']
    have hmod : c.modify (0 + j) (fun e => { e with key := q }) = c := by
      apply Array.ext'
      apply List.ext_getElem?
      intro i
      rw [Nat.zero_add, Array.getElem?_toList, Array.getElem?_modify, Array.getElem?_toList]
      by_cases e : j = i
      · subst e
        simp only [hj, hcj, if_true, Array.getElem?_eq_getElem, Option.map_some, ← h7]
      · simp [e]
    rw [hrun _ h4]
    simp only [Sem.run_bind, hkey, stays_ok hka, Result.andThen_ok, hmod, MapKept.run_setObj_map _ h1, Sem.run_pure, hborn]
    refine ⟨_, _, rfl, β, ⟨_, rfl, _, _, rfl, h5, _, _, rfl, rfl, rfl⟩, ?_, Lay.le.refl _⟩
    have : st.set o (.map .rw es bs n) = st := by
      apply List.ext_getElem?
      intro i
      rw [List.getElem?_set]
      by_cases e : o = i
      · subst e
        have hl := (List.getElem?_eq_some_iff.1 ho).1
        simp only [if_true, if_pos hl, ho]
      · simp [e]
    have hr := h.mapUpd (es' := es) (bs' := bs) (c' := c) (k' := n) ho hb h1 h2 hst hbs
    rwa [this] at hr
  · rename_i hf
    split at hp
    case h_2 => cases hp
    rename_i z hz
    simp only [Option.some.injEq, Prod.mk.injEq] at hp
    obtain ⟨rfl, rfl⟩ := hp
    rcases mfind_sound hka 0 h2 hf with ⟨_, h3⟩ | ⟨v2, j, e2, h3, _, _⟩
    case inr => cases h3
    obtain ⟨u', h4, h5, _⟩ := run_zero (w := w) hz
    have h6 := ofV_sound (β := β) h5
    rw [hrun _ h3]
    simp only [Sem.run_bind, h4, Result.andThen_ok, MapKept.run_setObj_map _ h1, Sem.run_pure]
    refine ⟨_, _, rfl, β, ⟨_, rfl, _, _, rfl, h6, _, _, rfl, rfl, rfl⟩, ?_, Lay.le.refl _⟩
    exact h.mapUpd (es' := es ++ [(k, z)]) (bs' := bs ++ [n]) (c' := c.push { key := q, val := u', born := n }) (k' := n + 1) ho hb h1 (by
      rw [Array.toList_push]; exact Entries.snoc ⟨hk, h6⟩ h2) (hst.push _ _) (by simp [hbs])
  · cases hp

theorem bidx_sound {b : Int} : ∀ {bs : List Nat} {i : Nat}, bidx b bs = some i → ∃ x, bs[i]? = some x ∧ (x : Int) = b ∧ ∀ j y, j < i → bs[j]? = some y → (y : Int) ≠ b
  | [], i, h => by cases h
  | x :: xs, i, h => by
    unfold bidx at h
    split at h
    · rename_i e
      cases h
      exact ⟨x, rfl, e, fun j y hj => by omega⟩
    · rename_i e
      simp only [Option.map_eq_some_iff] at h
      obtain ⟨i', h, rfl⟩ := h
      obtain ⟨y, h1, h2, h3⟩ := bidx_sound h
      refine ⟨y, by simpa using h1, h2, fun j z hj hz => ?_⟩
      cases j with
      | zero => simp at hz; subst hz; exact e
      | succ j => exact h3 j z (by omega) (by simpa using hz)

theorem entStore_sound {ty : TypeId} {m s v : LV} {p q u : Value} {st' : LState} (h : Rel w0 β st w) (hm : Rp β m p) (hs : Rp β s q) (hv : Rp β v u) (hp : lentStore st m s v = some st') :
    ∃ w', (Instr.entryStore ty p q u).run P w = .ok () w' ∧ Rel w0 β st' w' := by
  unfold lentStore at hp
  split at hp
  case h_2 => cases hp
  rename_i o kk bb
  split at hp
  case h_2 => cases hp
  rename_i es bs n ho
  split at hp
  case h_2 => cases hp
  rename_i i hi
  split at hp
  case h_2 => cases hp
  rename_i e he
  simp only [Option.some.injEq] at hp; subst hp
  obtain ⟨b, hb, rfl⟩ := hm
  simp only [Rp] at hs; subst hs
  obtain ⟨c, h1, h2, hst, hbs⟩ := h.mapAt ho hb
  obtain ⟨x, hx1, hx2, hx3⟩ := bidx_sound hi
  obtain ⟨ce, hce, hre⟩ := h2.at he
  have hi' : i < c.size := by
    have := (List.getElem?_eq_some_iff.1 hce).1
    simpa using this
  have hborn : ce.born = x := by
    rw [← hbs, List.getElem?_map, hce] at hx1
    simpa using hx1
  have hfind : c.findIdx? (fun e => (e.born : Int) == bb) = some i := by
    rw [Array.findIdx?_eq_some_iff_getElem]
    refine ⟨hi', ?_, fun j hj => ?_⟩
    · have : c[i] = ce := by simpa [hi'] using hce
      rw [this, hborn, hx2]; simp
    · have hj' : j < c.size := by omega
      have := hx3 j (c[j]).born hj (by rw [← hbs, List.getElem?_map, Array.getElem?_toList]; simp [hj'])
      simpa using this
  unfold Instr.entryStore
  simp only [Sem.run_bind, Sem.run_pure, Result.andThen_ok, MapKept.run_getObj_map h1]
  have ha : (asInt (.int kk bb)).run P w = .ok bb w := rfl
  simp only [ha, Result.andThen_ok, hfind, MapKept.run_setObj_map _ h1]
  have hlist : (c.modify i fun e => { e with val := u }).toList = c.toList.set i { ce with val := u } := by
    apply List.ext_getElem?
    intro j
    have hci : c[i] = ce := by simpa [hi'] using hce
    rw [Array.getElem?_toList, Array.getElem?_modify, List.getElem?_set, Array.getElem?_toList]
    by_cases e : i = j
    · subst e; simp [hi', hci]
    · simp [e]
  exact ⟨_, rfl, h.mapUpd (c' := c.modify i fun e => { e with val := u }) ho hb h1 (by rw [hlist]; exact Entries.set (e := (e.1, v)) (c := { ce with val := u }) ⟨hre.1, hv⟩ h2) (hst.set (e' := { ce with val := u }) hce rfl hlist) (by rw [hlist, born_set (e' := { ce with val := u }) hce rfl]; exact hbs)⟩

theorem Rel.allocIter {om mb : Option Nat} {s l : Nat} {seen : List Nat} (h : Rel w0 β st w) (hm : ItM β om mb) :
    Wrote w0 β (.ptr st.length 0) (st ++ [.iter om s seen l]) (.pointer (some ⟨w.heap.size, 0, none⟩)) (w.alloc (.mapIter mb s ⟨seen⟩ l)) := by
  have hle : β.le (β.put st.length ⟨w.heap.size, 0, 0⟩) := Lay.le_put (h.dom _ (Nat.le_refl _))
  refine ⟨_, ⟨_, Lay.put_same, rfl⟩, (h.grow _).push (b := ⟨w.heap.size, 0, 0⟩) ?_ ?_, hle⟩
  · intro o y b' hy hl hb'
    obtain ⟨b'', hb'', hlt⟩ := (h.obj o y hy).live hl
    rw [hb'] at hb''; cases hb''
    show b'.blk ≠ w.heap.size
    omega
  · exact ⟨_, Lay.put_same, mb, by simp [alloc_heap], hm.mono hle, rfl, h.below.size⟩

theorem range_sound {ty : TypeId} {x v : LV} {p : Value} {st' : LState} (h : Rel w0 β st w) (hx : Rp β x p) (hp : lrange P st ty x = some (v, st')) :
    ∃ u w', (Instr.range ty p).run P w = .ok u w' ∧ Wrote w0 β v st' u w' := by
  unfold lrange at hp
  split at hp
  case h_2 => cases hp
  rename_i kt e ht
  split at hp
  · simp only [Rp] at hx; subst hx
    simp only [Option.some.injEq, Prod.mk.injEq] at hp
    obtain ⟨rfl, rfl⟩ := hp
    refine ⟨_, _, ?_, h.allocIter (om := none) (mb := none) (s := 0) (l := 0) (seen := []) rfl⟩
    unfold Instr.range
    simp only [Sem.run_bind, run_und ht, Result.andThen_ok, Sem.run_pure, run_newObj]
    rfl
  · rename_i o
    split at hp
    case h_2 => cases hp
    rename_i md es bs n ho
    simp only [Option.some.injEq, Prod.mk.injEq] at hp
    obtain ⟨rfl, rfl⟩ := hp
    obtain ⟨b, hb, rfl⟩ := hx
    obtain ⟨c, h1, _⟩ := h.mapAt ho hb
    refine ⟨_, _, ?_, h.allocIter (om := some o) (mb := some b.blk) (s := n) (l := n) (seen := []) ⟨b, hb, rfl⟩⟩
    unfold Instr.range
    simp only [Sem.run_bind, run_und ht, Result.andThen_ok, Sem.run_pure, MapKept.run_getObj_map h1, run_newObj]
    rfl
  · cases hp

/-- What is left, there and here. -/
def LeftR (β : Lay) : List ((LV × LV) × Nat) → List MapEntry → Prop
  | [], cs => cs = []
  | x :: xs, cs => ∃ c cs', cs = c :: cs' ∧ Entry β x.1 c ∧ c.born = x.2 ∧ LeftR β xs cs'

theorem leftE_sound {seen : List Nat} : ∀ {es : List (LV × LV)} {l : List MapEntry} {bs : List Nat}, Entries β es l → l.map (·.born) = bs → LeftR β (leftE seen es bs) (l.filter fun e => !seen.contains e.born)
  | [], l, bs, h, hb => by simp only [Entries] at h; subst h; simp [leftE, LeftR]
  | e :: es, l, bs, h, hb => by
    obtain ⟨c, us, rfl, hc, hs⟩ := h
    subst hb
    simp only [List.map_cons, leftE, List.filter_cons]
    cases hx : seen.contains c.born with
    | true => simpa using leftE_sound hs rfl
    | false => simp only [Bool.not_false, if_true, Bool.false_eq_true, if_false]; exact ⟨c, _, rfl, hc, rfl, leftE_sound hs rfl⟩

theorem next_sound {t : TypeId} {x v : LV} {p : Value} {st' : LState} (h : Rel w0 β st w) (hx : Rp β x p) (hp : lnext st x = some (v, st')) :
    ∃ u w', (Instr.next p false t).run P w = .ok u w' ∧ Wrote w0 β v st' u w' := by
  unfold lnext at hp
  split at hp
  case h_2 => cases hp
  rename_i r
  obtain ⟨b, hb, rfl⟩ := hx
  split at hp
  · rename_i a1 a2 a3 hr
    simp only [Option.some.injEq, Prod.mk.injEq] at hp
    obtain ⟨rfl, rfl⟩ := hp
    obtain ⟨b', hb', mb, hh, hm, hbase, _⟩ := h.obj r _ hr
    rw [hb] at hb'; cases hb'
    simp only [ItM] at hm; subst hm
    refine ⟨.tuple #[.bool false], w, ?_, β, ⟨_, rfl, _, _, rfl, rfl, rfl⟩, h, Lay.le.refl _⟩
    unfold Instr.next
    rw [hbase]
    simp only [Sem.run_bind, getObj, Sem.run, hh, Result.andThen_ok, Sem.run_pure]
  · rename_i o since seen last hr
    split at hp
    case h_2 => cases hp
    rename_i md es bs n ho
    split at hp
    case isFalse => cases hp
    rename_i hg
    obtain ⟨b', hb', mb, hh, ⟨b2, hb2, rfl⟩, hbase, hN⟩ := h.obj r _ hr
    rw [hb] at hb'; cases hb'
    obtain ⟨c, h1, h2, hst, hbs⟩ := h.mapAt ho hb2
    have hguard : (!(⟨seen⟩ : Array Nat).isEmpty && !c.isEmpty && c.all fun e => decide (e.born ≥ last)) = false := by
      simp only [Bool.or_eq_true] at hg
      rcases hg with hg | hg
      · rcases hg with hg | hg
        · have : seen = [] := by simpa using hg
          subst this; rfl
        · have : es = [] := by simpa using hg
          subst this
          simp only [Entries] at h2
          have : c = #[] := by apply Array.ext'; simpa using h2
          subst this; simp
      · obtain ⟨x, hx1, hx2⟩ := List.any_eq_true.1 hg
        rw [← hbs] at hx1
        obtain ⟨e, he, rfl⟩ := List.mem_map.1 hx1
        have : (c.all fun e => decide (e.born ≥ last)) = false := by
          rw [← Array.all_toList]
          rw [List.all_eq_false]
          exact ⟨e, he, by simpa [Nat.blt_eq] using hx2⟩
        rw [this]; simp
    have hleft := leftE_sound (seen := seen) h2 hbs
    have hfil : (c.filter fun e => !(⟨seen⟩ : Array Nat).contains e.born).toList = c.toList.filter fun e => !seen.contains e.born := by
      rw [Array.toList_filter]
      congr 1
      funext e
      rw [← Array.contains_toList]
    have run0 : ∀ (L : List MapEntry), (c.toList.filter fun e => !seen.contains e.born) = L → (Instr.next (.pointer (some ⟨b.blk, b.base + 0, none⟩)) false t).run P w = ((do
        let left : Array MapEntry := ⟨L⟩
        let old := left.filter (·.born < since)
        let new := left.filter (·.born ≥ since)
        let candidates := (if old.isEmpty then #[none] else #[]) ++ (old ++ new).map some
        match candidates[← choose (.mapNext candidates.size)]? with
        | some (some e) =>
          setObj b.blk (.mapIter (some b2.blk) since ((⟨seen⟩ : Array Nat).push e.born) n)
          pure (.tuple #[.bool true, e.key, e.val])
        | some none => pure (.tuple #[.bool false])
        | none => stuck "Next: no such candidate") : Sem Value).run P w := by
      intro L hL
      have he : (c.filter fun e => !(⟨seen⟩ : Array Nat).contains e.born) = (⟨L⟩ : Array MapEntry) := by
        apply Array.ext'; rw [hfil, hL]
      unfold Instr.next
      rw [hbase]
      simp only [Sem.run_bind, getObj, Sem.run, hh, Result.andThen_ok]
      have hm : (getObj b2.blk).run P w = .ok (.map c n) w := MapKept.run_getObj_map h1
      simp only [getObj, Sem.run] at hm
      simp only [Sem.run_bind, getObj, Sem.run, h1, Result.andThen_ok, hguard, he, Bool.false_eq_true, if_false]
      rfl
    split at hp
    · rename_i hl
      rw [hl] at hleft
      simp only [LeftR] at hleft
      simp only [Option.some.injEq, Prod.mk.injEq] at hp
      obtain ⟨rfl, rfl⟩ := hp
      refine ⟨.tuple #[.bool false], w, ?_, β, ⟨_, rfl, _, _, rfl, rfl, rfl⟩, h, Lay.le.refl _⟩
      rw [run0 [] hleft]
      have e1 : (⟨[]⟩ : Array MapEntry).filter (fun e => decide (e.born < since)) = #[] := rfl
      have e2 : (⟨[]⟩ : Array MapEntry).filter (fun e => decide (e.born ≥ since)) = #[] := rfl
      simp only [e1, e2]
      simp [choose, Sem.run, Question.forced, Question.cut]
    · rename_i e bb hl
      rw [hl] at hleft
      obtain ⟨ce, cs', hce, hre, hbb, hcs⟩ := hleft
      simp only [LeftR] at hcs; subst hcs
      split at hp
      case isFalse => cases hp
      rename_i hlt
      simp only [Option.some.injEq, Prod.mk.injEq] at hp
      obtain ⟨rfl, rfl⟩ := hp
      refine ⟨.tuple #[.bool true, ce.key, ce.val], putBlk w b.blk (.mapIter (some b2.blk) since ((⟨seen⟩ : Array Nat).push ce.born) n), ?_, β, ⟨_, rfl, _, _, rfl, rfl, _, _, rfl, hre.1, _, _, rfl, hre.2, rfl⟩, ?_, Lay.le.refl _⟩
      · rw [run0 [ce] hce]
        have h3 : ce.born < since := by rw [hbb]; exact hlt
        have e1 : (⟨[ce]⟩ : Array MapEntry).filter (fun e => decide (e.born < since)) = #[ce] := by
          apply Array.ext'; rw [Array.toList_filter]; simp [h3]
        have e2 : (⟨[ce]⟩ : Array MapEntry).filter (fun e => decide (e.born ≥ since)) = #[] := by
          apply Array.ext'; rw [Array.toList_filter]; simp; omega
        simp only [e1, e2]
        simp [choose, Sem.run, Question.forced, Question.cut, setObj, hh, putBlk]
      · refine h.upd hr rfl hb rfl rfl rfl putBlk_size (fun _ hj => putBlk_other hj) ⟨b, hb, some b2.blk, ?_, ⟨b2, hb2, rfl⟩, hbase, hN⟩
        rw [putBlk_same hh, hbb]
        congr 2
        simp
    · cases hp
  · cases hp

end
end Go.CP
