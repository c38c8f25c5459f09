/- The clean machine, part 5: the operations that neither read nor write the store do in the model what they do here. -/
import Derived.Test.YthiaahbmibndkaaGreatDoorCp4
import Derived.Laws.StructEq
namespace Go.CP

section
variable {β : Lay} {P : Program} {w : World}

theorem Rp.undef : Rp β lundef undef := ⟨[], rfl, rfl⟩

theorem ofV1_sound {v : Value} {x : LV} (h : ofV1 v = some x) : Rp β x v := by
  unfold ofV1 at h
  split at h <;> simp at h <;> subst h <;> simp [Rp]

theorem ofVs_sound : ∀ {vs : List Value} {xs : List LV}, ofVs vs = some xs → Rps β xs vs
  | [], xs, h => by simp [ofVs] at h; subst h; rfl
  | v :: vs, xs, h => by
    simp only [ofVs] at h
    split at h
    · rename_i x xs' h1 h2
      simp at h; subst h
      exact ⟨v, vs, rfl, ofV1_sound h1, ofVs_sound h2⟩
    · simp at h

theorem ofV_sound {v : Value} {x : LV} (h : ofV v = some x) : Rp β x v := by
  unfold ofV at h
  split at h
  · rename_i cs
    simp at h; obtain ⟨y, hy, rfl⟩ := h
    exact ⟨cs.toList, rfl, ofVs_sound hy⟩
  · rename_i cs
    simp at h; obtain ⟨y, hy, rfl⟩ := h
    exact ⟨cs.toList, rfl, ofVs_sound hy⟩
  · exact ofV1_sound h

theorem Rps.getD {l : List LV} {vs : List Value} (h : Rps β l vs) (i : Nat) : Rp β (l.getD i lundef) (vs.getD i undef) := by
  rcases Nat.lt_or_ge i l.length with k | k
  · obtain ⟨u, hu, r⟩ := h.get (List.getElem?_eq_getElem k)
    simp only [List.getD_eq_getElem?_getD, hu, List.getElem?_eq_getElem k, Option.getD_some]; exact r
  · have : vs.length ≤ i := by rw [h.length]; exact k
    simp only [List.getD_eq_getElem?_getD, List.getElem?_eq_none k, List.getElem?_eq_none this, Option.getD_none]; exact Rp.undef

theorem ev_sound {t : List LV} {a : Act} {x : Operand} {v : LV} (ht : Rps β t a.tmps.toList) (h : ev t x = some v) : Rp β v (a.eval x) := by
  cases x with
  | tmp i =>
    simp only [ev, Option.some.injEq] at h; subst h
    have := ht.getD i
    simpa [Act.eval, Array.getD_eq_getD_getElem?, List.getD_eq_getElem?_getD] using this
  | const c => exact ofV_sound h
  | global g => simp only [ev, Option.some.injEq] at h; subst h; rfl
  | func f => simp only [ev, Option.some.injEq] at h; subst h; exact ⟨[], [], rfl, rfl, rfl⟩

theorem evs_sound {t : List LV} {a : Act} (ht : Rps β t a.tmps.toList) : ∀ {xs : List Operand} {vs : List LV}, evs t xs = some vs → Rps β vs (xs.map a.eval)
  | [], vs, h => by simp [evs] at h; subst h; rfl
  | x :: xs, vs, h => by
    simp only [evs] at h
    split at h
    · rename_i v vs' h1 h2
      simp at h; subst h
      exact ⟨_, _, rfl, ev_sound ht h1, evs_sound ht h2⟩
    · simp at h

theorem evp_sound {t : List LV} {a : Act} (ht : Rps β t a.tmps.toList) : ∀ {xs : List (Nat × Operand)} {vs : List (Nat × LV)}, evp t xs = some vs →
    vs.map (·.1) = xs.map (·.1) ∧ Rps β (vs.map (·.2)) (xs.map fun x => a.eval x.2)
  | [], vs, h => by simp [evp] at h; subst h; exact ⟨rfl, rfl⟩
  | (i, x) :: xs, vs, h => by
    simp only [evp] at h
    split at h
    · rename_i v vs' h1 h2
      simp at h; subst h
      obtain ⟨h3, h4⟩ := evp_sound ht h2
      exact ⟨by simp [h3], _, _, rfl, ev_sound ht h1, h4⟩
    · simp at h

theorem evo_sound {t : List LV} {a : Act} (ht : Rps β t a.tmps.toList) {x : Option Operand} {v : Option LV} (h : evo t x = some v) :
    (v = none ∧ x.map a.eval = none) ∨ ∃ y u, v = some y ∧ x.map a.eval = some u ∧ Rp β y u := by
  cases x with
  | none => simp [evo] at h; subst h; exact .inl ⟨rfl, rfl⟩
  | some x =>
    simp only [evo] at h
    split at h
    · rename_i y hy
      simp at h; subst h
      exact .inr ⟨y, _, rfl, rfl, ev_sound ht hy⟩
    · simp at h

theorem known_info {t : TypeId} (h : known P t = true) : ∃ i, P.info? t = some i := by
  unfold known at h
  cases hi : P.info? t with
  | none => simp [hi] at h
  | some i => exact ⟨i, rfl⟩

theorem known_und {t : TypeId} (h : known P t = true) : ∃ d, P.underlying t = some d := by
  unfold known at h
  cases hi : P.underlying t with
  | none => simp [hi] at h
  | some i => exact ⟨i, rfl⟩

theorem run_sizeOf' {t : TypeId} (h : known P t = true) : (sizeOf t).run P w = .ok (szT P t) w := by
  obtain ⟨i, hi⟩ := known_info h
  simp [sizeOf, typeInfo, hi, szT]

theorem run_isAgg' {t : TypeId} (h : known P t = true) : (isAgg t).run P w = .ok (isAggT P t) w := by
  obtain ⟨d, hd⟩ := known_und h
  cases d <;> simp [isAgg, underlying, hd, isAggT, isAggD]

theorem run_und {t : TypeId} {d : TypeDesc} (h : P.underlying t = some d) : (underlying t).run P w = .ok d w := by
  simp [underlying, h]

theorem run_zero {t : TypeId} {z : LV} (h : zeroT P t = some z) : ∃ u, (zeroValue t).run P w = .ok u w ∧ ofV u = some z ∧ (∃ i, P.info? t = some i ∧ i.zero = some u) := by
  unfold zeroT at h
  cases hi : P.info? t with
  | none => simp [hi] at h
  | some i =>
    simp only [hi] at h
    cases hz : i.zero with
    | none => simp [hz] at h
    | some u => simp only [hz] at h; exact ⟨u, by simp [zeroValue, typeInfo, hi, hz], h, i, rfl, hz⟩

theorem toList_mk' (l : List UInt8) : (⟨⟨l⟩⟩ : ByteArray).toList = l := by
  rw [ByteArray.toList_eq]

theorem bytes_eq (a b : List UInt8) : ((⟨⟨a⟩⟩ : ByteArray) == (⟨⟨b⟩⟩ : ByteArray)) = (a == b) := by
  rw [beq_toListBytes, toList_mk', toList_mk']

/-- Numbers. -/
theorem lint_sound {op : BinOp} {k : IntKind} {x y : Int} {v : LV} (hne : op ≠ .shl ∧ op ≠ .shr) (ty : TypeId) (h : lint op k x y = some v) :
    ∃ u, (Go.binOp op ty (.int k x) (.int k y)).run P w = .ok u w ∧ Rp β v u := by
  obtain ⟨h1, h2⟩ := hne
  cases op <;> simp only [lint, Option.some.injEq, reduceCtorEq, not_true_eq_false, ne_eq] at h h1 h2
  case quo =>
    split at h
    · simp at h
    · rename_i h3
      simp only [Option.some.injEq] at h; subst h
      exact ⟨_, by simp only [Go.binOp, ne_eq, not_true_eq_false, ↓reduceIte, Op.intDiv, h3]; rfl, rfl⟩
  case rem =>
    split at h
    · simp at h
    · rename_i h3
      simp only [Option.some.injEq] at h; subst h
      exact ⟨_, by simp only [Go.binOp, ne_eq, not_true_eq_false, ↓reduceIte, Op.intDiv, h3]; rfl, rfl⟩
  all_goals
    subst h
    exact ⟨_, by simp only [Go.binOp, ne_eq, not_true_eq_false, ↓reduceIte]; rfl, rfl⟩

theorem lstr_sound {op : BinOp} {x y : List UInt8} {v : LV} (ty : TypeId) (h : lstr op x y = some v) :
    ∃ u, (Go.binOp op ty (.string ⟨⟨x⟩⟩) (.string ⟨⟨y⟩⟩)).run P w = .ok u w ∧ Rp β v u := by
  have happ : (⟨⟨x⟩⟩ : ByteArray) ++ (⟨⟨y⟩⟩ : ByteArray) = ⟨⟨x ++ y⟩⟩ := by
    apply ByteArray.ext
    rw [ByteArray.data_append]
    simp
  cases op <;> simp only [lstr, Option.some.injEq, reduceCtorEq] at h
  case add =>
    split at h
    · simp at h
    · rename_i h3
      simp at h; subst h
      refine ⟨_, ?_, rfl⟩
      simp only [Go.binOp, Op.stringOp, happ]
      rw [if_neg (show ¬ (((⟨⟨x⟩⟩ : ByteArray).size + (⟨⟨y⟩⟩ : ByteArray).size : Nat) : Int) > IntKind.i64.max from h3)]; rfl
  all_goals
    subst h
    exact ⟨_, rfl, by simp only [Rp, toList_mk']⟩

end
end Go.CP
