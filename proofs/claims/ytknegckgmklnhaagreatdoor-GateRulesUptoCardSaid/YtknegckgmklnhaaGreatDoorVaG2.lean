/- Agrees: whether a value agrees with a plan; names of rules. -/
/- Arguments that are values of the document's; what is cleaned may be. -/
import Derived.Test.YtknegckgmklnhaaGreatDoorCp47
import Derived.Test.YtknegckgmklnhaaGreatDoorRows
import Derived.Test.YtknegckgmklnhaaGreatDoorVaC3
namespace Go.Proofs.YtknegckgmklnhaaGreatDoor
open Go Go.CP Classical
set_option maxRecDepth 100000

theorem loop121 {l l' : List (List UInt8)} (hl : l.length = l'.length) (hb : l.length ≤ big) {R : LV → LState → Prop} :
    ∀ (d i : Nat) (st : LState), i + d = l.length → (∀ s, R (.bool (decide (l.drop i = l'.drop i))) s) → P121_1 (sL l) (sL l') (i64 l.length) (i64 i) R st := by
  intro d
  induction d with
  | zero =>
    intro i st hi hR
    apply p121_1
    have : ¬ ((i : Int) < l.length) := by omega
    simp only [w121_1, bInt_int, lint_lss, bd_some, this, decide_false, bsel_false]
    have := hR st
    rw [List.drop_eq_nil_of_le (by omega), List.drop_eq_nil_of_le (by omega)] at this
    rwa [decide_eq_true rfl] at this
  | succ d ih =>
    intro i st hi hR
    apply p121_1
    have hlt : i < l.length := by omega
    have hlt' : i < l'.length := by omega
    have c1 : (i : Int) < l.length := by omega
    have hx : l[i]? = some l[i] := List.getElem?_eq_getElem hlt
    have hy : l'[i]? = some l'[i] := List.getElem?_eq_getElem hlt'
    have dx : l.drop i = l[i] :: l.drop (i + 1) := List.drop_eq_getElem_cons hlt
    have dy : l'.drop i = l'[i] :: l'.drop (i + 1) := List.drop_eq_getElem_cons hlt'
    generalize l[i] = x at hx dx
    generalize l'[i] = y at hy dy
    have e1 : ixSl 1 (sL l) (i64 i) = some (.iptr (l.map .str) (i * 1)) := ixIsl hlt
    have e2 : ixSl 1 (sL l') (i64 i) = some (.iptr (l'.map .str) (i * 1)) := ixIsl hlt'
    have g1 : (l.map LV.str)[i * 1]? = some (.str x) := by simp [hx]
    have g2 : (l'.map LV.str)[i * 1]? = some (.str y) := by simp [hy]
    simp only [w121_1, bInt_int, lint_lss, bd_some, c1, decide_true, bsel_true, e1, e2, ld1_iptr, g1, g2, bStr_str, lstr_neq]
    rw [bsel_bool]
    refine ⟨fun h => ?_, fun h => ?_⟩
    · have hne : x ≠ y := by simpa using h
      have := hR st
      rwa [decide_eq_false (fun e => by rw [dx, dy] at e; exact hne (List.cons.inj e).1)] at this
    · have he : x = y := by simpa using h
      simp only [lint_add, bInt_int, bd_some, wrap_add1 (show i < 2 ^ 40 by unfold big at hb; omega)]
      refine ih (i + 1) st (by omega) fun s => ?_
      have := hR s
      by_cases hd : l.drop (i + 1) = l'.drop (i + 1)
      · rw [decide_eq_true hd]
        rwa [decide_eq_true (by rw [dx, dy, he, hd])] at this
      · rw [decide_eq_false hd]
        rwa [decide_eq_false (fun e => by rw [dx, dy] at e; exact hd (List.cons.inj e).2)] at this

/-- slices.Equal -/
theorem equal_pu {l l' : List (List UInt8)} (hb : l.length ≤ big) : Pu Tryz.prog 121 [sL l, sL l'] (.bool (decide (l = l'))) := by
  refine Pu.of (c121 _ _ ?_) (by simp only [LV.plains, LV.plain, plains_map (f := LV.str) fun _ _ => rfl, Bool.and_true]) rfl
  simp only [w121, lenSl_isl, bd_some, bInt_int, lint_neq, bsel_bool]
  refine ⟨fun h => ?_, fun h => ?_⟩
  · have hne : l ≠ l' := fun e => by simp [e] at h
    rw [decide_eq_false hne]; rfl
  · have he : l.length = l'.length := by
      have h1 : (l.length : Int) = l'.length := by simpa using h
      omega
    exact loop121 he hb l.length 0 _ (by omega) fun s => rfl

/-- A value agrees with a plan. -/
inductive Agr : T → T → Prop where
  | later {a b : T} (h : a.kind = 1) : Agr a b
  | parts {a b : T} (h : a.kind = b.kind) (hk : a.kind = 6 ∨ a.kind = 7) (he : a.keys = b.keys) (hl : a.items.length = b.items.length) (hi : ∀ (i : Nat) (x y : T), a.items[i]? = some x → b.items[i]? = some y → Agr x y) : Agr a b
  | same {a : T} (hk : ¬ (a.kind = 6 ∨ a.kind = 7)) : Agr a a

theorem All2_of {α β : Type} {p : α → β → Prop} : ∀ {a : List α} {b : List β}, a.length = b.length → (∀ (i : Nat) (x : α) (y : β), a[i]? = some x → b[i]? = some y → p x y) → All2 p a b
  | [], [], _, _ => trivial
  | [], _ :: _, h, _ => by simp at h
  | _ :: _, [], h, _ => by simp at h
  | x :: a, y :: b, h, hi => ⟨hi 0 x y rfl rfl, All2_of (by simpa using h) fun i u v hu hv => hi (i + 1) u v (by simpa using hu) (by simpa using hv)⟩
theorem All2_at {α β : Type} {p : α → β → Prop} : ∀ {a : List α} {b : List β}, All2 p a b → ∀ (i : Nat) (x : α) (y : β), a[i]? = some x → b[i]? = some y → p x y
  | x :: a, y :: b, h, 0, u, v, hu, hv => by simp at hu hv; subst hu hv; exact h.1
  | x :: a, y :: b, h, i + 1, u, v, hu, hv => All2_at h.2 i u v (by simpa using hu) (by simpa using hv)
  | [], _, _, _, _, _, hu, _ => by simp at hu

theorem agr_iff {a b : T} : Agr a b ↔ a.kind = 1 ∨ (a.kind = b.kind ∧ if a.kind = 6 ∨ a.kind = 7 then a.keys = b.keys ∧ All2 Agr a.items b.items else a = b) := by
  constructor
  · intro h
    cases h with
    | later h => exact .inl h
    | parts h hk he hl hi => rw [if_pos hk]; exact .inr ⟨h, he, All2_of hl hi⟩
    | same hk => rw [if_neg hk]; exact .inr ⟨rfl, rfl⟩
  · rintro (h | ⟨h, h2⟩)
    · exact .later h
    · by_cases hk : a.kind = 6 ∨ a.kind = 7
      · rw [if_pos hk] at h2
        exact .parts h hk h2.1 h2.2.len fun i x y hx hy => All2_at h2.2 i x y hx hy
      · rw [if_neg hk] at h2
        obtain ⟨rfl⟩ := h2
        exact .same hk

/-- What agrees with a plan all of which is known is the plan. -/
theorem agr_known : ∀ (n : Nat) (a b : T), SizeOf.sizeOf a < n → every isKnown a = true → (Agr a b ↔ a = b)
  | 0, _, _, h, _ => by omega
  | n + 1, a, b, hn, hk => by
    rw [every_eq, Bool.and_eq_true] at hk
    have h1 : ¬ a.kind = 1 := by have := hk.1; unfold isKnown at this; simpa using this
    have hrec : ∀ x ∈ a.items, ∀ y, Agr x y ↔ x = y := fun x hx y => agr_known n x y (by have := T.size_items hx; omega) (List.all_eq_true.1 hk.2 x hx)
    have hall : All2 Agr a.items b.items ↔ a.items = b.items := by
      rw [← All2.eq]
      constructor
      · intro h; exact All2_of h.len fun i x y hx hy => (hrec x (List.mem_of_getElem? hx) y).1 (All2_at h i x y hx hy)
      · intro h; exact All2_of h.len fun i x y hx hy => (hrec x (List.mem_of_getElem? hx) y).2 (All2_at h i x y hx hy)
    rw [agr_iff, hall]
    constructor
    · rintro (h | ⟨h, h2⟩)
      · exact absurd h h1
      · split at h2
        · rename_i hk67
          obtain ⟨e1, e2⟩ := h2
          cases a <;> simp only [T.kind] at hk67 h <;> try (exact absurd hk67 (by decide))
          · cases b <;> simp only [T.kind] at h <;> try (exact absurd h (by decide))
            simp only [T.items] at e2; rw [e2]
          · cases b <;> simp only [T.kind] at h <;> try (exact absurd h (by decide))
            simp only [T.items, T.keys] at e1 e2
            rename_i es es'
            congr 1
            clear hall hrec hk hn h1 h hk67
            induction es generalizing es' with
            | nil => cases es' <;> simp_all
            | cons e es ih =>
              cases es' with
              | nil => simp at e1
              | cons e' es' =>
                simp only [List.map_cons, List.cons.injEq] at e1 e2
                rw [ih es' e1.2 e2.2]
                congr 1
                exact Prod.ext e1.1 e2.1
        · exact h2
    · rintro rfl
      refine .inr ⟨rfl, ?_⟩
      split
      · exact ⟨rfl, rfl⟩
      · rfl

theorem ok_keys {t : T} (h : t.ok) : t.keys.length ≤ big := by
  cases t <;> simp only [T.keys, List.length_nil, Nat.zero_le, List.length_map]
  exact h.1
theorem ok_len {t : T} (h : t.ok) : t.items.length ≤ big := by
  cases t <;> simp only [T.items, List.length_nil, Nat.zero_le, List.length_map]
  · exact h.1
  · exact h.1

/-- Agrees -/
theorem agrees_pu : ∀ (n : Nat) (a b : T), SizeOf.sizeOf a < n → a.ok → b.ok → Pu Tryz.prog 56 [vT a, vT b] (.bool (decide (Agr a b)))
  | 0, _, _, h, _, _ => by omega
  | n + 1, a, b, hn, ha, hb => by
    have hrec : ∀ x ∈ a.items, ∀ y, y.ok → Pu Tryz.prog 56 [vT x, vT y] (.bool (decide (Agr x y))) := fun x hx y hy => agrees_pu n x y (by have := T.size_items hx; omega) (T.ok_items ha x hx) hy
    refine Pu.of (c56 _ _ ?_) (by simp only [LV.plains, LV.plain, lvT_plain, Bool.and_true]) rfl
    have g0 : ldA [LObj.cells .rw [lvT a], .cells .rw [lvT b]] (.ptr 0 0) 1 = some (vT a) := rfl
    have g1 : ldA [LObj.cells .rw [lvT a], .cells .rw [lvT b]] (.ptr 1 0) 1 = some (vT b) := rfl
    have no : ∀ {p : Prop} {st : LState}, ¬ p → dp st (.bool (decide p)) (.bool false) := fun h => by rw [decide_eq_false h]; rfl
    have yes : ∀ {p q : Prop} {dq : Decidable q} {st : LState}, (q ↔ p) → dp st (.bool (decide p)) (.bool (@decide q dq)) := fun {p q dq st} h => by
      by_cases hp : p
      · rw [decide_eq_true hp, decide_eq_true (h.2 hp)]; rfl
      · rw [decide_eq_false hp, decide_eq_false fun hq => hp (h.1 hq)]; rfl
    have parts : (a.kind = 6 ∨ a.kind = 7) → ¬ a.kind = 1 → a.kind = b.kind → LCalls Tryz.prog 49 [vT a] [LObj.cells .rw [lvT a], .cells .rw [lvT b]] fun v32 st33 => ldA st33 (.ptr 1 0) 1 = some (vT b) ∧ LCalls Tryz.prog 49 [vT b] st33 fun v34 st35 => LCalls Tryz.prog 121 [v32, v34] st35 fun v36 st37 =>
        bsel v36 (bd (ldA st37 (.ptr 0 0) 1) fun v38 => bd (ldA st37 (.ptr 1 0) 1) fun v39 => LCalls Tryz.prog 101 [v38] st37 fun v40 st41 => ldA st41 (.ptr 1 0) 1 = some v39 ∧ LCalls Tryz.prog 101 [v39] st41 fun v42 st43 =>
          LCalls Tryz.prog 122 [v40, v42, LV.fn (Fn.func 56) [] []] st43 fun v44 st45 => dp st45 (.bool (decide (Agr a b))) v44) (dp st37 (.bool (decide (Agr a b))) (.bool false)) := by
      intro hk h1 hkk
      refine (keys_pu ha).call ⟨g1, (keys_pu hb).call ((equal_pu (ok_keys ha)).call ?_)⟩
      rw [bsel_bool]
      refine ⟨fun h => ?_, fun h => ?_⟩
      · have he : a.keys = b.keys := of_decide_eq_true h
        simp only [g0, g1, bd_some]
        refine (items_pu ha).call ⟨g1, (items_pu hb).call ?_⟩
        refine (eqf122 (p := Agr) (ok_len ha) fun i x y hx hy => hrec x (List.mem_of_getElem? hx) y (T.ok_items hb y (List.mem_of_getElem? hy))).call ?_
        refine yes ?_
        rw [agr_iff, if_pos hk]
        exact ⟨fun h => .inr ⟨hkk, he, h⟩, fun h => by
          rcases h with h | h
          · exact absurd h h1
          · exact h.2.2⟩
      · have he : ¬ a.keys = b.keys := of_decide_eq_false h
        refine no fun hA => ?_
        rw [agr_iff, if_pos hk] at hA
        rcases hA with hA | hA
        · exact h1 hA
        · exact he hA.2.1
    simp only [w56, lbox_v, bd2_some, List.nil_append, List.cons_append, List.length_nil, List.length_cons, Nat.zero_add, g0, bd_some]
    refine (kind_pu a).call ?_
    simp only [bInt_int, lint_eql, bd_some]
    rw [bsel_bool]
    refine ⟨fun h => ?_, fun h => ?_⟩
    · have h1 : a.kind = 1 := by simpa using h
      rw [decide_eq_true (Agr.later h1)]; rfl
    have h1 : ¬ a.kind = 1 := by simpa using h
    simp only [g1, bd_some]
    refine (kind_pu b).call ?_
    simp only [bInt_int, lint_neq, bd_some]
    rw [bsel_bool]
    refine ⟨fun h => ?_, fun h => ?_⟩
    · have hne : ¬ a.kind = b.kind := by simpa using h
      refine no fun hA => ?_
      rw [agr_iff] at hA
      rcases hA with hA | hA
      · exact h1 hA
      · exact hne hA.1
    have hkk : a.kind = b.kind := by simpa using h
    rw [bsel_bool]
    refine ⟨fun h => ?_, fun h => ?_⟩
    · simp only [g0, g1, bd_some]
      exact parts (.inl (by simpa using h)) h1 hkk
    have h6 : ¬ a.kind = 6 := by simpa using h
    rw [bsel_bool]
    refine ⟨fun h => ?_, fun h => ?_⟩
    · simp only [g0, g1, bd_some]
      exact parts (.inr (by simpa using h)) h1 hkk
    have h7 : ¬ a.kind = 7 := by simpa using h
    simp only [g0, g1, bd_some]
    refine (same_pu _ a b (Nat.lt_succ_self _) ha hb).call ?_
    refine yes ?_
    rw [agr_iff, if_neg (by omega)]
    exact ⟨fun e => .inr ⟨hkk, e⟩, fun h => by
      rcases h with h | h
      · exact absurd h h1
      · exact h.2⟩

end Go.Proofs.YtknegckgmklnhaaGreatDoor

namespace Go.Proofs.YtknegckgmklnhaaGreatDoor
open Go Go.CP Go.ChangeShapes
set_option maxRecDepth 100000

theorem ce49 : Tryz.prog.cellsOf 49 = 7 := by kernel_rfl
theorem ce3 : Tryz.prog.cellsOf 3 = 1 := by kernel_rfl
theorem ce4 : Tryz.prog.cellsOf 4 = 1 := by kernel_rfl
theorem ce9 : Tryz.prog.cellsOf 9 = 1 := by kernel_rfl
theorem ce47 : Tryz.prog.cellsOf 47 = 1 := by kernel_rfl
theorem ce26 : Tryz.prog.cellsOf 26 = 1 := by kernel_rfl

section
variable {H : Type}

theorem bulk_part {d : DataW H} : ∀ {l : List (DataW H)} {i : Nat}, l[i]? = some d → Rows.uptoBulk d ≤ Rows.uptoBulkAll l
  | [], i, h => by simp at h
  | x :: r, 0, h => by simp at h; subst h; simp only [Rows.uptoBulkAll]; omega
  | x :: r, i + 1, h => by
    have := bulk_part (l := r) (i := i) (by simpa using h)
    simp only [Rows.uptoBulkAll]; omega

theorem bulk_pos {d : DataW H} : 1 ≤ Rows.uptoBulk d := by
  cases d with
  | lit l => cases l <;> simp [Rows.uptoBulk]
  | _ => simp [Rows.uptoBulk]

theorem bulk_len : ∀ {l : List (DataW H)}, l.length ≤ Rows.uptoBulkAll l
  | [] => by simp
  | x :: r => by have := bulk_len (l := r); have := bulk_pos (d := x); simp only [Rows.uptoBulkAll, List.length_cons]; omega

theorem td_int {n : Nat} {xs : List LV} {d : DataW H} (h : TypedD Tryz.prog n 3 xs d) : ∃ k : Int, xs = [i64 k] ∧ -9223372036854775808 ≤ k ∧ k < 9223372036854775808 := by
  cases n with
  | zero => exact h.elim
  | succ n =>
    unfold TypedD at h
    rw [Tryz.underlying3] at h
    obtain ⟨m, rfl, hw⟩ := h
    have h1 : IntKind.min .i64 = -9223372036854775808 := rfl
    have h2 : IntKind.max .i64 = 9223372036854775807 := rfl
    simp only [Lit.wf, Bool.and_eq_true, decide_eq_true_eq, h1, h2] at hw
    exact ⟨m, rfl, hw.1, by omega⟩
theorem td_bool {n : Nat} {xs : List LV} {d : DataW H} (h : TypedD Tryz.prog n 4 xs d) : ∃ b, xs = [.bool b] := by
  cases n with
  | zero => exact h.elim
  | succ n => unfold TypedD at h; rw [Tryz.underlying4] at h; exact h
theorem td_str {n : Nat} {xs : List LV} {d : DataW H} (h : TypedD Tryz.prog n 9 xs d) : ∃ s : List UInt8, xs = [.str s] ∧ s.length ≤ Rows.uptoBulk d := by
  cases n with
  | zero => exact h.elim
  | succ n =>
    unfold TypedD at h; rw [Tryz.underlying9] at h
    obtain ⟨s, rfl, _, rfl⟩ := h
    exact ⟨s, rfl, by simp [Rows.uptoBulk]⟩

theorem get_snoc {α : Type} {l : List α} {x : α} {i : Nat} {y : α} (h : (x :: l)[i + 1]? = some y) : l[i]? = some y := by simpa using h

theorem rows_str {n N : Nat} : ∀ {rows : List (List LV)} {elems : List (DataW H)}, elems.length = rows.length → (∀ (i : Nat) (r : List LV) (di : DataW H), rows[i]? = some r → elems[i]? = some di → r.length = 1 ∧ TypedD Tryz.prog n 9 r di) →
    Rows.uptoBulkAll elems ≤ N → ∃ l : List (List UInt8), rows.flatten = l.map .str ∧ l.length = rows.length ∧ ∀ x ∈ l, x.length ≤ N
  | [], _, _, _, _ => ⟨[], rfl, rfl, fun _ h => (by cases h)⟩
  | r :: rows, [], h, _, _ => by simp at h
  | r :: rows, d :: elems, h, hr, hb => by
    simp only [Rows.uptoBulkAll] at hb
    obtain ⟨s, rfl, hs⟩ := td_str (hr 0 r d rfl rfl).2
    obtain ⟨l, h1, h2, h3⟩ := rows_str (n := n) (N := N) (rows := rows) (elems := elems) (by simpa using h) (fun i r di a b => hr (i + 1) r di (by simpa using a) (by simpa using b)) (by omega)
    refine ⟨s :: l, by simp [h1], by simp [h2], fun x hx => ?_⟩
    rcases List.mem_cons.1 hx with rfl | hx
    · omega
    · exact h3 x hx

theorem td_strs {n : Nat} {xs : List LV} {d : DataW H} (h : TypedD Tryz.prog n 26 xs d) : ∃ l : List (List UInt8), xs = [sI l] ∧ l.length ≤ Rows.uptoBulk d ∧ ∀ x ∈ l, x.length ≤ Rows.uptoBulk d := by
  cases n with
  | zero => exact h.elim
  | succ n =>
    unfold TypedD at h; rw [Tryz.underlying26] at h
    obtain ⟨rows, elems, rfl, hl, hd, hr⟩ := h
    rcases hd with rfl | ⟨rest, rfl⟩
    · exact ⟨[], rfl, by simp, fun _ h => (by cases h)⟩
    · rw [ce9] at hr
      obtain ⟨l, h1, h2, h3⟩ := rows_str hl hr (Nat.le_refl _)
      have h4 := bulk_len (l := elems)
      refine ⟨l, by rw [h1, ← h2], by simp only [Rows.uptoBulk]; omega, fun x hx => ?_⟩
      have := h3 x hx
      simp only [Rows.uptoBulk]; omega

theorem rows_rv {n N : Nat} (ih : ∀ {xs : List LV} {d : DataW H}, TypedD Tryz.prog n 49 xs d → Rows.uptoBulk d ≤ N → ∃ r, xs = rc r ∧ r.ok) : ∀ {rows : List (List LV)} {elems : List (DataW H)}, elems.length = rows.length →
    (∀ (i : Nat) (r : List LV) (di : DataW H), rows[i]? = some r → elems[i]? = some di → r.length = 7 ∧ TypedD Tryz.prog n 49 r di) → Rows.uptoBulkAll elems ≤ N → ∃ l : List RV, rows.flatten = rcs l ∧ l.length = rows.length ∧ ∀ x ∈ l, x.ok
  | [], _, _, _, _ => ⟨[], rfl, rfl, fun _ h => (by cases h)⟩
  | r :: rows, [], h, _, _ => by simp at h
  | r :: rows, d :: elems, h, hr, hb => by
    simp only [Rows.uptoBulkAll] at hb
    obtain ⟨s, rfl, hs⟩ := ih (hr 0 r d rfl rfl).2 (by omega)
    obtain ⟨l, h1, h2, h3⟩ := rows_rv ih (rows := rows) (elems := elems) (by simpa using h) (fun i r di a b => hr (i + 1) r di (by simpa using a) (by simpa using b)) (by omega)
    refine ⟨s :: l, by simp [h1, rcs], by simp [h2], fun x hx => ?_⟩
    rcases List.mem_cons.1 hx with rfl | hx
    · exact hs
    · exact h3 x hx

theorem typed_rv {N : Nat} (hN : N ≤ big) : ∀ (n : Nat) {xs : List LV} {d : DataW H}, TypedD Tryz.prog n 49 xs d → Rows.uptoBulk d ≤ N → ∃ r, xs = rc r ∧ r.ok
  | 0, _, _, h, _ => h.elim
  | n + 1, xs, d, h, hb => by
    unfold TypedD at h; rw [Tryz.underlying49] at h
    obtain ⟨hlen, parts, rfl, hp, hf⟩ := h
    rw [ce49] at hlen
    simp only [Rows.uptoBulk] at hb
    obtain ⟨x0, x1, x2, x3, x4, x5, x6, rfl⟩ : ∃ x0 x1 x2 x3 x4 x5 x6, xs = [x0, x1, x2, x3, x4, x5, x6] := by
      match xs, hlen with
      | [x0, x1, x2, x3, x4, x5, x6], _ => exact ⟨x0, x1, x2, x3, x4, x5, x6, rfl⟩
    obtain ⟨p0, p1, p2, p3, p4, p5, p6, rfl⟩ : ∃ x0 x1 x2 x3 x4 x5 x6, parts = [x0, x1, x2, x3, x4, x5, x6] := by
      match parts, hp with
      | [x0, x1, x2, x3, x4, x5, x6], _ => exact ⟨x0, x1, x2, x3, x4, x5, x6, rfl⟩
    simp only [Rows.uptoBulkAll] at hb
    have f0 : TypedD Tryz.prog n 3 (([x0, x1, x2, x3, x4, x5, x6].drop 0).take (Tryz.prog.cellsOf 3)) p0 := hf 0 _ _ rfl rfl
    have f1 : TypedD Tryz.prog n 4 (([x0, x1, x2, x3, x4, x5, x6].drop 1).take (Tryz.prog.cellsOf 4)) p1 := hf 1 _ _ rfl rfl
    have f2 : TypedD Tryz.prog n 3 (([x0, x1, x2, x3, x4, x5, x6].drop 2).take (Tryz.prog.cellsOf 3)) p2 := hf 2 _ _ rfl rfl
    have f3 : TypedD Tryz.prog n 3 (([x0, x1, x2, x3, x4, x5, x6].drop 3).take (Tryz.prog.cellsOf 3)) p3 := hf 3 _ _ rfl rfl
    have f4 : TypedD Tryz.prog n 9 (([x0, x1, x2, x3, x4, x5, x6].drop 4).take (Tryz.prog.cellsOf 9)) p4 := hf 4 _ _ rfl rfl
    have f5 : TypedD Tryz.prog n 47 (([x0, x1, x2, x3, x4, x5, x6].drop 5).take (Tryz.prog.cellsOf 47)) p5 := hf 5 _ _ rfl rfl
    have f6 : TypedD Tryz.prog n 26 (([x0, x1, x2, x3, x4, x5, x6].drop 6).take (Tryz.prog.cellsOf 26)) p6 := hf 6 _ _ rfl rfl
    rw [ce3] at f0 f2 f3
    rw [ce4] at f1
    rw [ce9] at f4
    rw [ce47] at f5
    rw [ce26] at f6
    simp only [List.drop_zero, List.drop_succ_cons, List.take_succ_cons, List.take_zero] at f0 f1 f2 f3 f4 f5 f6
    obtain ⟨k, e0, k0⟩ := td_int f0
    obtain ⟨b, e1⟩ := td_bool f1
    obtain ⟨a, e2, k2⟩ := td_int f2
    obtain ⟨m, e3, k3⟩ := td_int f3
    obtain ⟨s, e4, k4⟩ := td_str f4
    obtain ⟨ks, e6, k6, k7⟩ := td_strs f6
    cases n with
    | zero => exact f0.elim
    | succ n =>
      unfold TypedD at f5; rw [Tryz.underlying47] at f5
      obtain ⟨rows, elems, e5, hl, hd, hr⟩ := f5
      rw [ce49] at hr
      obtain ⟨l, h1, h2, h3⟩ : ∃ l : List RV, rows.flatten = rcs l ∧ l.length = rows.length ∧ (∀ x ∈ l, x.ok) ∧ l.length ≤ N := by
        rcases hd with rfl | ⟨rest, rfl⟩
        · exact ⟨[], rfl, rfl, (fun _ h => by cases h), by simp⟩
        · simp only [Rows.uptoBulk] at hb
          obtain ⟨l, g1, g2, g3⟩ := rows_rv (n := n) (N := N) (fun a b => typed_rv hN n a b) hl hr (by omega)
          have := bulk_len (l := elems)
          exact ⟨l, g1, g2, g3, by omega⟩
      simp only [List.cons.injEq, and_true] at e0 e1 e2 e3 e4 e5 e6
      subst e0 e1 e2 e3 e4 e5 e6
      refine ⟨.mk k b a m s l ks, by rw [rc, ← h1, ← h2], ⟨k0, k2, k3⟩, by omega, by omega, ⟨by omega, fun x hx => by have := k7 x hx; omega⟩, RV.oks_iff.2 h3.1⟩

end

/-! ### what is cleaned -/

theorem ins_keys {es : List (List UInt8 × T)} {k : List UInt8} {t : T} {q : List UInt8 × T → Prop} (h : ∀ e ∈ es, q e) (hk : q (k, t)) : ∀ e ∈ ins es k t, q e := by
  unfold ins
  split
  · exact h
  · intro e he
    rcases List.mem_append.1 he with he | he
    · exact h e (List.mem_of_mem_take he)
    · rcases List.mem_cons.1 he with rfl | he
      · exact hk
      · exact h e (List.mem_of_mem_drop he)

theorem ins_rise {es : List (List UInt8 × T)} {k : List UInt8} {t : T} (h : (es.map (·.1)).Pairwise ltB) : ((ins es k t).map (·.1)).Pairwise ltB := by
  unfold ins
  split
  · exact h
  rename_i hne
  have hsp : es = es.take (pos es k) ++ es.drop (pos es k) := (List.take_append_drop _ _).symm
  rw [List.map_append, List.map_cons, List.pairwise_append]
  rw [hsp, List.map_append, List.pairwise_append] at h
  obtain ⟨h1, h2, h3⟩ := h
  have lo : ∀ a ∈ (es.take (pos es k)).map (·.1), ltB a k := by
    intro a ha
    obtain ⟨e, he, rfl⟩ := List.mem_map.1 ha
    obtain ⟨j, hj⟩ := List.getElem?_of_mem he
    rw [List.getElem?_take] at hj
    split at hj
    · rename_i hlt
      exact takeWhile_get (q := fun e : List UInt8 × T => Op.bytesLess e.1 k) hlt hj
    · cases hj
  have hi : ∀ a ∈ (es.drop (pos es k)).map (·.1), ltB k a := by
    intro a ha
    cases hd : es.drop (pos es k) with
    | nil => rw [hd] at ha; simp at ha
    | cons e rest =>
      have he : es[pos es k]? = some e := by
        have : (es.drop (pos es k))[0]? = some e := by rw [hd]; rfl
        rw [List.getElem?_drop] at this; simpa using this
      have hs : Op.bytesLess e.1 k = false := takeWhile_stop (q := fun e : List UInt8 × T => Op.bytesLess e.1 k) he
      have hke : ltB k e.1 := by
        rcases hb : Op.bytesLess k e.1 with _ | _
        · exact absurd (by rw [he]; exact congrArg some (bl_tri hs hb)) hne
        · exact hb
      rw [hd] at ha h2
      simp only [List.map_cons, List.mem_cons] at ha
      rcases ha with rfl | ha
      · exact hke
      · simp only [List.map_cons, List.pairwise_cons] at h2
        exact bl_trans hke (h2.1 a ha)
  refine ⟨h1, List.pairwise_cons.2 ⟨hi, h2⟩, fun a ha b hb => ?_⟩
  rcases List.mem_cons.1 hb with rfl | hb
  · exact lo a ha
  · exact h3 a ha b hb

theorem insAll_ok {l : List (List UInt8 × T)} {q : List UInt8 × T → Prop} (h : ∀ e ∈ l, q e) : (∀ e ∈ insAll l, q e) ∧ ((insAll l).map (·.1)).Pairwise ltB := by
  have go : ∀ (l es : List (List UInt8 × T)), (∀ e ∈ l, q e) → (∀ e ∈ es, q e) → (es.map (·.1)).Pairwise ltB → (∀ e ∈ l.foldl (fun es e => ins es e.1 e.2) es, q e) ∧ ((l.foldl (fun es e => ins es e.1 e.2) es).map (·.1)).Pairwise ltB := by
    intro l
    induction l with
    | nil => intro es _ h2 h3; exact ⟨h2, h3⟩
    | cons e l ih =>
      intro es h1 h2 h3
      exact ih _ (fun x hx => h1 x (List.mem_cons_of_mem _ hx)) (ins_keys h2 (h1 e (by simp))) (ins_rise h3)
  exact go l [] h (by simp) (by simp)

theorem clamp_ok {x : Int} : -9007199254740992 ≤ clamp x ∧ clamp x ≤ 9007199254740992 := by
  unfold clamp; omega

theorem cln_ok : ∀ {r : RV}, r.ok → (cln r).ok := fun {r} => by
  refine RV.ind (p := fun r => r.ok → (cln r).ok) ?_ _ r (Nat.lt_succ_self _)
  intro r ih hr
  have hl := RV.ok_l hr
  have hk := RV.ok_ks hr
  have hn : -9223372036854775808 ≤ r.n ∧ r.n < 9223372036854775808 := by cases r; exact hr.1.2.1
  have hs : r.s.length ≤ big := by cases r; exact hr.2.1
  rw [cln_eq]
  split
  · trivial
  split
  · trivial
  split
  · exact hn
  split
  · exact ⟨clamp_ok, clamp_ok⟩
  split
  · exact hs
  split
  · refine ⟨by simpa using hl.1, T.oks_iff.2 fun t ht => ?_⟩
    obtain ⟨x, hx, rfl⟩ := List.mem_map.1 ht
    exact ih x hx (hl.2 x hx)
  split
  · have h := insAll_ok (l := r.ks.zip (r.l.map cln)) (q := fun e => e.1.length ≤ big ∧ e.2.ok) (by
      intro e he
      obtain ⟨k, t⟩ := e
      have h1 := (List.of_mem_zip he).1
      have h2 := (List.of_mem_zip he).2
      obtain ⟨x, hx, rfl⟩ := List.mem_map.1 h2
      exact ⟨hk.2 k h1, ih x hx (hl.2 x hx)⟩)
    refine ⟨?_, T.okm_iff.2 h.1, h.2⟩
    have := insAll_len (l := r.ks.zip (r.l.map cln))
    simp at this; omega
  · trivial

end Go.Proofs.YtknegckgmklnhaaGreatDoor

