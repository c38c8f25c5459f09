/- The clean machine, part 26: slices that own their object. -/
import Derived.Test.YthiaahbmibndkaaGreatDoorCp25
namespace Go.CP

/-- A slice value that owns its object, or nil. -/
def osl (f : Option Nat) (sz n : Nat) : LV := match f with
  | none => .nils
  | some o => .sl o 0 n (.rest sz)

/-- The cells that such a slice shows. -/
def OwnM (m0 : Md) (st : LState) (f : Option Nat) (sz n : Nat) (cs : List LV) : Prop := cs.length = n * sz ∧ match f with
  | none => n = 0
  | some o => ∃ rest, st[o]? = some (.cells m0 (cs ++ rest))

abbrev Own := OwnM .rw

section
variable {m0 : Md} {st st' : LState} {f : Option Nat} {sz n bytes : Nat} {cs new : List LV}

theorem OwnM.lenSl (h : OwnM m0 st f sz n cs) : lenSl (osl f sz n) = some (.int .i64 n) := by
  cases f with
  | none => obtain ⟨_, rfl⟩ := h; rfl
  | some o => rfl

theorem OwnM.nil {sz : Nat} : OwnM m0 st none sz 0 [] := ⟨by simp, rfl⟩

theorem OwnM.fr {S : Nat → Prop} (h : OwnM m0 st f sz n cs) (hf : Fr st st' S) (hs : ∀ o, f = some o → ¬ S o) : OwnM m0 st' f sz n cs := by
  refine ⟨h.1, ?_⟩
  cases f with
  | none => exact h.2
  | some o => obtain ⟨rest, h2⟩ := h.2; exact ⟨rest, hf.get h2 (hs o rfl)⟩

theorem OwnM.lt {o : Nat} (h : OwnM m0 st (some o) sz n cs) : o < st.length := by obtain ⟨_, h2⟩ := h.2; exact get_lt h2

/-- An element's cell. -/
theorem OwnM.ix {i : Int} {kk : IntKind} (h : OwnM m0 st f sz n cs) (h0 : 0 ≤ i) (h1 : i < n) : ∃ o, f = some o ∧ ixSl sz (osl f sz n) (.int kk i) = some (.ptr o (i.toNat * sz)) := by
  cases f with
  | none => have := h.2; simp only at this; omega
  | some o => exact ⟨o, rfl, by simp only [osl]; rw [ixSl_of h0 h1, Nat.zero_add]⟩

theorem OwnM.ld {o k : Nat} {x : LV} (h : OwnM m0 st (some o) sz n cs) (hk : cs[k]? = some x) : ld1 st (.ptr o k) = some x := by
  obtain ⟨rest, h2⟩ := h.2
  rw [ld1_of h2, List.getElem?_append_left (List.getElem?_eq_some_iff.1 hk).1, hk]

theorem OwnM.ldA {o k m : Nat} (h : OwnM m0 st (some o) sz n cs) (hk : k + m ≤ cs.length) : ldA st (.ptr o k) m = some (.agg ((cs.drop k).take m)) := by
  obtain ⟨rest, h2⟩ := h.2
  rw [ldA_of h2 (by simp; omega), List.drop_append_of_le_length (by omega), List.take_append_of_le_length (by simp; omega)]

theorem splice_app {a b new : List LV} : splice (a ++ b) a.length new = a ++ new ++ b.drop new.length := by
  unfold splice
  rw [List.take_left, List.drop_append, List.drop_eq_nil_of_le (Nat.le_add_right ..), Nat.add_sub_cancel_left, List.nil_append]

/-- append: what is taken up is the slice's own object, or a new one. -/
theorem OwnM.append {x : LV} {k : Nat} (h : OwnM m0 st f sz n cs) (hx : lsrc st sz x = some (k, new)) (hk : 0 < k) (hn : new.length = k * sz) (h1 : new.all LV.one = true)
    (hr : room47 (n + k) bytes = true) (hm : m0.w = true := by rfl) :
    ∃ st2 f2, lappend st sz bytes m0 (osl f sz n) x = some (osl f2 sz (n + k), st2) ∧ OwnM m0 st2 f2 sz (n + k) (cs ++ new) ∧ Fr st st2 (fun j => f = some j) ∧
      (∀ j, f2 = some j → f = some j ∨ st.length ≤ j) ∧ st2.length ≤ st.length + 1 := by
  have hk0 : ¬ k = 0 := by omega
  have hlen : (cs ++ new).length = (n + k) * sz := by rw [List.length_append, h.1, hn, Nat.add_mul]
  cases f with
  | none =>
    obtain ⟨hc, hz⟩ := h
    simp only at hz; subst hz
    have hc' : cs = [] := by simpa using hc
    subst hc'
    rw [Nat.zero_add] at hr
    refine ⟨st ++ [.cells m0 new], some st.length, ?_, ⟨hlen, [], by simp⟩, Fr.app, ?_, by simp⟩
    · simp only [osl, lappend, hx, hk0, if_false, hr, if_true, Nat.zero_add]
    · intro j e; right; simp at e; omega
  | some o =>
    obtain ⟨hc, rest, h2⟩ := h
    by_cases hfit : 0 + (n + k) * sz ≤ (cs ++ rest).length
    · refine ⟨st.set o (.cells m0 (splice (cs ++ rest) (0 + n * sz) new)), some o, ?_, ⟨hlen, rest.drop new.length, ?_⟩, Fr.set rfl, fun j e => .inl e, by simp⟩
      · simp only [osl, lappend, hx, hk0, if_false, h2, h1, hm, if_true, and_self, hfit]
      · rw [get_set h2, Nat.zero_add, ← hc, splice_app]
    · refine ⟨st.set o .dead ++ [.cells m0 (((cs ++ rest).drop 0).take (n * sz) ++ new)], some st.length, ?_, ⟨hlen, [], ?_⟩, ?_, ?_, by simp⟩
      · have h3 : 0 + n * sz ≤ (cs ++ rest).length := by simp [hc]
        simp only [osl, lappend, hx, hk0, if_false, h2, h1, hm, if_true, and_self, hfit, hr, h3, mdJoin]
      · rw [List.drop_zero, ← hc, List.take_left, List.append_nil]
        have : st.length = (st.set o LObj.dead).length := by simp
        rw [this, get_app_new]
      · exact (Fr.set (S := fun j => some o = some j) rfl).trans Fr.app (fun _ _ h => h)
      · intro j e; right; simp at e; omega

end
end Go.CP
