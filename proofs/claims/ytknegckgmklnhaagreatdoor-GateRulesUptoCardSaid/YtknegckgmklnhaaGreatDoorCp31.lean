/- The clean machine, part 31: arguments: what a law is handed, as logical values over objects that are only read. -/
/- The clean machine, part 32: the last step of a law's row, for arguments of numbers, texts, slices and structs of these. -/
import Derived.Test.YtknegckgmklnhaaGreatDoorCp25
import Derived.ChangeArms
import Derived.DataReads
import Derived.Carry
namespace Go.CP
open Go.ChangeShapes Go.WideShapes Go.ChangeAt Go.RowKit

/-- Values of a type, n deep, over a store. -/
def Typed (P : Program) (st : LState) : Nat → TypeId → List LV → Prop
  | 0, _, _ => False
  | n + 1, t, xs => match P.underlying t with
    | some .bool => ∃ b, xs = [.bool b]
    | some (.int k) => ∃ m, xs = [.int k m] ∧ (Lit.int k m).wf = true
    | some .string => ∃ s : List UInt8, xs = [.str s] ∧ s.length ≤ maxLen
    | some (.slice e) => xs = [.nils] ∨ xs = [.emp] ∨ ∃ (o cap : Nat) (rows : List (List LV)), xs = [.sl o 0 rows.length (.ex cap)] ∧ 0 < rows.length ∧ rows.length ≤ cap ∧ cap ≤ maxLen ∧
        st[o]? = some (.cells .ro rows.flatten) ∧ ∀ r ∈ rows, r.length = P.cellsOf e ∧ Typed P st n e r
    | some (.struct fs) => xs.length = P.cellsOf t ∧ ∀ f ∈ fs.toList, Typed P st n f.type ((xs.drop f.offset).take (P.cellsOf f.type))
    | _ => False

theorem Typed.more {P : Program} {st ext : LState} : ∀ {n : Nat} {t : TypeId} {xs : List LV}, Typed P st n t xs → Typed P (st ++ ext) n t xs
  | 0, _, _, h => h.elim
  | n + 1, t, xs, h => by
    unfold Typed at h ⊢
    split at h
    · exact h
    · exact h
    · exact h
    · rcases h with h | h | ⟨o, cap, rows, h1, h2, h3, h4, h5, h6⟩
      · exact .inl h
      · exact .inr (.inl h)
      · refine .inr (.inr ⟨o, cap, rows, h1, h2, h3, h4, ?_, fun r hr => ⟨(h6 r hr).1, (h6 r hr).2.more⟩⟩)
        rw [List.getElem?_append_left (List.getElem?_eq_some_iff.1 h5).1]; exact h5
    · exact ⟨h.1, fun f hf => (h.2 f hf).more⟩
    · exact h.elim

/-- Fields that lie one behind the other. -/
def tile (P : Program) : Nat → List Field → Option Nat
  | off, [] => some off
  | off, f :: fs => if f.offset = off then tile P (off + P.cellsOf f.type) fs else none

/-- Types whose values may be opened; S: those of their parts. -/
def okT (P : Program) (S : List TypeId) (t : TypeId) : Bool := match P.underlying t with
  | some .bool | some (.int _) | some .string => true
  | some (.slice e) => S.contains e && decide (0 < P.cellsOf e)
  | some (.struct fs) => fs.toList.all (fun f => S.contains f.type) && (tile P 0 fs.toList == some (P.cellsOf t))
  | _ => false

section
variable {H : Type} {enc : TypeId × Value → H} {P : Program} {w0 w : World} {base : Nat} {sp : Nat → Bool} {held : Bool}

def allRo (st : LState) : Prop := ∀ y ∈ st, y.rw = false

theorem Rel.pushRo {β : Lay} {st : LState} {l : List LV} {b : Bl} (h : Rel w0 β st w) (ha : allRo st)
    (hx : OR w0.heap.size (β.put st.length b) w st.length (.cells .ro l)) : Rel w0 (β.put st.length b) (st ++ [.cells .ro l]) w ∧ allRo (st ++ [.cells .ro l]) := by
  have hle : β.le (β.put st.length b) := Lay.le_put (h.dom _ (Nat.le_refl _))
  have hall : allRo (st ++ [.cells .ro l]) := by
    intro y hy
    rcases List.mem_append.1 hy with hy | hy
    · exact ha y hy
    · simp at hy; subst hy; rfl
  refine ⟨⟨h.below, ?_, ?_, ?_, h.base, h.froz, fun o y b1 hy hyr _ => by rw [hall y (List.mem_of_getElem? hy)] at hyr; cases hyr⟩, hall⟩
  · intro o ho
    simp at ho
    rw [Lay.put_other (by omega)]; exact h.dom o (by omega)
  · intro o y hy
    rcases Nat.lt_trichotomy o st.length with k | k | k
    · rw [List.getElem?_append_left k] at hy
      exact (h.obj o y hy).mono hle
    · subst k; simp at hy; subst hy; exact hx
    · rw [List.getElem?_eq_none (by simp; omega)] at hy; cases hy
  · intro o o' y y' b1 b2 hy hyr
    have := hall y (List.mem_of_getElem? hy)
    rw [this] at hyr; cases hyr

theorem Rps.flatten {β : Lay} : ∀ {rows : List (List LV)} {vs : List (List Value)}, rows.length = vs.length → (∀ (i : Nat) (r : List LV) (v : List Value), rows[i]? = some r → vs[i]? = some v → Rps β r v) → Rps β rows.flatten vs.flatten
  | [], [], _, _ => rfl
  | [], _ :: _, h, _ => by simp at h
  | _ :: _, [], h, _ => by simp at h
  | r :: rows, v :: vs, h, g => by
    simp only [List.flatten_cons]
    exact (g 0 r v (by simp) (by simp)).append (Rps.flatten (by simpa using h) fun i r v h1 h2 => g (i + 1) r v (by simpa using h1) (by simpa using h2))

/-- Cells of a struct's fields, one behind the other. -/
theorem fields_open {β : Lay} {st : LState} {n : Nat} {cs : List Value} : ∀ {fs : List Field} {off fin : Nat}, tile P off fs = some fin → cs.length = fin → Rel w0 β st w → allRo st →
    (∀ f ∈ fs, ∀ {β : Lay} {st : LState}, Rel w0 β st w → allRo st → ∃ β' ext xs, Rel w0 β' (st ++ ext) w ∧ allRo (st ++ ext) ∧ β.le β' ∧ Rps β' xs ((cs.drop f.offset).take (P.cellsOf f.type)) ∧ Typed P (st ++ ext) n f.type xs) →
    (∀ f ∈ fs, f.offset + P.cellsOf f.type ≤ cs.length) →
    ∃ β' ext xs, Rel w0 β' (st ++ ext) w ∧ allRo (st ++ ext) ∧ β.le β' ∧ Rps β' xs (cs.drop off) ∧ off ≤ fin ∧ ∀ f ∈ fs, off ≤ f.offset ∧ Typed P (st ++ ext) n f.type ((xs.drop (f.offset - off)).take (P.cellsOf f.type))
  | [], off, fin, ht, hl, hr, ha, _, _ => by
    simp only [tile, Option.some.injEq] at ht
    subst ht
    exact ⟨β, [], [], by simpa using hr, by simpa using ha, Lay.le.refl _, by rw [List.drop_eq_nil_of_le (by omega)]; rfl, Nat.le_refl _, by simp⟩
  | f :: fs, off, fin, ht, hl, hr, ha, hf, hb => by
    simp only [tile] at ht
    split at ht
    · rename_i e
      obtain ⟨β1, e1, x1, r1, a1, l1, p1, t1⟩ := hf f (by simp) hr ha
      obtain ⟨β2, e2, x2, r2, a2, l2, p2, lf, t2⟩ := fields_open (β := β1) (st := st ++ e1) (n := n) (cs := cs) ht hl r1 a1 (fun f' h' => hf f' (List.mem_cons_of_mem _ h')) (fun f' h' => hb f' (List.mem_cons_of_mem _ h'))
      have hbf := hb f (by simp)
      have hx1 : x1.length = P.cellsOf f.type := by
        have := p1.length
        simp at this; omega
      refine ⟨β2, e1 ++ e2, x1 ++ x2, by simpa using r2, by simpa using a2, l1.trans l2, ?_, by omega, ?_⟩
      · have := (p1.mono l2).append p2
        rw [e] at this
        have e3 : (cs.drop off).take (P.cellsOf f.type) ++ cs.drop (off + P.cellsOf f.type) = cs.drop off := by
          rw [← List.drop_drop]; exact List.take_append_drop _ _
        rwa [e3] at this
      · intro f' h'
        rcases List.mem_cons.1 h' with e' | h'
        · subst e'
          refine ⟨by omega, ?_⟩
          rw [e, Nat.sub_self, List.drop_zero, List.take_left' hx1]
          have := t1.more (ext := e2)
          simpa using this
        · obtain ⟨g1, g2⟩ := t2 f' h'
          refine ⟨by omega, ?_⟩
          rw [show f'.offset - off = P.cellsOf f.type + (f'.offset - (off + P.cellsOf f.type)) by omega, ← List.drop_drop, List.drop_left' hx1]
          simpa using g2
    · cases ht

theorem tile_le : ∀ {fs : List Field} {off fin : Nat}, tile P off fs = some fin → off ≤ fin ∧ ∀ f ∈ fs, f.offset + P.cellsOf f.type ≤ fin
  | [], off, fin, h => by simp only [tile, Option.some.injEq] at h; exact ⟨by omega, by simp⟩
  | f :: fs, off, fin, h => by
    simp only [tile] at h
    split at h
    · obtain ⟨h1, h2⟩ := tile_le h
      refine ⟨by omega, fun f' h' => ?_⟩
      rcases List.mem_cons.1 h' with e' | h'
      · subst e'; omega
      · exact h2 f' h'
    · cases h

theorem open_cells {S : List TypeId} (hS : S.all (okT P S) = true) : ∀ (fuel : Nat) {t : TypeId} {cs : List Value} {x : DataW H × List MemPlace} {β : Lay} {st : LState}, t ∈ S → DataW.trod enc P w base sp held fuel t cs = some x →
    Rel w0 β st w → allRo st → ∃ β' ext xs, Rel w0 β' (st ++ ext) w ∧ allRo (st ++ ext) ∧ β.le β' ∧ Rps β' xs cs ∧ Typed P (st ++ ext) fuel t xs
  | 0, t, cs, x, β, st, ht, h, hr, ha => by simp [DataW.trod] at h
  | n + 1, t, cs, x, β, st, ht, h, hr, ha => by
    have hok := List.all_eq_true.1 hS t ht
    unfold okT at hok
    split at hok
    · rename_i hu
      obtain ⟨b, rfl, _⟩ := DataW.trod_bool hu h
      exact ⟨β, [], [.bool b], by simpa using hr, by simpa using ha, Lay.le.refl _, Rps.one rfl, by unfold Typed; rw [hu]; exact ⟨b, rfl⟩⟩
    · rename_i k hu
      obtain ⟨m, rfl, _, hw⟩ := DataW.trod_int hu h
      exact ⟨β, [], [.int k m], by simpa using hr, by simpa using ha, Lay.le.refl _, Rps.one rfl, by unfold Typed; rw [hu]; exact ⟨m, rfl, hw⟩⟩
    · rename_i hu
      obtain ⟨s, rfl, _, hs⟩ := DataW.trod_string hu h
      exact ⟨β, [], [.str s.data.toList], by simpa using hr, by simpa using ha, Lay.le.refl _, Rps.one rfl, by unfold Typed; rw [hu]; exact ⟨_, rfl, by simpa using hs⟩⟩
    · rename_i e hu
      simp only [Bool.and_eq_true, decide_eq_true_eq, List.contains_iff_mem] at hok
      obtain ⟨heS, hc⟩ := hok
      rcases DataW.trod_slice hu h with ⟨rfl, _⟩ | ⟨a, len, cap, elems, rest, m, hm, rfl, _, hba, hlc, hcap, hel, hels, _⟩
      · exact ⟨β, [], [.nils], by simpa using hr, by simpa using ha, Lay.le.refl _, Rps.one rfl, by unfold Typed; rw [hu]; exact .inl rfl⟩
      · cases hm
        rcases Nat.eq_zero_or_pos len with h0 | hpos
        · subst h0
          exact ⟨β, [], [.emp], by simpa using hr, by simpa using ha, Lay.le.refl _, Rps.one ⟨a, cap, rfl⟩, by unfold Typed; rw [hu]; exact .inr (.inl rfl)⟩
        -- the elements
        have each : ∀ i, i < len → ∃ ci y, w.cells? base (a.add (i * P.cellsOf e)) (P.cellsOf e) = some ci ∧ DataW.trod enc P w base sp held n e ci = some y := by
          intro i hi
          have h1 := hels i hi
          have h2 : ∃ y, elems[i]? = some y := ⟨elems[i]'(by omega), List.getElem?_eq_getElem (by omega)⟩
          obtain ⟨y, hy⟩ := h2
          rw [hy] at h1
          obtain ⟨ci, h3, h4⟩ := Option.bind_eq_some_iff.1 h1
          exact ⟨ci, y, h3, h4⟩
        have rowsN : ∀ k, k ≤ len → ∃ (β' : Lay) (ext : LState) (rows : List (List LV)) (vss : List (List Value)), Rel w0 β' (st ++ ext) w ∧ allRo (st ++ ext) ∧ β.le β' ∧ rows.length = k ∧ vss.length = k ∧
            (∀ (i : Nat) (r : List LV) (v : List Value), rows[i]? = some r → vss[i]? = some v → Rps β' r v) ∧ (∀ (i : Nat) (v : List Value), vss[i]? = some v → w.cells? base (a.add (i * P.cellsOf e)) (P.cellsOf e) = some v) ∧
            ∀ r ∈ rows, r.length = P.cellsOf e ∧ Typed P (st ++ ext) n e r := by
          intro k
          induction k with
          | zero => exact fun _ => ⟨β, [], [], [], by simpa using hr, by simpa using ha, Lay.le.refl _, rfl, rfl, by simp, by simp, by simp⟩
          | succ k ih =>
            intro hk
            obtain ⟨β1, e1, rows, vss, r1, a1, l1, n1, n2, p1, c1, t1⟩ := ih (by omega)
            obtain ⟨ci, y, g1, g2⟩ := each k (by omega)
            obtain ⟨β2, e2, xs, r2, a2, l2, p2, t2⟩ := open_cells hS n heS g2 r1 a1
            refine ⟨β2, e1 ++ e2, rows ++ [xs], vss ++ [ci], by simpa using r2, by simpa using a2, l1.trans l2, by simp [n1], by simp [n2], ?_, ?_, ?_⟩
            · intro i r v h1 h2
              rcases Nat.lt_trichotomy i k with q | q | q
              · rw [List.getElem?_append_left (by omega)] at h1 h2
                exact (p1 i r v h1 h2).mono l2
              · subst q
                rw [List.getElem?_append_right (by omega)] at h1 h2
                simp [n1] at h1
                simp [n2] at h2
                subst h1; subst h2; exact p2
              · rw [List.getElem?_eq_none (by simp; omega)] at h1; cases h1
            · intro i v h2
              rcases Nat.lt_trichotomy i k with q | q | q
              · rw [List.getElem?_append_left (by omega)] at h2
                exact c1 i v h2
              · subst q
                rw [List.getElem?_append_right (by omega)] at h2
                simp [n2] at h2
                subst h2; exact g1
              · rw [List.getElem?_eq_none (by simp; omega)] at h2; cases h2
            · intro r hrr
              rcases List.mem_append.1 hrr with q | q
              · have := t1 r q
                exact ⟨this.1, by have := this.2.more (ext := e2); simpa using this⟩
              · simp at q; subst q
                refine ⟨?_, by simpa using t2⟩
                have := p2.length
                have := (World.cells?_some g1).2.1
                omega
        obtain ⟨β1, e1, rows, vss, r1, a1, l1, n1, n2, p1, c1, t1⟩ := rowsN len (Nat.le_refl _)
        -- the address
        have cellAt : ∀ i j, i < len → j < P.cellsOf e → ∃ v u, vss[i]? = some v ∧ v[j]? = some u ∧ w.cell? ((a.add (i * P.cellsOf e)).add j) = some u := by
          intro i j hi hj
          have hv : vss[i]? = some (vss[i]'(by omega)) := List.getElem?_eq_getElem (by omega)
          obtain ⟨_, g2, g3⟩ := World.cells?_some (c1 i _ hv)
          have hu : (vss[i]'(by omega))[j]? = some ((vss[i]'(by omega))[j]'(by omega)) := List.getElem?_eq_getElem (by omega)
          exact ⟨_, _, hv, hu, by rw [g3 j hj]; exact hu⟩
        obtain ⟨v0, u0, _, _, hc0⟩ := cellAt 0 0 hpos hc
        have hspot : a.spot = none := by
          simp only [Nat.zero_mul, Addr.add, if_true] at hc0
          unfold World.cell? at hc0
          split at hc0
          · split at hc0
            · cases hc0
            · rename_i hs; simpa using hs
          · cases hc0
        obtain ⟨c, ty, fz, hheap⟩ : ∃ c ty fz, w.heap[a.block]? = some (.cells c ty fz) := by
          simp only [Nat.zero_mul, Addr.add, if_true] at hc0
          unfold World.cell? at hc0
          split at hc0
          · rename_i c ty fz hh; exact ⟨c, ty, fz, hh⟩
          · cases hc0
        have cellC : ∀ i j, i < len → j < P.cellsOf e → ∃ v u, vss[i]? = some v ∧ v[j]? = some u ∧ c[a.off + (i * P.cellsOf e + j)]? = some u := by
          intro i j hi hj
          obtain ⟨v, u, g1, g2, g3⟩ := cellAt i j hi hj
          refine ⟨v, u, g1, g2, ?_⟩
          have hblk : ((a.add (i * P.cellsOf e)).add j).block = a.block := by
            unfold Addr.add; split <;> split <;> rfl
          have hoff : ((a.add (i * P.cellsOf e)).add j).off = a.off + (i * P.cellsOf e + j) := by
            unfold Addr.add
            split <;> split <;> simp_all <;> omega
          unfold World.cell? at g3
          rw [hblk, hheap] at g3
          simp only at g3
          split at g3
          · cases g3
          · rw [hoff] at g3; exact g3
        have hlenr : ∀ r ∈ rows, r.length = P.cellsOf e := fun r hr => (t1 r hr).1
        have hlenv : ∀ v ∈ vss, v.length = P.cellsOf e := by
          intro v hv
          obtain ⟨i, hi, e'⟩ := List.getElem_of_mem hv
          have := (World.cells?_some (c1 i v (by rw [List.getElem?_eq_getElem hi, e']))).2.1
          exact this
        have flat : ∀ {α : Type} {ls : List (List α)} {q : Nat}, (∀ l ∈ ls, l.length = P.cellsOf e) → q < ls.length * P.cellsOf e → ∃ l, ls[q / P.cellsOf e]? = some l ∧ ls.flatten[q]? = l[q % P.cellsOf e]? := by
          intro α ls
          induction ls with
          | nil => intro q _ h; simp at h
          | cons l ls ih =>
            intro q hl hq
            have h0 := hl l (by simp)
            rcases Nat.lt_or_ge q (P.cellsOf e) with k | k
            · refine ⟨l, by rw [Nat.div_eq_of_lt k]; rfl, ?_⟩
              rw [List.flatten_cons, List.getElem?_append_left (by omega), Nat.mod_eq_of_lt k]
            · obtain ⟨l', g1, g2⟩ := ih (q := q - P.cellsOf e) (fun l h => hl l (List.mem_cons_of_mem _ h)) (by
                simp only [List.length_cons, Nat.add_mul, Nat.one_mul] at hq; omega)
              have hd : q / P.cellsOf e = (q - P.cellsOf e) / P.cellsOf e + 1 := by
                rw [Nat.div_eq_sub_div hc k]
              have hmd : q % P.cellsOf e = (q - P.cellsOf e) % P.cellsOf e := Nat.mod_eq_sub_mod k
              refine ⟨l', by rw [hd]; simpa using g1, ?_⟩
              rw [List.flatten_cons, List.getElem?_append_right (by omega), h0, g2, hmd]
        have hfl : ∀ {α : Type} {ls : List (List α)}, (∀ l ∈ ls, l.length = P.cellsOf e) → ls.flatten.length = ls.length * P.cellsOf e := by
          intro α ls
          induction ls with
          | nil => intro _; simp
          | cons l ls ih =>
            intro hl
            rw [List.flatten_cons, List.length_append, ih (fun l h => hl l (List.mem_cons_of_mem _ h)), hl l (by simp), List.length_cons, Nat.add_mul, Nat.one_mul, Nat.add_comm]
        have hall := Rps.flatten (β := β1) (by rw [n1, n2]) p1
        have hlast : a.off + len * P.cellsOf e ≤ c.size := by
          obtain ⟨v, u, _, _, g⟩ := cellC (len - 1) (P.cellsOf e - 1) (by omega) (by omega)
          have := (Array.getElem?_eq_some_iff.1 g).1
          have e1 : len * P.cellsOf e = (len - 1) * P.cellsOf e + P.cellsOf e := by
            rw [← Nat.succ_mul]; congr 1; omega
          omega
        have hor : OR w0.heap.size (β1.put (st ++ e1).length ⟨a.block, a.off, c.size - a.off⟩) w (st ++ e1).length (.cells .ro rows.flatten) := by
          refine ⟨_, Lay.put_same, c, ty, fz, hheap, ?_, ?_, ?_, ⟨(fun k => by cases k), (by rintro t ⟨⟩), (by rintro g n ⟨⟩)⟩⟩
          · show c.size = a.off + (c.size - a.off)
            omega
          · show _ ≤ c.size - a.off
            rw [hfl hlenr, n1]; omega
          · intro q x hx
            obtain ⟨u, hu, hp⟩ := hall.get hx
            have hq : q < rows.length * P.cellsOf e := by
              rw [← hfl hlenr]; exact (List.getElem?_eq_some_iff.1 hx).1
            obtain ⟨l, g1, g2⟩ := flat hlenv (by rw [n2, ← n1]; exact hq)
            have hi : q / P.cellsOf e < len := by rw [Nat.div_lt_iff_lt_mul hc]; rw [← n1]; exact hq
            obtain ⟨v', u', k1, k2, k3⟩ := cellC (q / P.cellsOf e) (q % P.cellsOf e) hi (Nat.mod_lt _ hc)
            rw [g1] at k1; cases k1
            rw [g2, k2] at hu; cases hu
            refine ⟨u, ?_, hp.mono (Lay.le_put (r1.dom _ (Nat.le_refl _)))⟩
            rw [← k3]
            congr 2
            rw [Nat.mul_comm]; exact (Nat.div_add_mod q (P.cellsOf e)).symm
        obtain ⟨r2, a2⟩ := r1.pushRo a1 hor
        have hle := Lay.le_put (b := ⟨a.block, a.off, c.size - a.off⟩) (r1.dom _ (Nat.le_refl (st ++ e1).length))
        refine ⟨_, e1 ++ [.cells .ro rows.flatten], [.sl (st ++ e1).length 0 rows.length (.ex cap)], by simpa using r2, by simpa using a2, l1.trans hle, Rps.one ⟨_, Lay.put_same, ?_, ?_⟩, ?_⟩
        · show rows.length ≤ cap
          omega
        · show Value.slice (some a) len cap = Value.slice (some ⟨a.block, a.off + 0, none⟩) rows.length cap
          rw [n1, Nat.add_zero, ← hspot]
        · unfold Typed
          rw [hu]
          refine .inr (.inr ⟨_, cap, rows, rfl, by omega, by omega, hcap, ?_, fun r hr => ⟨(t1 r hr).1, ?_⟩⟩)
          · rw [← List.append_assoc, List.getElem?_append_right (Nat.le_refl _)]; simp
          · have := (t1 r hr).2.more (ext := [.cells .ro rows.flatten])
            simpa using this
    · rename_i fs hu
      simp only [Bool.and_eq_true, List.all_eq_true, List.contains_iff_mem, beq_iff_eq] at hok
      obtain ⟨hf, htile⟩ := hok
      obtain ⟨xs, m, hm, _, hl, hxl, hxs⟩ := DataW.trod_struct hu h
      cases hm
      have hb := (tile_le htile).2
      obtain ⟨β', ext, ys, r1, a1, l1, p1, _, t1⟩ := fields_open (n := n) htile hl hr ha (fun f hfm β st hr ha => by
        obtain ⟨i, hi, e'⟩ := List.getElem_of_mem hfm
        have hi' : fs[i]? = some f := by
          have : i < fs.size := by simpa using hi
          rw [Array.getElem?_eq_getElem this]
          have : fs.toList[i] = fs[i] := by simp
          rw [← this, e']
        have h1 := hxs i f hi'
        have h2 : xs[i]? = some (xs[i]'(by rw [hxl]; simpa using hi)) := List.getElem?_eq_getElem _
        rw [h2] at h1
        exact open_cells hS n (hf f hfm) h1 hr ha) (fun f hfm => by rw [hl]; exact hb f hfm)
      refine ⟨β', ext, ys, r1, a1, l1, by simpa using p1, ?_⟩
      unfold Typed
      rw [hu]
      refine ⟨?_, fun f hfm => ?_⟩
      · have := p1.length
        simp at this
        omega
      · have := (t1 f hfm).2
        simpa using this
    · cases hok

end
end Go.CP

namespace Go.CP
open Go.ChangeShapes Go.WideShapes Go.ChangeAt Go.RowKit

def isStructT (P : Program) (t : TypeId) : Bool := match P.underlying t with
  | some (.struct _) => true
  | _ => false

/-- An argument of a type. -/
def TypedA (P : Program) (st : LState) (t : TypeId) (x : LV) : Prop := ∃ n cs, x = (if isStructT P t = true then .agg cs else x) ∧ (isStructT P t = false → cs = [x]) ∧ Typed P st n t cs

def TypedAs (P : Program) (st : LState) : List TypeId → List LV → Prop
  | [], xs => xs = []
  | t :: ts, xs => ∃ x xs', xs = x :: xs' ∧ TypedA P st t x ∧ TypedAs P st ts xs'

section
variable {H : Type} {enc : TypeId × Value → H} {P : Program} {w0 w : World} {base : Nat} {sp : Nat → Bool} {held : Bool}

theorem TypedA.more {st ext : LState} {t : TypeId} {x : LV} (h : TypedA P st t x) : TypedA P (st ++ ext) t x :=
  let ⟨n, cs, h1, h2, h3⟩ := h; ⟨n, cs, h1, h2, h3.more⟩

theorem open_args {S : List TypeId} (hS : S.all (okT P S) = true) : ∀ {ts : List TypeId} {vs : List Value} {ds : List (DataW H)} {ps : List MemPlace} {β : Lay} {st : LState}, (∀ t ∈ ts, t ∈ S) →
    DataW.TrodAll enc P w base sp held ts vs ds ps → (∀ (j : Nat) t v, ts[j]? = some t → vs[j]? = some v → Value.okWide P w .any 0 t v) → Rel w0 β st w → allRo st →
    ∃ β' ext xs, Rel w0 β' (st ++ ext) w ∧ allRo (st ++ ext) ∧ β.le β' ∧ Rps β' xs vs ∧ TypedAs P (st ++ ext) ts xs
  | [], vs, ds, ps, β, st, _, h, _, hr, ha => by
    obtain ⟨rfl, rfl, _⟩ : vs = [] ∧ ds = [] ∧ ps = [] := by
      cases vs <;> cases ds <;> simp_all [DataW.TrodAll]
    exact ⟨β, [], [], by simpa using hr, by simpa using ha, Lay.le.refl _, rfl, rfl⟩
  | t :: ts, vs, ds, ps, β, st, hts, h, hv, hr, ha => by
    obtain ⟨v, vs', d, ds', p, q, rfl, rfl, rfl, ⟨fuel, h1⟩, h2⟩ := trodAll_cons h
    have hval := hv 0 t v rfl rfl
    obtain ⟨β1, e1, cs, r1, a1, l1, p1, t1⟩ := open_cells hS fuel (hts t (by simp)) h1 hr ha
    obtain ⟨β2, e2, xs, r2, a2, l2, p2, t2⟩ := open_args hS (fun t ht => hts t (List.mem_cons_of_mem _ ht)) h2 (fun j t v a b => hv (j + 1) t v (by simpa using a) (by simpa using b)) r1 a1
    have hok := List.all_eq_true.1 hS t (hts t (by simp))
    have one : ∀ {u : Value}, v = u → u.cells.toList = [u] → isStructT P t = false → ∃ x, Rp β1 x v ∧ TypedA P (st ++ e1) t x := by
      intro u e hu hs
      subst e
      rw [hu] at p1
      obtain ⟨y, us, rfl, hy, e'⟩ : ∃ y us, cs = y :: us ∧ Rp β1 y v ∧ us = [] := by
        cases cs with
        | nil => simp only [Rps] at p1; cases p1
        | cons y us =>
          obtain ⟨v', us', e1, e2, e3⟩ := p1
          simp only [List.cons.injEq] at e1
          obtain ⟨rfl, rfl⟩ := e1
          cases us with
          | nil => exact ⟨y, [], rfl, e2, rfl⟩
          | cons z zs => obtain ⟨_, _, e4, _⟩ := e3; cases e4
      subst e'
      exact ⟨y, hy, fuel, [y], by simp [hs], fun _ => rfl, t1⟩
    have arg : ∃ x, Rp β1 x v ∧ TypedA P (st ++ e1) t x := by
      unfold okT at hok
      split at hok
      · rename_i hu
        obtain ⟨b, rfl⟩ := okWide_bool hu hval
        exact one rfl rfl (by simp [isStructT, hu])
      · rename_i k hu
        obtain ⟨b, rfl⟩ := okWide_int hu hval
        exact one rfl rfl (by simp [isStructT, hu])
      · rename_i hu
        obtain ⟨b, rfl⟩ := okWide_string hu hval
        exact one rfl rfl (by simp [isStructT, hu])
      · rename_i e hu
        obtain ⟨a, l, c, rfl⟩ := okWide_slice hu hval
        exact one rfl rfl (by simp [isStructT, hu])
      · rename_i fs hu
        obtain ⟨us, rfl, _⟩ := okWide_struct hu hval
        exact ⟨.agg cs, ⟨us.toList, rfl, p1⟩, fuel, cs, by simp [isStructT, hu], by simp [isStructT, hu], t1⟩
      · cases hok
    obtain ⟨x, hx, tx⟩ := arg
    refine ⟨β2, e1 ++ e2, x :: xs, by simpa using r2, by simpa using a2, l1.trans l2, ⟨v, vs', rfl, hx.mono l2, p2⟩, x, xs, rfl, ?_, by simpa using t2⟩
    have := tx.more (ext := e2)
    simpa using this

/-- Arguments read as they did. -/
theorem trodAll_below (hl : laidOutB P = true) {W W' : World} (hb : Below W.heap.size W W') : ∀ {ts : List TypeId} {vs : List Value} {ds : List (DataW H)} {ps : List MemPlace}, (ts.all fun t => P.readableRec t && decide (t < P.types.size)) = true →
    DataW.TrodAll enc P W 0 (fun _ => true) true ts vs ds ps → (∀ x ∈ ps, x.block < W.heap.size) → DataW.TrodAll enc P W' 0 (fun b => decide (b < W.heap.size)) true ts vs ds ps
  | [], vs, ds, ps, _, h, _ => by
    cases vs <;> cases ds <;> simp_all [DataW.TrodAll]
  | t :: ts, vs, ds, ps, hr, h, hlt => by
    obtain ⟨v, vs', d, ds', p, q, rfl, rfl, rfl, h1, h2⟩ := trodAll_cons h
    simp only [List.all_cons, Bool.and_eq_true, decide_eq_true_eq] at hr
    exact ⟨p, q, Below.trod hl hr.1.1 hr.1.2 h1 hb (fun x hx => hlt x (List.mem_append.2 (.inl hx))), trodAll_below hl hb hr.2 h2 (fun x hx => hlt x (List.mem_append.2 (.inr hx))), rfl⟩

theorem trodAll_len : ∀ {ts : List TypeId} {vs : List Value} {ds : List (DataW H)} {ps : List MemPlace}, DataW.TrodAll enc P w base sp held ts vs ds ps → ds.length = ts.length
  | [], vs, ds, ps, h => by cases vs <;> cases ds <;> simp_all [DataW.TrodAll]
  | t :: ts, vs, ds, ps, h => by
    obtain ⟨v, vs', d, ds', p, q, rfl, rfl, rfl, h1, h2⟩ := trodAll_cons h
    simp [trodAll_len h2]

/-- A law's row: its walk, of arguments as they are. -/
theorem law_step {f : FuncId} {F : Func} {s : ChangeSpec} {apart fresh handsOn : Bool} {W : World} {args : Array Value} {ds gs : List (DataW H)} {before : List MemPlace} (S : List TypeId) (tb : TypeId)
    (hS : S.all (okT P S) = true) (hts : F.params.toList.all S.contains = true) (hlaid : laidOutB P = true) (hrd : (F.params.toList.all fun t => P.readableRec t && decide (t < P.types.size)) = true)
    (hres : F.resultTypes.toList = [tb]) (htb : P.underlying tb = some .bool) (hsz : F.resultTypes.size = 1) (hvs : s.vars = [])
    (hspec : ∀ ds : List (DataW H), ds.length = F.params.toList.length → (s.fn H ds).results = [.lit (.bool true)] ∧ (s.fn H ds).args = ds ∧ (s.fn H ds).vars = [])
    (hfn : P.funcs[f]? = some F) (hbody : F.body.isSome = true) (hname : (F.name == "runtime.NumGoroutine") = false)
    (hval : ∀ (j : Nat) t v, F.params[j]? = some t → args[j]? = some v → Value.okWide P W .any 0 t v)
    (hW : DataW.Whole enc P F.params.toList s.vars apart W args.toList ds gs before)
    (law : ∀ xs st, allRo st → TypedAs P st F.params.toList xs → LCalls P f xs st fun r _ => r = .bool true) :
    Calls P f args W fun e W' => ∃ v, e = .returned v ∧ s.post enc P F apart fresh handsOn false W args v W' := by
  have hW' := hW
  obtain ⟨p, q, hA, hV, rfl, hfz, hnd⟩ := hW
  rw [hvs] at hV
  obtain ⟨rfl, rfl⟩ := trodVars_none hV
  have hlen := trodAll_len hA
  obtain ⟨e1, e2, e3⟩ := hspec (ds ++ []) (by simpa using hlen)
  obtain ⟨β, st, xs, hr, ha, _, hp, ht⟩ := open_args (w0 := W) hS (fun t h => by simpa using List.all_eq_true.1 hts t h) hA (fun j t v a b => hval j t v (by simpa using a) (by simpa using b)) (Rel.init W) (by intro y hy; simp at hy)
  rw [List.nil_append] at hr ha ht
  obtain ⟨bc, hbc⟩ := Option.isSome_iff_exists.1 hbody
  have hcall := LCalls.law ⟨F, bc, hfn, hbc, hname⟩ (law xs st ha ht) hr hp
  refine hcall.mono fun e W' ⟨he, hb⟩ => ?_
  have hlt : ∀ x ∈ p, x.block < W.heap.size := fun x hx => hW'.lt x (List.mem_append.2 (.inl hx))
  refine ⟨_, he, ds, [], p ++ [], [], p, [], hW', ?_, ?_, ?_, hb.frame _, fun h => by cases h⟩
  · rw [e1, hres, hsz]
    exact trodAll_cons_mk (shut_bool htb _) trodAll_mk0
  · rw [e2, List.append_nil]
    exact trodAll_below hlaid hb hrd hA hlt
  · rw [hvs, e3]; rfl

end
end Go.CP

