/- The clean machine, part 39: slices.Sorted(maps.Keys(m)), at maps whose keys are texts: the kit's contracts, taken over. -/
import Derived.Test.YthiaahbmibndkaaGreatDoorCp36
import Derived.Shelf.SlIter.Nil
namespace Go.CP
open Go.RowKit Go.Maps Go.Sort Go.Shelf Go.MapKept Go.WideElems

/-- The keys of a map, all of them texts. -/
def strsOf : List (LV × LV) → Option (List (List UInt8))
  | [] => some []
  | (.str s, _) :: es => (strsOf es).map (s :: ·)
  | _ => none

theorem entries_keys {β : Lay} : ∀ {es : List (LV × LV)} {l : List MapEntry} {ks : List (List UInt8)}, Entries β es l → strsOf es = some ks → l.map (·.key) = ks.map Go.Proofs.encStr
  | [], l, ks, he, h => by simp only [Entries] at he; subst he; simp [strsOf] at h; subst h; rfl
  | e :: es, l, ks, he, h => by
    obtain ⟨c, us, rfl, hc, hs⟩ := he
    obtain ⟨k, v⟩ := e
    unfold strsOf at h
    split at h
    · rename_i e0; simp at e0
    · rename_i s v' es' e0
      simp only [List.cons.injEq, Prod.mk.injEq] at e0
      obtain ⟨⟨rfl, rfl⟩, rfl⟩ := e0
      simp only [Option.map_eq_some_iff] at h
      obtain ⟨ks', h, rfl⟩ := h
      have := entries_keys hs h
      simp only [List.map_cons, this]
      have hk : c.key = .string ⟨⟨s⟩⟩ := hc.1
      rw [hk]
    · simp at h

/-- How an element reads: of no interest. -/
def rAny : Value → Option (DataW Unit × List MemPlace) := fun _ => some (.nil, [])

section
variable {w0 w : World} {β : Lay} {st : LState} {P : Program} {K : TypeId}

theorem rd_str (hK : P.underlying K = some .string) {x : MapEntry} {s : List UInt8} (hx : x.key = Go.Proofs.encStr s) (hs : s.length ≤ maxLen) : rd (H := Unit) P K rAny x = some (.string s, .nil) := by
  have hm : mapKey P K x.key = some (.string s) := by
    rw [hx]; unfold mapKey; rw [hK]
    show (if _ then _ else _) = _
    rw [if_pos (by simpa [ByteArray.size] using hs)]
  have : Go.keyOf P K x.key = some (.string s) := by unfold Go.keyOf; rw [hK]; exact hm
  unfold rd
  rw [this]; rfl

theorem Rel.ownsStr {o : Nat} {m : Md} {es : List (LV × LV)} {bs : List Nat} {n : Nat} {ks : List (List UInt8)} {b : Bl} (hK : P.underlying K = some .string) (h : Rel w0 β st w) (ho : st[o]? = some (.map m es bs n)) (hb : β o = some b)
    (hks : strsOf es = some ks) (hnd : ks.Nodup) (hlen : ∀ s ∈ ks, s.length ≤ maxLen) (hn : ks.length ≤ maxLen) :
    ∃ D0 : DataW Unit, w.ownsMap P K rAny b.blk ks.length D0 ∧ (strKeys D0).Perm ks ∧ Maps.size D0 = ks.length := by
  obtain ⟨c, hh, he, hst, _⟩ := h.mapAt ho hb
  have hkeys := entries_keys he hks
  have hcl : c.toList.length = ks.length := by have := congrArg List.length hkeys; simpa using this
  have hrd : ∀ x ∈ c.toList, ∃ s, s ∈ ks ∧ x.key = Go.Proofs.encStr s := by
    intro x hx
    have : x.key ∈ c.toList.map (·.key) := List.mem_map_of_mem hx
    rw [hkeys] at this
    obtain ⟨s, hs, e⟩ := List.mem_map.1 this
    exact ⟨s, hs, e.symm⟩
  have hrg : c.toList.map (rg (H := Unit) P K rAny) = ks.map fun s => (.string s, .nil) := by
    apply List.ext_getElem (by simpa using hcl)
    intro i h1 h2
    rw [List.getElem_map, List.getElem_map]
    have hi : i < ks.length := by simpa using h2
    have e1 : (c.toList.map (·.key))[i]'(by simpa using h1) = (ks.map Go.Proofs.encStr)[i]'(by simpa using hi) := by
      simp only [hkeys]
    rw [List.getElem_map, List.getElem_map] at e1
    unfold rg
    rw [rd_str hK e1 (hlen _ (List.getElem_mem _))]; rfl
  refine ⟨.map ((ks.map fun s => ((.string s : Lit), (.nil : DataW Unit))).foldr DataW.insert []), ⟨c, n, hh, ⟨?_, ⟨hst.1, hst.2, ?_⟩, ?_⟩, ?_, ?_⟩, ?_, ?_⟩
  · rw [← Array.length_toList, hcl]; exact hn
  · rw [hkeys]
    exact List.pairwise_map.2 (hnd.imp fun hne e => hne (encStr_inj e))
  · intro x hx
    obtain ⟨s, hs, e⟩ := hrd x hx
    exact ⟨_, rd_str hK e (hlen s hs)⟩
  · rw [← Array.length_toList, hcl]; exact Nat.le_refl _
  · rw [hrg]
  · have := (Go.WideShapes.sorted_perm (ks.map fun s => ((.string s : Lit), (.nil : DataW Unit)))).map (fun p => strOf p.1)
    unfold strKeys
    refine this.trans ?_
    rw [List.map_map]
    have e : ks.map ((fun p : Lit × DataW Unit => strOf p.1) ∘ fun s => ((.string s : Lit), (.nil : DataW Unit))) = ks := by
      conv => rhs; rw [← List.map_id ks]
      apply List.map_congr_left
      intro s _; rfl
    rw [e]
  · have := (Go.WideShapes.sorted_perm (ks.map fun s => ((.string s : Lit), (.nil : DataW Unit)))).length_eq
    simpa [Maps.size] using this

/-- maps.Keys, of whatever map: a function value over a new box. -/
theorem keys_spec {a g : FuncId} {M : TypeId} {x : LV} {R : LV → LState → Prop} (hc : Callable P a)
    (hk : ∀ (mb : Option Nat) (w : World), Calls P a #[.map mb] w fun e w' => e = .returned (.func (.func g) #[] #[.pointer (some ⟨w.heap.size, 0, none⟩)]) ∧ w' = w.alloc (.cells #[.map mb] M))
    (hx : x = .nilm ∨ ∃ o, x = .map o) (hR : R (.fn (.func g) [] [.ptr st.length 0]) (st ++ [.cells (.bt M) [x]])) : LCalls P a [x] st R := by
  refine .inl ⟨hc, fun w0 β w vs h1 h2 => ?_⟩
  obtain ⟨v, us, rfl, hv, hus⟩ := h2
  simp only [Rps] at hus; subst hus
  have hm : ∃ mb, v = .map mb := by
    rcases hx with rfl | ⟨o, rfl⟩
    · exact ⟨_, hv⟩
    · obtain ⟨b, _, rfl⟩ := hv; exact ⟨_, rfl⟩
  obtain ⟨mb, rfl⟩ := hm
  refine (hk mb w).mono ?_
  rintro e w' ⟨rfl, rfl⟩
  have hle : β.le (β.put st.length ⟨w.heap.size, 0, 1⟩) := Lay.le_put (h1.dom _ (Nat.le_refl _))
  refine ⟨_, _, _, _, hR, rfl, ⟨[], [_], rfl, rfl, _, _, rfl, ⟨_, Lay.put_same, rfl⟩, rfl⟩, (h1.grow _).push (b := ⟨w.heap.size, 0, 1⟩) ?_ ?_, hle⟩
  · intro o y b' hy hl hb'
    obtain ⟨b'', hb'', hlt⟩ := (h1.obj o y hy).live hl
    rw [hb'] at hb''; cases hb''
    show b'.blk ≠ w.heap.size
    omega
  · refine ⟨_, Lay.put_same, #[.map mb], M, (0, 0), by simp [alloc_heap], by simp, by simp, ?_, ?_⟩
    · intro i y hy
      cases i with
      | zero => simp at hy; subst hy; exact ⟨_, rfl, hv.mono hle⟩
      | succ i => simp at hy
    · refine ⟨fun _ => ⟨h1.below.size, fun j _ => by omega⟩, ?_, ?_⟩
      · rintro t ⟨⟩; exact ⟨rfl, rfl⟩
      · rintro _ _ ⟨⟩

/-- slices.Sorted, of the keys of a map. -/
theorem sorted_spec {c g : FuncId} {M : TypeId} {R : LV → LState → Prop} (hK : P.underlying K = some .string) (hc : Callable P c)
    (hsort : ∀ (lb : Array Value) (S : List (List UInt8) → Prop) (N : Nat) (w : World), N ≤ maxLen → N * 16 ≤ 140737488355328 → SeqGives Fence.wide 2 P g lb Go.Proofs.encStr S N w →
      Calls P c #[.func (.func g) #[] lb] w fun e w' => ∃ (v : Value) (ss : List (List UInt8)), e = .returned v ∧ S ss ∧
        w'.ownsRow w.heap.size K 1 v ss.length ((ss.mergeSort (fun x y => decide (x ≤ y))).map Go.Proofs.encStr) ∧ (v = .slice none 0 0 ↔ ss = []) ∧ Below w.heap.size w w')
    (hgives : ∀ (Bm b nn : Nat) (D0 : DataW Unit) (w : World), Bm < w.heap.size → w.cell? ⟨Bm, 0, none⟩ = some (.map (some b)) → w.ownsMap P K rAny b nn D0 →
      SeqGives Fence.wide 2 P g #[.pointer (some ⟨Bm, 0, none⟩)] Go.Proofs.encStr (fun ss => ss.Perm (strKeys D0)) (Maps.size D0) w)
    {o om : Nat} {m : Md} {es : List (LV × LV)} {bs : List Nat} {n : Nat} {ks : List (List UInt8)} (ho : st[o]? = some (.cells (.bt M) [.map om])) (hom : st[om]? = some (.map m es bs n)) (hks : strsOf es = some ks) (hnd : ks.Nodup)
    (hlen : ∀ s ∈ ks, s.length ≤ maxLen) (hn : ks.length ≤ maxLen) (hn' : ks.length * 16 ≤ 140737488355328)
    (hR0 : ks = [] → R .nils st) (hR1 : ks ≠ [] → R (.sl st.length 0 ks.length (.rest 1)) (st ++ [.cells .rw ((ks.mergeSort leB).map .str)])) : LCalls P c [.fn (.func g) [] [.ptr o 0]] st R := by
  refine .inl ⟨hc, fun w0 β w vs h1 h2 => ?_⟩
  obtain ⟨v, us, rfl, hv, hus⟩ := h2
  simp only [Rps] at hus; subst hus
  obtain ⟨fs, cs, rfl, hfs, hcs⟩ := hv
  simp only [Rps] at hfs; subst hfs
  obtain ⟨pv, us', rfl, ⟨b, hb, rfl⟩, hus'⟩ := hcs
  simp only [Rps] at hus'; subst hus'
  obtain ⟨b2, hb2, cc, e, fz, hh, _, _, hcell, hmd⟩ := h1.obj o _ ho
  rw [hb] at hb2; cases hb2
  have hbase : b.base = 0 := (hmd.2.1 M rfl).2
  obtain ⟨u, hu, hru⟩ := hcell 0 _ rfl
  obtain ⟨bm, hbm, rfl⟩ := hru
  rw [hbase] at hu ⊢
  have hlt : b.blk < w.heap.size := by rcases Nat.lt_or_ge b.blk w.heap.size with k | k; exact k; simp [Array.getElem?_eq_none k] at hh
  obtain ⟨D0, hown, hperm, hsz⟩ := h1.ownsStr hK hom hbm hks hnd hlen hn
  have hg := hgives b.blk bm.blk ks.length D0 w hlt (by simp only [World.cell?, hh]; exact hu) hown
  refine (hsort _ _ _ w (by rw [hsz]; exact hn) (by rw [hsz]; exact hn') hg).mono ?_
  rintro e' w' ⟨r, ss, rfl, hss, hrow, hnil, hbel⟩
  have hbw : Bw w.heap.size w w' := ⟨hbel⟩
  have hpk : ss.Perm ks := hss.trans hperm
  rcases Nat.eq_zero_or_pos ks.length with hz | hz
  · have hk0 : ks = [] := List.eq_nil_of_length_eq_zero hz
    subst hk0
    have : ss = [] := List.eq_nil_of_length_eq_zero (by rw [hpk.length_eq]; rfl)
    exact ⟨β, .nils, st, _, hR0 rfl, rfl, hnil.2 this, h1.below_kept hbw, Lay.le.refl _⟩
  · have hk1 : ks ≠ [] := by rintro rfl; simp at hz
    have hs1 : ss ≠ [] := by rintro rfl; have := hpk.length_eq; simp at this; omega
    rcases hrow.2 with ⟨rfl, _⟩ | ⟨gb, cap, cur, rfl, hgb, hgh, hc1, hc2, hc3, hc4⟩
    · exact absurd (hnil.1 rfl) hs1
    have hle : β.le (β.put st.length ⟨gb, 0, cap⟩) := Lay.le_put (h1.dom _ (Nat.le_refl _))
    have hms : ss.mergeSort leB = ks.mergeSort leB := mergeSort_of_perm hpk
    have hl : ss.length = ks.length := hpk.length_eq
    rw [Nat.mul_one] at hc3 hc4
    refine ⟨_, _, _, _, hR1 hk1, rfl, ⟨⟨gb, 0, cap⟩, Lay.put_same, ?_, ?_⟩, (h1.below_kept hbw).push (b := ⟨gb, 0, cap⟩) ?_ ?_, hle⟩
    · show ks.length ≤ (cap - 0) / 1
      rw [Nat.div_one]; omega
    · show Value.slice _ _ _ = Value.slice _ _ ((cap - 0) / 1)
      rw [Nat.div_one, hl]; rfl
    · intro o y b' hy hl hb'
      obtain ⟨b'', hb'', hlt⟩ := (h1.obj o y hy).live hl
      rw [hb'] at hb''; cases hb''
      show b'.blk ≠ gb
      omega
    · refine ⟨_, Lay.put_same, cur, K, (0, 0), hgh, by rw [hc3]; simp, by simp only [List.length_map, List.length_mergeSort]; omega, ?_, ?_⟩
      · intro i y hy
        rw [List.getElem?_map] at hy
        obtain ⟨s, hs, rfl⟩ := Option.map_eq_some_iff.1 hy
        refine ⟨.string ⟨⟨s⟩⟩, ?_, rfl⟩
        have hi : i < ss.length := by
          have := (List.getElem?_eq_some_iff.1 hs).1
          rw [List.length_mergeSort] at this; omega
        have e1 : (cur.toList.take ss.length)[i]? = some (Go.Proofs.encStr s) := by
          rw [hc4, List.getElem?_map]
          show Option.map _ ((ss.mergeSort leB)[i]?) = _
          rw [hms, hs]; rfl
        rw [List.getElem?_take_of_lt hi] at e1
        show cur[0 + i]? = _
        rw [Nat.zero_add, ← Array.getElem?_toList, e1]
      · exact ⟨fun _ => ⟨Nat.le_trans h1.below.size hgb, fun j _ => by omega⟩, (by rintro t ⟨⟩), (by rintro _ _ ⟨⟩)⟩

end
end Go.CP
