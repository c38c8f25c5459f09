/- The clean machine, part 36: package-level variables that a row lists; contracts of the library, taken over. -/
import Derived.Test.YthiaahbmibndkaaGreatDoorCp35
import Derived.Test.YthiaahbmibndkaaGreatDoorCp33
import Derived.Lib.LaidU8
namespace Go.CP
open Go.ChangeShapes Go.WideShapes Go.ChangeAt Go.WideMaps Go.WideElems Go.RowKit

/-- What a package-level variable's cells hold. -/
def Gl (W : World) (p : Nat × List LV) : Prop := ∃ (c : Array Value) (e : TypeId) (fz : Nat × Nat), W.heap[p.1]? = some (.cells c e fz) ∧ p.2.length = c.size ∧ ∀ (i : Nat) (x : LV), p.2[i]? = some x → ∃ u, c[i]? = some u ∧ ∀ β, Rp β x u

/-- The store that a law begins with: what is known of these variables. -/
def glSt (gs : List (Nat × List LV)) : LState := gs.map fun p => .cells (.gl p.1 p.2.length) p.2

theorem Rel.gls {W : World} {gs : List (Nat × List LV)} (h : ∀ p ∈ gs, Gl W p) : ∃ β, Rel W β (glSt gs) W ∧ allRo (glSt gs) := by
  have hro : allRo (glSt gs) := by
    intro y hy
    obtain ⟨p, _, rfl⟩ := List.mem_map.1 hy
    rfl
  refine ⟨fun o => match gs[o]? with
    | some p => some ⟨p.1, 0, match W.heap[p.1]? with
      | some (.cells c _ _) => c.size
      | _ => 0⟩
    | none => none, ⟨Bw.refl _ _, ?_, ?_, ?_⟩, hro⟩
  · intro o ho
    have : gs[o]? = none := List.getElem?_eq_none (by simpa [glSt] using ho)
    simp only [this]
  · intro o x hx
    unfold glSt at hx
    rw [List.getElem?_map] at hx
    obtain ⟨p, hp, rfl⟩ := Option.map_eq_some_iff.1 hx
    obtain ⟨c, e, fz, hh, hl, hc⟩ := h p (List.mem_of_getElem? hp)
    refine ⟨⟨p.1, 0, c.size⟩, by simp only [hp, hh], c, e, fz, hh, by simp, Nat.le_of_eq hl, ?_, (fun k => by cases k), (by rintro t ⟨⟩), ?_⟩
    · intro i y hy
      obtain ⟨u, hu, r⟩ := hc i y hy
      exact ⟨u, by simpa using hu, r _⟩
    · rintro g n ⟨⟩; exact ⟨rfl, rfl, hl.symm⟩
  · intro o o' x x' b b' hx hr
    rw [hro x (List.mem_of_getElem? hx)] at hr; cases hr

theorem gl_tab {P : Program} {W : World} {l : List (String × DataW Unit)} {name : String} {k : IntKind} {zs : List Int} {g : Nat} {t e : TypeId} {n : Nat} (h : laidMet P l W) (hm : (name, Lib.tabData k zs) ∈ l)
    (hg : P.globalNamed name = some g) (hty : (P.globals[g]?).map (·.type) = some t) (ht : P.underlying t = some (.array n e)) (he : P.underlying e = some (.int k)) (hce : P.cellsOf e = 1) (hct : P.cellsOf t = n) :
    Gl W (g, zs.map fun z => .int k z) := by
  obtain ⟨g', t', cs, fuel, p, hg', ht', hvar, hd⟩ := Lib.laidMet.reads h hm
  obtain rfl := Option.some.inj (hg.symm.trans hg')
  obtain rfl := Option.some.inj (hty.symm.trans ht')
  have hcs := Lib.cells_of_tab ht he hce hct hd
  unfold World.var? at hvar
  rw [hg] at hvar
  simp only [Option.bind_some] at hvar
  split at hvar
  · rename_i c el fz hh
    have hcc : c = cs := Option.some.inj hvar
    subst hcc
    refine ⟨c, el, fz, hh, ?_, ?_⟩
    · rw [← Array.length_toList, hcs]; simp
    · intro i x hx
      rw [List.getElem?_map] at hx
      obtain ⟨z, hz, rfl⟩ := Option.map_eq_some_iff.1 hx
      refine ⟨.int k z, ?_, fun _ => rfl⟩
      rw [← Array.getElem?_toList, hcs, List.getElem?_map, hz]; rfl
  · cases hvar

theorem gl_iface {P : Program} {W : World} {l : List (String × DataW Unit)} {name nm : String} {d : DataW Unit} {g : Nat} {t : TypeId} {ms : Array (String × TypeId)} (h : laidMet P l W) (hm : (name, .iface nm d) ∈ l)
    (hg : P.globalNamed name = some g) (hty : (P.globals[g]?).map (·.type) = some t) (ht : P.underlying t = some (.interface ms)) :
    ∃ u, Gl W (g, [.iface u .junk]) := by
  obtain ⟨g', t', cs, fuel, p, hg', ht', hvar, hd⟩ := Lib.laidMet.reads h hm
  obtain rfl := Option.some.inj (hg.symm.trans hg')
  obtain rfl := Option.some.inj (hty.symm.trans ht')
  have hcs : ∃ u v, cs.toList = [.iface u v] := by
    cases fuel with
    | zero => simp [DataW.trod] at hd
    | succ fuel =>
      unfold DataW.trod at hd
      rw [ht] at hd
      split at hd <;> simp_all
  obtain ⟨u, v, hcs⟩ := hcs
  unfold World.var? at hvar
  rw [hg] at hvar
  simp only [Option.bind_some] at hvar
  split at hvar
  · rename_i c el fz hh
    have hcc : c = cs := Option.some.inj hvar
    subst hcc
    refine ⟨u, c, el, fz, hh, ?_, ?_⟩
    · rw [← Array.length_toList, hcs]; simp
    · intro i x hx
      cases i with
      | zero =>
        simp at hx; subst hx
        exact ⟨.iface u v, by rw [← Array.getElem?_toList, hcs]; rfl, fun _ => ⟨v, rfl, trivial⟩⟩
      | succ i => simp at hx
  · cases hvar

section
variable {H : Type} {enc : TypeId × Value → H} {P : Program}

/-- A law's row: its walk, of arguments as they are; st0: what is known of variables that the row lists. -/
theorem law_stepL {f : FuncId} {F : Func} {s : ChangeSpec} {apart fresh handsOn : Bool} {W : World} {args : Array Value} {ds gs : List (DataW H)} {before : List MemPlace} (S : List TypeId) (tb : TypeId)
    (hS : S.all (okT P S) = true) (hts : F.params.toList.all S.contains = true) (hlaid : laidOutB P = true) (hrd : (F.params.toList.all fun t => P.readableRec t && decide (t < P.types.size)) = true)
    (hres : F.resultTypes.toList = [tb]) (htb : P.underlying tb = some .bool) (hsz : F.resultTypes.size = 1) (hvs : s.vars = [])
    (hspec : ∀ ds : List (DataW H), ds.length = F.params.toList.length → (s.fn H ds).results = [.lit (.bool true)] ∧ (s.fn H ds).args = ds ∧ (s.fn H ds).vars = [])
    (hfn : P.funcs[f]? = some F) (hbody : F.body.isSome = true) (hname : (F.name == "runtime.NumGoroutine") = false)
    (hval : ∀ (j : Nat) t v, F.params[j]? = some t → args[j]? = some v → Value.okWide P W .any 0 t v)
    (hW : DataW.Whole enc P F.params.toList s.vars apart W args.toList ds gs before) (gl : List (Nat × List LV)) (hgl : ∀ p ∈ gl, Gl W p)
    (law : ∀ xs ext, allRo (glSt gl ++ ext) → TypedAs P (glSt gl ++ ext) F.params.toList xs → LCalls P f xs (glSt gl ++ ext) fun r _ => r = .bool true) :
    Calls P f args W fun e W' => ∃ v, e = .returned v ∧ s.post enc P F apart fresh handsOn false W args v W' := by
  have hW' := hW
  obtain ⟨p, q, hA, hV, rfl, hfz, hnd⟩ := hW
  rw [hvs] at hV
  obtain ⟨rfl, rfl⟩ := trodVars_none hV
  have hlen := trodAll_len hA
  obtain ⟨e1, e2, e3⟩ := hspec (ds ++ []) (by simpa using hlen)
  obtain ⟨β0, hr0, ha0⟩ := Rel.gls hgl
  obtain ⟨β, st, xs, hr, ha, _, hp, ht⟩ := open_args (w0 := W) hS (fun t h => by simpa using List.all_eq_true.1 hts t h) hA (fun j t v a b => hval j t v (by simpa using a) (by simpa using b)) hr0 ha0
  obtain ⟨bc, hbc⟩ := Option.isSome_iff_exists.1 hbody
  have hcall := LCalls.law ⟨F, bc, hfn, hbc, hname⟩ (law xs st ha ht) hr hp
  refine hcall.mono fun e W' ⟨he, hb⟩ => ?_
  have hlt : ∀ x ∈ p, x.block < W.heap.size := fun x hx => hW'.lt x (List.mem_append.2 (.inl hx))
  refine ⟨_, he, ds, [], p ++ [], [], p, [], hW', ?_, ?_, ?_, hb.frame _, fun h => by cases h⟩
  · rw [e1, hres, hsz]
    exact trodAll_cons_mk (shut_bool htb _) trodAll_mk0
  · rw [e2, List.append_nil]
    exact trodAll_below hlaid hb hrd hA hlt
  · rw [hvs, e3]; rfl

end

/-- A contract of the library: what it answers; below, nothing turns. -/
theorem LCalls.of_kit {P : Program} {f : FuncId} {xs : List LV} {st : LState} {v : LV} {R : LV → LState → Prop} (hc : Callable P f)
    (h : ∀ w0 β w vs, Rel w0 β st w → Rps β xs vs → Calls P f ⟨vs⟩ w fun e w' => ∃ u, e = .returned u ∧ Rp β v u ∧ Bw w.heap.size w w') (hR : R v st) : LCalls P f xs st R := by
  refine .inl ⟨hc, fun w0 β w vs h1 h2 => (h w0 β w vs h1 h2).mono ?_⟩
  rintro e w' ⟨u, rfl, hu, hb⟩
  exact ⟨β, v, st, u, hR, rfl, hu, h1.below_kept hb, Lay.le.refl _⟩

/-- A variable's cells in the world. -/
theorem Rel.gl_obj {w0 w : World} {β : Lay} {st : LState} {o g : Nat} {l : List LV} (h : Rel w0 β st w) (ho : st[o]? = some (.cells (.gl g l.length) l)) :
    ∃ (c : Array Value) (e : TypeId) (fz : Nat × Nat), w.heap[g]? = some (.cells c e fz) ∧ c.size = l.length ∧ ∀ (i : Nat) (x : LV), l[i]? = some x → ∃ u, c[i]? = some u ∧ Rp β x u := by
  obtain ⟨b, hb, c, e, fz, hh, hs, _, hc, hm⟩ := h.obj o _ ho
  obtain ⟨h1, h2, h3⟩ := hm.2.2 g _ rfl
  refine ⟨c, e, fz, by rw [← h1]; exact hh, by rw [hs, h2, h3, Nat.zero_add], fun i x hx => ?_⟩
  obtain ⟨u, hu, r⟩ := hc i x hx
  exact ⟨u, by rwa [h2, Nat.zero_add] at hu, r⟩

theorem Rel.gl_cell {w0 w : World} {β : Lay} {st : LState} {o g i : Nat} {l : List LV} {x : LV} (h : Rel w0 β st w) (ho : st[o]? = some (.cells (.gl g l.length) l)) (hi : l[i]? = some x) :
    ∃ u, w.cell? ⟨g, i, none⟩ = some u ∧ Rp β x u := by
  obtain ⟨c, e, fz, hh, _, hc⟩ := h.gl_obj ho
  obtain ⟨u, hu, r⟩ := hc i x hi
  exact ⟨u, by simp [World.cell?, hh, hu], r⟩

/-- A table, as the kit's contracts ask for it. -/
theorem Rel.gl_tab {w0 w : World} {β : Lay} {st : LState} {o g : Nat} {P : Program} {name : String} {k : IntKind} {zs : List Int} (h : Rel w0 β st w) (ho : st[o]? = some (.cells (.gl g zs.length) (zs.map fun z => .int k z)))
    (hg : P.globalNamed name = some g) : Lib.TabIs P w name k zs := by
  obtain ⟨c, e, fz, hh, hs, hc⟩ := h.gl_obj (l := zs.map fun z => .int k z) (by rwa [List.length_map])
  unfold Lib.TabIs World.var?
  simp only [hg, Option.bind_some, hh]
  congr 1
  apply Array.ext_getElem?
  intro i
  rw [show ((zs.map fun z => Value.int k z).toArray)[i]? = (zs[i]?).map (fun z => Value.int k z) by simp]
  cases hz : zs[i]? with
  | none =>
    have : zs.length ≤ i := List.getElem?_eq_none_iff.1 hz
    rw [Array.getElem?_eq_none (by rw [hs]; simpa using this)]; rfl
  | some z =>
    obtain ⟨u, hu, r⟩ := hc i (.int k z) (by rw [List.getElem?_map, hz]; rfl)
    rw [hu, show u = .int k z from r]; rfl

end Go.CP
