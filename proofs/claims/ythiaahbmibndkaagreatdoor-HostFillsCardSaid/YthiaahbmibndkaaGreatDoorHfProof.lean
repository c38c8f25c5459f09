/- For every input the law of the full host returns true: of any number of providers eight are taken; of any number of commands as many as wait. -/
import Derived.Test.YthiaahbmibndkaaGreatDoorRows
import Derived.Test.YthiaahbmibndkaaGreatDoorTie
import Derived.Test.YthiaahbmibndkaaGreatDoorCards
import Derived.Test.YthiaahbmibndkaaGreatDoorHfLaw
import Derived.WalkKit
import Derived.ProofKit
import Derived.OpenShut
import Derived.LaidMore
import Derived.Lay
import Derived.Stop.Joined
import Derived.SevenTiedAt
namespace Go.Proofs.YthiaahbmibndkaaGreatDoor.hostFills
open Go.ChangeShapes Go.WideShapes Go.ChangeAt Go.WideMaps Go.WideElems Go.RowKit

theorem own : ownKnob Tryz.prog.godebug = none := by kernel_rfl
theorem w1 : Tryz.checked.prog.inits.idxOf? 3 = none := by kernel_rfl
theorem w2 (os : Os) : World.variablesZipB Tryz.checked.prog ((World.laidAll Tryz.prog os Rows.hostFillsRow.laid).forCall (fun _ _ => 0) { blocks := #[], args := #[.int .u8 0, .int .u8 0, .agg #[.int .i64 0, .bool false, .int .i64 0, .int .i64 0, .string .empty, .slice none 0 0, .slice none 0 0]] }) = true := by kernel_rfl
theorem w3 (os : Os) : List.take ((begin Tryz.checked.prog (fun _ _ => 0) default).world.heap.size - Tryz.checked.prog.globals.size)
    (List.drop Tryz.checked.prog.globals.size ((World.laidAll Tryz.prog os Rows.hostFillsRow.laid).forCall (fun _ _ => 0) { blocks := #[], args := #[.int .u8 0, .int .u8 0, .agg #[.int .i64 0, .bool false, .int .i64 0, .int .i64 0, .string .empty, .slice none 0 0, .slice none 0 0]] }).heap.toList) = List.drop Tryz.checked.prog.globals.size (begin Tryz.checked.prog (fun _ _ => 0) default).world.heap.toList := by kernel_rfl
theorem w4 (os : Os) : Input.okWideB Tryz.checked.prog ((World.laidAll Tryz.prog os Rows.hostFillsRow.laid).forCall (fun _ _ => 0) { blocks := #[], args := #[.int .u8 0, .int .u8 0, .agg #[.int .i64 0, .bool false, .int .i64 0, .int .i64 0, .string .empty, .slice none 0 0, .slice none 0 0]] }) 3 { blocks := #[], args := #[.int .u8 0, .int .u8 0, .agg #[.int .i64 0, .bool false, .int .i64 0, .int .i64 0, .string .empty, .slice none 0 0, .slice none 0 0]] } = true := by kernel_rfl
theorem w5 (os : Os) (H : Type) (enc : TypeId × Value → H) : ChangeSpec.preB enc Tryz.checked.prog Tryz.f3 Rows.hostFillsSpec [] false ((World.laidAll Tryz.prog os Rows.hostFillsRow.laid).forCall (fun _ _ => 0) { blocks := #[], args := #[.int .u8 0, .int .u8 0, .agg #[.int .i64 0, .bool false, .int .i64 0, .int .i64 0, .string .empty, .slice none 0 0, .slice none 0 0]] }).memory #[.int .u8 0, .int .u8 0, .agg #[.int .i64 0, .bool false, .int .i64 0, .int .i64 0, .string .empty, .slice none 0 0, .slice none 0 0]] 8 = true := by kernel_rfl
theorem w6 (os : Os) (H : Type) (enc : TypeId × Value → H) : ChangeSpec.sizedB enc Tryz.checked.prog Tryz.f3 Rows.hostFillsSpec false ((World.laidAll Tryz.prog os Rows.hostFillsRow.laid).forCall (fun _ _ => 0) { blocks := #[], args := #[.int .u8 0, .int .u8 0, .agg #[.int .i64 0, .bool false, .int .i64 0, .int .i64 0, .string .empty, .slice none 0 0, .slice none 0 0]] }).memory #[.int .u8 0, .int .u8 0, .agg #[.int .i64 0, .bool false, .int .i64 0, .int .i64 0, .string .empty, .slice none 0 0, .slice none 0 0]] 8 = true := by kernel_rfl
theorem w7 : (Rows.hostFillsRow.laid.all fun x => x.snd.handleName?.isNone) = true := by kernel_rfl
theorem w8 (os : Os) : World.layFits Tryz.prog (World.holding Tryz.prog os { blocks := #[], args := #[] }) Rows.hostFillsRow.laid [] = true := by kernel_rfl
theorem w9 (os : Os) : World.layIfaces Tryz.prog (World.holding Tryz.prog os { blocks := #[], args := #[] }) Rows.hostFillsRow.laid (World.laidAll Tryz.prog os Rows.hostFillsRow.laid) = true := by kernel_rfl
theorem o1 : ([5, 25, 3, 4, 9, 22, 23] : List TypeId).all (CP.okT Tryz.checked.prog [5, 25, 3, 4, 9, 22, 23]) = true := by kernel_rfl
theorem o2 : Tryz.f3.params.toList.all ([5, 25, 3, 4, 9, 22, 23] : List TypeId).contains = true := by kernel_rfl
theorem o3 : laidOutB Tryz.checked.prog = true := by kernel_rfl
theorem o4 : (Tryz.f3.params.toList.all fun t => Tryz.checked.prog.readableRec t && decide (t < Tryz.checked.prog.types.size)) = true := by kernel_rfl
theorem o5 : Tryz.checked.prog.underlying 4 = some TypeDesc.bool := by kernel_rfl

theorem spec_fn {H : Type} : ∀ ds : List (DataW H), ds.length = Tryz.f3.params.toList.length → (Rows.hostFillsSpec.fn H ds).results = [.lit (.bool true)] ∧ (Rows.hostFillsSpec.fn H ds).args = ds ∧ (Rows.hostFillsSpec.fn H ds).vars = []
  | [_, _, _], _ => ⟨rfl, rfl, rfl⟩
  | [], h => by rw [Tryz.params3] at h; simp at h
  | [_], h => by rw [Tryz.params3] at h; simp at h
  | [_, _], h => by rw [Tryz.params3] at h; simp at h
  | _ :: _ :: _ :: _ :: _, h => by rw [Tryz.params3] at h; simp at h

set_option maxRecDepth 100000 in
theorem lifted (os : Os) (started : os.Started) (H : Type) (enc : TypeId × Value → H) :
    ReturnsInHanded {} Tryz.checked os 3 .any (fun w args => (Rows.hostFillsSpec.pre enc Tryz.prog Tryz.f3 [] false w args ∧ laidMetH Tryz.prog Rows.hostFillsRow.laid w) ∧ sizedMet enc Tryz.prog Tryz.f3 (OpenSpec.ofChange Rows.hostFillsSpec) false w args)
      (Rows.hostFillsSpec.post enc Tryz.prog Tryz.f3 false true false false) := by
  refine returnsInHanded_of_change_and (C := Tryz.checked) (X := fun w _ => laidMetH Tryz.prog Rows.hostFillsRow.laid w) (fun _ _ _ hh h => h.of_heap hh) own started w1 Tryz.func3
    (ChangeSpec.witness_shaped (enc := enc) (C := Tryz.checked) (os := os) (X := fun w _ => laidMetH Tryz.prog Rows.hostFillsRow.laid w) false (World.laidAll Tryz.prog os Rows.hostFillsRow.laid) #[.int .u8 0, .int .u8 0, .agg #[.int .i64 0, .bool false, .int .i64 0, .int .i64 0, .string .empty, .slice none 0 0, .slice none 0 0]] 8 (World.laidAll_os _ _ _)
      (World.shaped_of_ZipB (w2 os) (w3 os)) (w4 os) (w5 os H enc) (w6 os H enc)
      (by rw [MakeChecks.laidMetH_plain _ _ _ w7]; exact laidMet_laidAll _ (w8 os) (w9 os))) ?_
  intro W base args ds gs before hval0 hW _ _ hL _
  exact Go.CP.law_step [5, 25, 3, 4, 9, 22, 23] 4 o1 o2 o3 o4 (by kernel_rfl) o5 (by kernel_rfl) rfl spec_fn Tryz.func3 (by kernel_rfl) (by kernel_rfl)
    (fun j t v a b => hval0 j t v a b) hW hostFills_law

theorem joined_of {P : Program} {f : FuncId} {fn : Func} {s : ChangeSpec} {c : OpenClaim} (h1 : c.wf (OpenSpec.ofChange s) = true) (h2 : laidOutB P = true) (h3 : mapsRowed P = true)
    (h4 : (fn.params.all (P.readableRec ·) && namedTie P c.named s.vars) = true) (h5 : ((c.stops == []) && (P.stops == []) && (c.knobs == []) && (P.stopKnobs == [])) = true)
    (h6 : (c.inPlace == P.inPlace f) = true) (h7 : (c.unfollowed == P.unfollowed f) = true) (h8 : (c.recurses == P.recurses f) = true) (h9 : (c.named == P.varsNamed f) = true)
    (h10 : ((c.maps == (fn.params.toList ++ s.plain.varTypes P).any (P.mapsRec ·)) && (c.ifaces == (fn.params.toList ++ s.plain.varTypes P).any (P.ifacesRec ·)) && (c.mapsOut == P.mapsAmong fn.resultTypes.toList)) = true)
    (h11 : ((c.loops == (fn.params.toList ++ s.plain.varTypes P).any (P.loopsFrom ·)) && (c.wideKeys == (fn.params.toList ++ s.plain.varTypes P ++ fn.resultTypes.toList).any (P.wideKeysFrom ·))) = true)
    (h12 : (s.vars.all (P.varReadable ·) && fn.resultTypes.all (fun t => P.readableRec t && decide (t < P.types.size)) && (c.ifacesOut == fn.resultTypes.toList.any (P.ifacesRec ·)) && (c.loopsOut == fn.resultTypes.toList.any (P.loopsFrom ·))) = true)
    (h13 : ((c.veiled == (fn.params.toList ++ s.plain.varTypes P ++ fn.resultTypes.toList).any (P.veiledRec ·)) && c.veiledFits P fn.params.toList (fn.params.toList ++ s.plain.varTypes P ++ fn.resultTypes.toList)) = true)
    (h14 : ((c.plainKeys == P.plainKeys) && c.shortTexts.isNone && P.stopsHeard) = true) (h15 : (P.mayEnter && (c.lifted == P.liftsFinal)) = true)
    (h16 : ((P.make == some c.make) && (c.kinds == (if c.domain.isEmpty then [] else fn.params.toList.map fun t => match P.underlying t with | some (.int k) => some k | _ => none)) && (c.pinned == c.pinnedBy)) = true) :
    joinedFacts P f fn s c = true := by
  simp only [Bool.and_eq_true] at h4 h5 h10 h11 h12 h13 h14 h15 h16
  obtain ⟨a1, a2⟩ := h4
  obtain ⟨⟨⟨b1, b2⟩, b3⟩, b4⟩ := h5
  obtain ⟨⟨c1, c2⟩, c3⟩ := h10
  obtain ⟨d1, d2⟩ := h11
  obtain ⟨⟨⟨e1, e2⟩, e3⟩, e4⟩ := h12
  obtain ⟨g1, g2⟩ := h13
  obtain ⟨⟨p1, p2⟩, p3⟩ := h14
  obtain ⟨q1, q2⟩ := h15
  obtain ⟨⟨r1, r2⟩, r3⟩ := h16
  unfold joinedFacts
  rw [h1, h2, h3, a1, a2, b1, b2, b3, b4, h6, h7, h8, h9, c1, c2, c3, d1, d2, e1, e2, e3, e4, g1, g2, p1, p2, p3, q1, q2, r1, r3]
  simp only [Bool.true_and, Bool.and_true]
  exact r2

theorem j1 : Rows.hostFillsRow.wf (OpenSpec.ofChange Rows.hostFillsSpec) = true := by kernel_rfl
theorem j3 : mapsRowed Tryz.prog = true := by kernel_rfl
theorem j4 : (Tryz.f3.params.all (Tryz.prog.readableRec ·) && namedTie Tryz.prog Rows.hostFillsRow.named Rows.hostFillsSpec.vars) = true := by kernel_rfl
theorem j5 : ((Rows.hostFillsRow.stops == []) && (Tryz.prog.stops == []) && (Rows.hostFillsRow.knobs == []) && (Tryz.prog.stopKnobs == [])) = true := by kernel_rfl
theorem j6 : (Rows.hostFillsRow.inPlace == Tryz.prog.inPlace 3) = true := by kernel_rfl
theorem j7 : (Rows.hostFillsRow.unfollowed == Tryz.prog.unfollowed 3) = true := by kernel_rfl
theorem j8 : (Rows.hostFillsRow.recurses == Tryz.prog.recurses 3) = true := by kernel_rfl
theorem j9 : (Rows.hostFillsRow.named == Tryz.prog.varsNamed 3) = true := by kernel_rfl
theorem j10 : ((Rows.hostFillsRow.maps == (Tryz.f3.params.toList ++ Rows.hostFillsSpec.plain.varTypes Tryz.prog).any (Tryz.prog.mapsRec ·)) && (Rows.hostFillsRow.ifaces == (Tryz.f3.params.toList ++ Rows.hostFillsSpec.plain.varTypes Tryz.prog).any (Tryz.prog.ifacesRec ·)) && (Rows.hostFillsRow.mapsOut == Tryz.prog.mapsAmong Tryz.f3.resultTypes.toList)) = true := by kernel_rfl
theorem j11 : ((Rows.hostFillsRow.loops == (Tryz.f3.params.toList ++ Rows.hostFillsSpec.plain.varTypes Tryz.prog).any (Tryz.prog.loopsFrom ·)) && (Rows.hostFillsRow.wideKeys == (Tryz.f3.params.toList ++ Rows.hostFillsSpec.plain.varTypes Tryz.prog ++ Tryz.f3.resultTypes.toList).any (Tryz.prog.wideKeysFrom ·))) = true := by kernel_rfl
theorem j12 : (Rows.hostFillsSpec.vars.all (Tryz.prog.varReadable ·) && Tryz.f3.resultTypes.all (fun t => Tryz.prog.readableRec t && decide (t < Tryz.prog.types.size)) && (Rows.hostFillsRow.ifacesOut == Tryz.f3.resultTypes.toList.any (Tryz.prog.ifacesRec ·)) && (Rows.hostFillsRow.loopsOut == Tryz.f3.resultTypes.toList.any (Tryz.prog.loopsFrom ·))) = true := by kernel_rfl
theorem j13 : ((Rows.hostFillsRow.veiled == (Tryz.f3.params.toList ++ Rows.hostFillsSpec.plain.varTypes Tryz.prog ++ Tryz.f3.resultTypes.toList).any (Tryz.prog.veiledRec ·)) && Rows.hostFillsRow.veiledFits Tryz.prog Tryz.f3.params.toList (Tryz.f3.params.toList ++ Rows.hostFillsSpec.plain.varTypes Tryz.prog ++ Tryz.f3.resultTypes.toList)) = true := by kernel_rfl
theorem j14 : ((Rows.hostFillsRow.plainKeys == Tryz.prog.plainKeys) && Rows.hostFillsRow.shortTexts.isNone && Tryz.prog.stopsHeard) = true := by kernel_rfl
theorem j15 : (Tryz.prog.mayEnter && (Rows.hostFillsRow.lifted == Tryz.prog.liftsFinal)) = true := by kernel_rfl
theorem j16 : ((Tryz.prog.make == some Rows.hostFillsRow.make) && (Rows.hostFillsRow.kinds == (if Rows.hostFillsRow.domain.isEmpty then [] else Tryz.f3.params.toList.map fun t => match Tryz.prog.underlying t with | some (.int k) => some k | _ => none)) && (Rows.hostFillsRow.pinned == Rows.hostFillsRow.pinnedBy)) = true := by kernel_rfl
theorem joined : joinedFacts Tryz.prog 3 Tryz.f3 Rows.hostFillsSpec Rows.hostFillsRow = true := joined_of j1 o3 j3 j4 j5 j6 j7 j8 j9 j10 j11 j12 j13 j14 j15 j16
theorem n1 : Tryz.prog.funcNamed "flange/flangelaw27.HostFills" = some 3 := by kernel_rfl
theorem n2 : Tryz.prog.funcNamed Rows.hostFillsRow.func = some 3 := n1
theorem n3 : decide (Func.isInstance Tryz.prog Tryz.f3 Rows.hostFillsRow.origin Rows.hostFillsRow.targs) = true := by kernel_rfl

theorem over : Rows.hostFillsRow.holds Tryz.pinned (OpenSpec.ofChange Rows.hostFillsSpec) :=
  OpenClaim.holds_of_wide 3 Tryz.f3 rfl rfl rfl rfl rfl rfl rfl ⟨rfl, rfl, rfl, rfl, rfl⟩ rfl rfl rfl rfl rfl n2 Tryz.func3 joined
    (of_decide_eq_true n3) (by unfold Func.isWrapper; first | (rw [if_pos (by decide +kernel)]; kernel_rfl) | (rw [if_neg (by decide +kernel)]; exact ⟨rfl, rfl⟩))
    (fun os started H enc _ => lifted os started H enc)

theorem q1 : OpenClaim.wfByText (OpenSpec.ofChange Rows.hostFillsSpec) Rows.hostFillsRow = true := by kernel_rfl
theorem q2 : Tryz.prog.mainIs = some ((true, "9c929d1e3ae6f4c3dea9555080270080bb1018e49e8d0f4c7ffeeb46bd51f05b").fst, (true, "9c929d1e3ae6f4c3dea9555080270080bb1018e49e8d0f4c7ffeeb46bd51f05b").snd.toList) := by kernel_rfl
theorem q3 : true = Tryz.prog.looks [] := by kernel_rfl
theorem q4 : (Tryz.f3.params.toList.all fun u => !Tryz.prog.wantsStandIn u) = true := by kernel_rfl
theorem goes_none {P : Program} {c : OpenClaim} (h : P.funcs.any Func.goes = false) (hs : c.start = .entering) : false = c.goesBy P := by
  have hg : ∀ f, P.goes f = false := by
    intro f
    unfold Program.goes
    have h1 : ∀ g : FuncId, ((P.funcs[g]?).any Func.goes) = false := by
      intro g
      cases hg : P.funcs[g]? with
      | none => rfl
      | some fn =>
        rw [Array.any_eq_false] at h
        obtain ⟨hi, e⟩ := Array.getElem?_eq_some_iff.1 hg
        have := h g hi
        rw [e] at this
        simpa using this
    simp [h, h1]
  unfold OpenClaim.goesBy Program.goesAt Program.goesFrom
  rw [hs]
  cases P.funcNamed c.func with
  | none => rfl
  | some f => simp [hg f]
theorem q5 : false = Rows.hostFillsRow.goesBy Tryz.prog := goes_none (by kernel_rfl) rfl

/-- The statement: the tied card. -/
theorem proved : Rows.HostFillsCardSaid :=
  Claim7.holds_tied_plain_at .later [] [.data, .data, .data, .sentinel, .sentinel] true (true, "9c929d1e3ae6f4c3dea9555080270080bb1018e49e8d0f4c7ffeeb46bd51f05b") true
    over (fun _ h => by cases h) q1 (fun _ h => by cases h) hostFills_row_tie rfl ⟨rfl, rfl⟩ q2 rfl
    (fun f fn hf hfn => by
      obtain rfl : f = 3 := Option.some.inj (n1.symm.trans hf) |>.symm
      obtain rfl : fn = Tryz.f3 := (Option.some.inj (Tryz.func3.symm.trans hfn)).symm
      exact ⟨q3, fun j t ht => by
        have hm : t ∈ Tryz.f3.params.toList := by simpa using Array.mem_of_getElem? ht
        exact (show Tryz.prog.wantsStandIn t = false by simpa using List.all_eq_true.1 q4 t hm)⟩)
    q5
#print axioms proved
end Go.Proofs.YthiaahbmibndkaaGreatDoor.hostFills
