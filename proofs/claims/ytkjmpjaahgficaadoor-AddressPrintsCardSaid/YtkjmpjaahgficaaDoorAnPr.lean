/- For every input the law of printed addresses returns true: any address is printed, and read back; or it may not be. -/
import Derived.Test.YtkjmpjaahgficaaDoorRows
import Derived.Test.YtkjmpjaahgficaaDoorTie
import Derived.Test.YtkjmpjaahgficaaDoorCards
import Derived.Test.YtkjmpjaahgficaaDoorAnLaw
import Derived.WalkKit
import Derived.ProofKit
import Derived.OpenShut
import Derived.LaidMore
import Derived.Lay
import Derived.Stop.Joined
import Derived.SevenTiedAt
namespace Go.Proofs.YtkjmpjaahgficaaDoor.addressPrints
open Go.ChangeShapes Go.WideShapes Go.ChangeAt Go.WideMaps Go.WideElems Go.RowKit

theorem own : ownKnob Tryd.prog.godebug = none := by kernel_rfl

theorem spec_fn {H : Type} : ∀ ds : List (DataW H), ds.length = Tryd.f5.params.toList.length → (Rows.addressPrintsSpec.fn H ds).results = [.lit (.bool true)] ∧ (Rows.addressPrintsSpec.fn H ds).args = ds ∧ (Rows.addressPrintsSpec.fn H ds).vars = []
  | [_], _ => ⟨rfl, rfl, rfl⟩
  | [], h => by rw [Tryd.params5] at h; simp at h
  | _ :: _ :: _, h => by rw [Tryd.params5] at h; simp at h

set_option maxRecDepth 100000 in
theorem lifted (os : Os) (started : os.Started) (H : Type) (enc : TypeId × Value → H) :
    ReturnsInHanded {} Tryd.checked os 5 .any (fun w args => (Rows.addressPrintsSpec.pre enc Tryd.prog Tryd.f5 [] false w args ∧ laidMetH Tryd.prog Rows.addressPrintsRow.laid w) ∧ sizedMet enc Tryd.prog Tryd.f5 (OpenSpec.ofChange Rows.addressPrintsSpec) false w args)
      (Rows.addressPrintsSpec.post enc Tryd.prog Tryd.f5 false true false false) := by
  refine returnsInHanded_of_change_and (C := Tryd.checked) (X := fun w _ => laidMetH Tryd.prog Rows.addressPrintsRow.laid w) (fun _ _ _ hh h => h.of_heap hh) own started (by kernel_rfl) Tryd.func5
    (ChangeSpec.witness_shaped (enc := enc) (C := Tryd.checked) (os := os) (X := fun w _ => laidMetH Tryd.prog Rows.addressPrintsRow.laid w) false (World.laidAll Tryd.prog os Rows.addressPrintsRow.laid) #[.agg #[.string .empty, .string .empty, .string .empty, .int .i64 0]] 8 (World.laidAll_os _ _ _)
      (World.shaped_of_ZipB (by kernel_rfl) (by kernel_rfl)) (by kernel_rfl) (by kernel_rfl) (by kernel_rfl)
      (by rw [MakeChecks.laidMetH_plain _ _ _ (by kernel_rfl)]; exact laidMet_laidAll _ (by kernel_rfl) (by kernel_rfl))) ?_
  intro W base args ds gs before hval0 hW _ _ hL _
  rw [MakeChecks.laidMetH_plain _ _ _ (by kernel_rfl)] at hL
  obtain ⟨u, hu⟩ := gls_met hL (List.mem_iff_getElem?.2 ⟨2, rfl⟩) (List.mem_iff_getElem?.2 ⟨5, rfl⟩)
  exact Go.CN.law_stepL [9, 23, 3] 4 (by kernel_rfl) (by kernel_rfl) (by kernel_rfl) (by kernel_rfl) (by kernel_rfl) (by kernel_rfl) (by kernel_rfl) rfl spec_fn Tryd.func5 (by kernel_rfl) (by kernel_rfl)
    (fun j t v a b => hval0 j t v a b) hW (gls u) hu (addressPrints_law u)

theorem over : Rows.addressPrintsRow.holds Tryd.pinned (OpenSpec.ofChange Rows.addressPrintsSpec) :=
  OpenClaim.holds_of_wide 5 Tryd.f5 rfl rfl rfl rfl rfl rfl rfl ⟨rfl, rfl, rfl, rfl, rfl⟩ rfl rfl rfl rfl rfl (by kernel_rfl) Tryd.func5 (by kernel_rfl)
    (of_decide_eq_true (by kernel_rfl)) (by unfold Func.isWrapper; first | (rw [if_pos (by decide +kernel)]; kernel_rfl) | (rw [if_neg (by decide +kernel)]; exact ⟨rfl, rfl⟩))
    (fun os started H enc _ => lifted os started H enc)

/-- The statement: the tied card. -/
theorem proved : Rows.AddressPrintsCardSaid :=
  Claim7.holds_tied_plain_at .later [] [.data, .data, .data, .data, .sentinel, .sentinel, .pinned] true (true, "118a1b5b83c1a50e94f4bdc91271ef277e3807e137d4a9e14154a92a32edb1c6") true
    over (fun _ h => by cases h) (by kernel_rfl) (fun _ h => by cases h) addressPrints_row_tie rfl ⟨rfl, rfl⟩ (by kernel_rfl) rfl
    (fun f fn hf hfn => by
      obtain rfl : f = 5 := Option.some.inj ((show Tryd.prog.funcNamed "flange/flangelaw17.AddressPrints" = some 5 by kernel_rfl).symm.trans hf) |>.symm
      obtain rfl : fn = Tryd.f5 := (Option.some.inj (Tryd.func5.symm.trans hfn)).symm
      exact ⟨by kernel_rfl, fun j t ht => by
        have hm : t ∈ Tryd.f5.params.toList := by simpa using Array.mem_of_getElem? ht
        have hall : (Tryd.f5.params.toList.all fun u => !Tryd.prog.wantsStandIn u) = true := by kernel_rfl
        exact (show Tryd.prog.wantsStandIn t = false by simpa using List.all_eq_true.1 hall t hm)⟩)
    (by kernel_rfl)
#print axioms proved
end Go.Proofs.YtkjmpjaahgficaaDoor.addressPrints
