/- Walks over the clean machine: what each function does, printed by a program of this work (cmp.py) out of the loaded functions; each is checked by the kernel. -/
import Derived.Test.YtoilmigdaamboaaGreatDoorLiW3
namespace Go.Proofs.YtoilmigdaamboaaGreatDoor
open Go Go.CM
set_option maxRecDepth 100000

/-- flange.lint.Name -/
def w5 (a0 : LV) (R : LV → LState → Prop) (st : LState) : Prop :=
  bd (bInt BinOp.lss a0 (LV.int IntKind.i64 0)) fun v0 =>
    bsel v0 (R (LV.str []) st)
      (bd (bInt BinOp.geq a0 (LV.int IntKind.i64 8)) fun v1 =>
        bsel v1 (R (LV.str []) st)
          (bd
            (mkAgg
              (lfill (fun i => some (i * 1, 1)) [LV.str [], LV.str [], LV.str [], LV.str [], LV.str [], LV.str [], LV.str [], LV.str []]
                [(0, LV.str [97, 100, 100, 114, 101, 115, 115]), (1, LV.str [116, 119, 105, 99, 101]), (2, LV.str [107, 105, 110, 100]), (3, LV.str [115, 104, 97, 112, 101]),
                  (4, LV.str [110, 101, 101, 100, 115]), (5, LV.str [114, 105, 110, 103]), (6, LV.str [109, 105, 115, 115, 105, 110, 103]), (7, LV.str [116, 104, 101, 114, 101])]))
            fun v2 => bd (ixAgg 8 (fun x j => fld1 (j * 1) x) v2 a0) fun v3 => R v3 st))
theorem w5_eq (a0 : LV) (R : LV → LState → Prop) (st : LState) : levT Tryz.prog [.tmp 2] R [] [] 3000 [.code (bodyOf Tryz.f5)] ([a0] ++ List.replicate (Tryz.f5.ntmps - 1) lundef) st = w5 a0 R st := by kernel_rfl
theorem c5 (a0 : LV) {R : LV → LState → Prop} {st : LState} (h : w5 a0 R st) : LCalls Tryz.prog 5 [a0] st R :=
  LCalls.of cm_mixed Tryz.func5 (show Tryz.f5.body = some (bodyOf Tryz.f5) by kernel_rfl) (by kernel_rfl) (show Tryz.f5.results.toList = [.tmp 2] by kernel_rfl) (levT_sound cm_mixed 3000 (Eq.mpr (w5_eq a0 R st) h))

end Go.Proofs.YtoilmigdaamboaaGreatDoor
