/- Walks over the clean machine: what each function does, printed by a program of this work (cmp.py) out of the loaded functions; each is checked by the kernel. -/
import Derived.Test.YtgpllhhgfbkakaaGreatDoorHoW3
namespace Go.Proofs.YtgpllhhgfbkakaaGreatDoor
open Go Go.CM
set_option maxRecDepth 100000

/-- (*flange.host.Host).Feed -/
def w8 (a0 a1 a2 : LV) (R : LV → LState → Prop) (st : LState) : Prop :=
  bd2 (lbox st a0) fun v0 st1 =>
    bd2 (lbox st1 a2) fun v2 st3 =>
      bd (ld1 st3 v0) fun v4 =>
        LCalls Tryz.prog 25 [v4, a1, LV.fn (Fn.func 28) [] [v2, v0]] st3 fun v5 st6 => bd (lextract v5 0) fun v7 => bd (lextract v5 1) fun v8 => R (LV.tup [v7, v8]) st6
theorem w8_eq (a0 a1 a2 : LV) (R : LV → LState → Prop) (st : LState) : levT Tryz.prog [.tmp 6, .tmp 7] R [] [] 3000 [.code (bodyOf Tryz.f8)] ([a0, a1, a2] ++ List.replicate (Tryz.f8.ntmps - 3) lundef) st = w8 a0 a1 a2 R st := by kernel_rfl
theorem c8 (a0 a1 a2 : LV) {R : LV → LState → Prop} {st : LState} (h : w8 a0 a1 a2 R st) : LCalls Tryz.prog 8 [a0, a1, a2] st R :=
  LCalls.of cm_mixed Tryz.func8 (show Tryz.f8.body = some (bodyOf Tryz.f8) by kernel_rfl) (by kernel_rfl) (show Tryz.f8.results.toList = [.tmp 6, .tmp 7] by kernel_rfl) (levT_sound cm_mixed 3000 (Eq.mpr (w8_eq a0 a1 a2 R st) h))

end Go.Proofs.YtgpllhhgfbkakaaGreatDoor
