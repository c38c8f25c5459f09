/- Walks over the clean machine: what each function does, printed by a program of this work (cmp.py) out of the loaded functions; each is checked by the kernel. -/
import Derived.Test.YtkjmpjaahgficaaDoorProg
import Derived.Test.YtkjmpjaahgficaaDoorCo24
namespace Go.Proofs.YtkjmpjaahgficaaDoor
open Go Go.CO
set_option maxRecDepth 100000
theorem cm_mixed : Tryd.prog.follows .mixedOrders = true := by kernel_rfl
/-- the place 1 of f3 -/
def P3_1 (x0 x3 x5 x6 x7 x8 x9 : LV) (R : LV → LState → Prop) (st : LState) : Prop := LT Tryd.prog [.tmp 4] (pointN Tryd.f3 1) R [x0, .junk, .junk, x3, .junk, x5, x6, x7, x8, x9, .junk, .junk, .junk, .junk, .junk, .junk, .junk, .junk, .junk, .junk, .junk, .junk, .junk, .junk, .junk, .junk, .junk, .junk, .junk, .junk, .junk, .junk, .junk, .junk, .junk, .junk, .junk, .junk, .junk, .junk, .junk, .junk, .junk, .junk, .junk, .junk, .junk, .junk, .junk, .junk, .junk, .junk, .junk, .junk, .junk, .junk, .junk, .junk, .junk, .junk, .junk, .junk, .junk, .junk, .junk, .junk, .junk, .junk, .junk, .junk] st
/-- the place 1 of f6 -/
def P6_1 (x0 x3 x4 x6 x7 x8 : LV) (R : LV → LState → Prop) (st : LState) : Prop := LT Tryd.prog [.tmp 2] (pointN Tryd.f6 1) R [x0, .junk, .junk, x3, x4, .junk, x6, x7, x8, .junk, .junk, .junk, .junk, .junk, .junk, .junk, .junk, .junk, .junk, .junk, .junk, .junk, .junk, .junk, .junk, .junk, .junk, .junk, .junk, .junk, .junk, .junk, .junk, .junk, .junk, .junk, .junk, .junk, .junk, .junk, .junk, .junk, .junk, .junk, .junk, .junk, .junk, .junk, .junk, .junk, .junk, .junk, .junk, .junk, .junk, .junk, .junk, .junk, .junk, .junk, .junk, .junk, .junk, .junk, .junk, .junk, .junk, .junk, .junk, .junk, .junk, .junk, .junk, .junk, .junk, .junk, .junk, .junk, .junk, .junk, .junk, .junk, .junk, .junk, .junk, .junk, .junk, .junk, .junk, .junk, .junk, .junk, .junk, .junk, .junk, .junk, .junk, .junk, .junk, .junk, .junk, .junk, .junk, .junk, .junk, .junk, .junk, .junk, .junk, .junk, .junk, .junk] st
/-- the place 4 of f6 -/
def P6_4 (x0 x3 x4 x6 x7 x8 : LV) (R : LV → LState → Prop) (st : LState) : Prop := LT Tryd.prog [.tmp 2] (pointN Tryd.f6 4) R [x0, .junk, .junk, x3, x4, .junk, x6, x7, x8, .junk, .junk, .junk, .junk, .junk, .junk, .junk, .junk, .junk, .junk, .junk, .junk, .junk, .junk, .junk, .junk, .junk, .junk, .junk, .junk, .junk, .junk, .junk, .junk, .junk, .junk, .junk, .junk, .junk, .junk, .junk, .junk, .junk, .junk, .junk, .junk, .junk, .junk, .junk, .junk, .junk, .junk, .junk, .junk, .junk, .junk, .junk, .junk, .junk, .junk, .junk, .junk, .junk, .junk, .junk, .junk, .junk, .junk, .junk, .junk, .junk, .junk, .junk, .junk, .junk, .junk, .junk, .junk, .junk, .junk, .junk, .junk, .junk, .junk, .junk, .junk, .junk, .junk, .junk, .junk, .junk, .junk, .junk, .junk, .junk, .junk, .junk, .junk, .junk, .junk, .junk, .junk, .junk, .junk, .junk, .junk, .junk, .junk, .junk, .junk, .junk, .junk, .junk] st
/-- the place 7 of f6 -/
def P6_7 (x0 x3 x4 x6 x7 x8 : LV) (R : LV → LState → Prop) (st : LState) : Prop := LT Tryd.prog [.tmp 2] (pointN Tryd.f6 7) R [x0, .junk, .junk, x3, x4, .junk, x6, x7, x8, .junk, .junk, .junk, .junk, .junk, .junk, .junk, .junk, .junk, .junk, .junk, .junk, .junk, .junk, .junk, .junk, .junk, .junk, .junk, .junk, .junk, .junk, .junk, .junk, .junk, .junk, .junk, .junk, .junk, .junk, .junk, .junk, .junk, .junk, .junk, .junk, .junk, .junk, .junk, .junk, .junk, .junk, .junk, .junk, .junk, .junk, .junk, .junk, .junk, .junk, .junk, .junk, .junk, .junk, .junk, .junk, .junk, .junk, .junk, .junk, .junk, .junk, .junk, .junk, .junk, .junk, .junk, .junk, .junk, .junk, .junk, .junk, .junk, .junk, .junk, .junk, .junk, .junk, .junk, .junk, .junk, .junk, .junk, .junk, .junk, .junk, .junk, .junk, .junk, .junk, .junk, .junk, .junk, .junk, .junk, .junk, .junk, .junk, .junk, .junk, .junk, .junk, .junk] st
/-- the place 10 of f6 -/
def P6_10 (x0 x3 x4 x6 x7 x8 : LV) (R : LV → LState → Prop) (st : LState) : Prop := LT Tryd.prog [.tmp 2] (pointN Tryd.f6 10) R [x0, .junk, .junk, x3, x4, .junk, x6, x7, x8, .junk, .junk, .junk, .junk, .junk, .junk, .junk, .junk, .junk, .junk, .junk, .junk, .junk, .junk, .junk, .junk, .junk, .junk, .junk, .junk, .junk, .junk, .junk, .junk, .junk, .junk, .junk, .junk, .junk, .junk, .junk, .junk, .junk, .junk, .junk, .junk, .junk, .junk, .junk, .junk, .junk, .junk, .junk, .junk, .junk, .junk, .junk, .junk, .junk, .junk, .junk, .junk, .junk, .junk, .junk, .junk, .junk, .junk, .junk, .junk, .junk, .junk, .junk, .junk, .junk, .junk, .junk, .junk, .junk, .junk, .junk, .junk, .junk, .junk, .junk, .junk, .junk, .junk, .junk, .junk, .junk, .junk, .junk, .junk, .junk, .junk, .junk, .junk, .junk, .junk, .junk, .junk, .junk, .junk, .junk, .junk, .junk, .junk, .junk, .junk, .junk, .junk, .junk] st
/-- the place 1 of f7 -/
def P7_1 (x0 x3 x4 x5 x6 : LV) (R : LV → LState → Prop) (st : LState) : Prop := LT Tryd.prog [.tmp 2] (pointN Tryd.f7 1) R [x0, .junk, .junk, x3, x4, x5, x6, .junk, .junk, .junk, .junk, .junk, .junk, .junk, .junk, .junk, .junk, .junk, .junk, .junk, .junk, .junk, .junk, .junk, .junk, .junk, .junk, .junk, .junk, .junk, .junk, .junk, .junk, .junk, .junk, .junk, .junk, .junk, .junk, .junk, .junk, .junk, .junk, .junk, .junk, .junk, .junk, .junk, .junk, .junk, .junk, .junk, .junk, .junk, .junk, .junk, .junk, .junk, .junk, .junk, .junk, .junk, .junk, .junk, .junk, .junk, .junk, .junk, .junk, .junk, .junk, .junk, .junk, .junk, .junk, .junk, .junk, .junk, .junk, .junk, .junk, .junk, .junk] st
/-- the place 4 of f7 -/
def P7_4 (x0 x3 x4 x5 x6 : LV) (R : LV → LState → Prop) (st : LState) : Prop := LT Tryd.prog [.tmp 2] (pointN Tryd.f7 4) R [x0, .junk, .junk, x3, x4, x5, x6, .junk, .junk, .junk, .junk, .junk, .junk, .junk, .junk, .junk, .junk, .junk, .junk, .junk, .junk, .junk, .junk, .junk, .junk, .junk, .junk, .junk, .junk, .junk, .junk, .junk, .junk, .junk, .junk, .junk, .junk, .junk, .junk, .junk, .junk, .junk, .junk, .junk, .junk, .junk, .junk, .junk, .junk, .junk, .junk, .junk, .junk, .junk, .junk, .junk, .junk, .junk, .junk, .junk, .junk, .junk, .junk, .junk, .junk, .junk, .junk, .junk, .junk, .junk, .junk, .junk, .junk, .junk, .junk, .junk, .junk, .junk, .junk, .junk, .junk, .junk, .junk] st
/-- the place 1 of f12 -/
def P12_1 (x6 x23 x24 x25 : LV) (R : LV → LState → Prop) (st : LState) : Prop := LT Tryd.prog [.tmp 4] (pointN Tryd.f12 1) R [.junk, .junk, .junk, .junk, .junk, .junk, x6, .junk, .junk, .junk, .junk, .junk, .junk, .junk, .junk, .junk, .junk, .junk, .junk, .junk, .junk, .junk, .junk, x23, x24, x25, .junk, .junk, .junk, .junk, .junk, .junk, .junk, .junk, .junk, .junk, .junk, .junk, .junk, .junk, .junk] st
/-- the place 1 of f18 -/
def P18_1 (x2 x3 x5 : LV) (R : LV → LState → Prop) (st : LState) : Prop := LT Tryd.prog [.tmp 4] (pointN Tryd.f18 1) R [.junk, .junk, x2, x3, .junk, x5, .junk, .junk, .junk, .junk, .junk, .junk, .junk, .junk, .junk, .junk, .junk, .junk, .junk, .junk, .junk, .junk, .junk, .junk, .junk, .junk, .junk, .junk, .junk, .junk, .junk, .junk, .junk] st
/-- the place 1 of f21 -/
def P21_1 (x0 x3 x5 : LV) (R : LV → LState → Prop) (st : LState) : Prop := LT Tryd.prog [.tmp 4] (pointN Tryd.f21 1) R [x0, .junk, .junk, x3, .junk, x5, .junk, .junk, .junk, .junk, .junk, .junk, .junk, .junk, .junk, .junk, .junk, .junk] st
/-- the place 1 of f22 -/
def P22_1 (x0 x3 : LV) (R : LV → LState → Prop) (st : LState) : Prop := LT Tryd.prog [.tmp 2] (pointN Tryd.f22 1) R [x0, .junk, .junk, x3, .junk, .junk, .junk, .junk, .junk, .junk, .junk, .junk, .junk, .junk, .junk, .junk, .junk, .junk, .junk, .junk, .junk, .junk, .junk, .junk] st
/-- the place 1 of f33 -/
def P33_1 (x0 x6 x7 : LV) (R : LV → LState → Prop) (st : LState) : Prop := LT Tryd.prog [.tmp 2] (pointN Tryd.f33 1) R [x0, .junk, .junk, .junk, .junk, .junk, x6, x7, .junk, .junk, .junk, .junk, .junk, .junk, .junk, .junk, .junk, .junk, .junk, .junk, .junk, .junk, .junk, .junk, .junk, .junk, .junk, .junk, .junk, .junk, .junk, .junk, .junk, .junk, .junk, .junk, .junk, .junk, .junk, .junk] st
/-- the place 1 of f37 -/
def P37_1 (x3 x6 x7 x8 : LV) (R : LV → LState → Prop) (st : LState) : Prop := LT Tryd.prog [.tmp 2] (pointN Tryd.f37 1) R [.junk, .junk, .junk, x3, .junk, .junk, x6, x7, x8, .junk, .junk, .junk, .junk, .junk, .junk, .junk, .junk, .junk] st
/-- the place 1 of f38 -/
def P38_1 (x0 x1 x9 x10 x11 : LV) (R : LV → LState → Prop) (st : LState) : Prop := LT Tryd.prog [.tmp 4] (pointN Tryd.f38 1) R [x0, x1, .junk, .junk, .junk, .junk, .junk, .junk, .junk, x9, x10, x11, .junk, .junk, .junk, .junk, .junk, .junk, .junk, .junk, .junk, .junk, .junk, .junk, .junk, .junk, .junk, .junk, .junk, .junk, .junk, .junk, .junk, .junk, .junk, .junk] st
/-- the place 1 of f42 -/
def P42_1 (x0 x3 x4 x5 : LV) (R : LV → LState → Prop) (st : LState) : Prop := LT Tryd.prog [.tmp 2] (pointN Tryd.f42 1) R [x0, .junk, .junk, x3, x4, x5, .junk, .junk, .junk, .junk, .junk, .junk, .junk, .junk, .junk, .junk, .junk, .junk, .junk, .junk, .junk, .junk, .junk, .junk, .junk, .junk, .junk, .junk, .junk, .junk, .junk, .junk, .junk, .junk, .junk, .junk, .junk, .junk, .junk, .junk, .junk, .junk, .junk, .junk, .junk, .junk, .junk, .junk, .junk, .junk, .junk, .junk, .junk, .junk, .junk, .junk, .junk, .junk, .junk, .junk, .junk] st
/-- the place 4 of f42 -/
def P42_4 (x0 x3 x4 x5 : LV) (R : LV → LState → Prop) (st : LState) : Prop := LT Tryd.prog [.tmp 2] (pointN Tryd.f42 4) R [x0, .junk, .junk, x3, x4, x5, .junk, .junk, .junk, .junk, .junk, .junk, .junk, .junk, .junk, .junk, .junk, .junk, .junk, .junk, .junk, .junk, .junk, .junk, .junk, .junk, .junk, .junk, .junk, .junk, .junk, .junk, .junk, .junk, .junk, .junk, .junk, .junk, .junk, .junk, .junk, .junk, .junk, .junk, .junk, .junk, .junk, .junk, .junk, .junk, .junk, .junk, .junk, .junk, .junk, .junk, .junk, .junk, .junk, .junk, .junk] st
/-- the place 1 of f43 -/
def P43_1 (x0 x1 x2 x3 x9 x10 : LV) (R : LV → LState → Prop) (st : LState) : Prop := LT Tryd.prog [.tmp 8] (pointN Tryd.f43 1) R [x0, x1, x2, x3, .junk, .junk, .junk, .junk, .junk, x9, x10, .junk, .junk, .junk, .junk, .junk, .junk, .junk, .junk, .junk, .junk, .junk, .junk, .junk, .junk, .junk, .junk, .junk, .junk, .junk, .junk, .junk, .junk, .junk, .junk, .junk, .junk, .junk, .junk, .junk, .junk, .junk, .junk, .junk, .junk, .junk, .junk, .junk, .junk, .junk, .junk, .junk, .junk, .junk, .junk, .junk, .junk, .junk, .junk, .junk, .junk, .junk, .junk, .junk, .junk, .junk] st
/-- the place 1 of f55 -/
def P55_1 (x0 x1 x5 : LV) (R : LV → LState → Prop) (st : LState) : Prop := LT Tryd.prog [.tmp 4] (pointN Tryd.f55 1) R [x0, x1, .junk, .junk, .junk, x5, .junk, .junk, .junk, .junk, .junk, .junk, .junk, .junk, .junk, .junk, .junk, .junk, .junk, .junk, .junk, .junk, .junk, .junk, .junk, .junk, .junk, .junk, .junk, .junk, .junk, .junk, .junk, .junk] st
/-- the place 2 of f76 -/
def P76_2 (x0 x1 x5 x6 x7 x8 x9 x10 : LV) (R : LV → LState → Prop) (st : LState) : Prop := LT Tryd.prog [.tmp 4] (pointN Tryd.f76 2) R [x0, x1, .junk, .junk, .junk, x5, x6, x7, x8, x9, x10, .junk, .junk, .junk, .junk, .junk, .junk, .junk, .junk, .junk, .junk, .junk, .junk, .junk, .junk, .junk, .junk, .junk, .junk, .junk, .junk, .junk, .junk, .junk, .junk, .junk, .junk, .junk, .junk, .junk, .junk, .junk, .junk, .junk, .junk, .junk, .junk, .junk, .junk, .junk, .junk, .junk, .junk, .junk, .junk, .junk, .junk, .junk, .junk, .junk, .junk, .junk, .junk, .junk, .junk, .junk, .junk, .junk, .junk, .junk, .junk, .junk, .junk, .junk, .junk, .junk, .junk, .junk, .junk, .junk, .junk, .junk, .junk, .junk, .junk, .junk, .junk, .junk, .junk, .junk, .junk, .junk, .junk, .junk, .junk, .junk, .junk, .junk, .junk, .junk, .junk, .junk, .junk, .junk, .junk, .junk, .junk, .junk, .junk, .junk, .junk, .junk, .junk, .junk, .junk, .junk, .junk, .junk, .junk, .junk, .junk, .junk, .junk, .junk, .junk, .junk, .junk, .junk, .junk, .junk, .junk, .junk, .junk, .junk, .junk, .junk, .junk, .junk, .junk, .junk, .junk, .junk, .junk] st

/-- flange.flangelaw17.AddressMatches -/
def w3 (a0 a1 : LV) (R : LV → LState → Prop) (st : LState) : Prop :=
  bd2 (lbox st a1) fun v0 st1 =>
    bd (lenStr a0) fun v2 =>
      bd (bInt BinOp.gtr v2 (LV.int IntKind.i64 100)) fun v3 =>
        bsel v3 (LCalls Tryd.prog 9 [] st1 fun v4 st5 => R v4 st5)
          (bd (ldA st1 v0 4) fun v6 =>
            LCalls Tryd.prog 8 [v6] st1 fun v7 st8 =>
              bsel v7 (LCalls Tryd.prog 9 [] st8 fun v9 st10 => R v9 st10)
                (LCalls Tryd.prog 9 [] st8 fun v11 st12 =>
                  bd (lun UnOp.not v11) fun v13 =>
                    bsel v13 (LCalls Tryd.prog 9 [] st12 fun v14 st15 => R v14 st15)
                      (bd (ldA st12 v0 4) fun v16 =>
                        LCalls Tryd.prog 10 [v16] st12 fun v17 st18 =>
                          nw st18 [LV.str [], LV.str [], LV.str [], LV.int IntKind.i64 0] fun v19 st20 =>
                            bd2 (lmk (stV st20 4 v19 v17)) fun _v21 st22 =>
                              bd (ldA st22 v19 4) fun v23 =>
                                LCalls Tryd.prog 11 [v23] st22 fun v24 st25 =>
                                  P3_1 a0 v0 v19 v24 (LV.int IntKind.i64 0) (LV.int IntKind.i64 0) (LV.int IntKind.i64 0) R
                                    st25)))
theorem w3_eq (a0 a1 : LV) (R : LV → LState → Prop) (st : LState) : levT Tryd.prog [.tmp 4] R [1, 2, 4, 10, 11, 12, 13, 14, 15, 16, 17, 18, 19, 20, 21, 22, 23, 24, 25, 26, 27, 28, 29, 30, 31, 32, 33, 34, 35, 36, 37, 38, 39, 40, 41, 42, 43, 44, 45, 46, 47, 48, 49, 50, 51, 52, 53, 54, 55, 56, 57, 58, 59, 60, 61, 62, 63, 64, 65, 66, 67, 68, 69] [] 3000 [.code (bodyOf Tryd.f3)] ([a0, a1] ++ List.replicate (Tryd.f3.ntmps - 2) lundef) st = w3 a0 a1 R st := by kernel_rfl
theorem c3 (a0 a1 : LV) {R : LV → LState → Prop} {st : LState} (h : w3 a0 a1 R st) : LCalls Tryd.prog 3 [a0, a1] st R :=
  LCalls.of cm_mixed Tryd.func3 (show Tryd.f3.body = some (bodyOf Tryd.f3) by kernel_rfl) (by kernel_rfl) (show Tryd.f3.results.toList = [.tmp 4] by kernel_rfl) (levT_sound cm_mixed 3000 (Eq.mpr (w3_eq a0 a1 R st) h))

/-- flange.flangelaw17.AddressMatches, from point 1 on -/
def w3_1 (x0 x3 x5 x6 x7 x8 x9 : LV) (R : LV → LState → Prop) (st : LState) : Prop :=
  bd (lenStr x0) fun v0 =>
    bd (bInt BinOp.leq x9 v0) fun v1 =>
      bsel v1
        (bd (lenStr x0) fun v2 =>
          bd (bInt BinOp.lss x9 v2) fun v3 =>
            bsel v3
              (bd (ixStr x0 x9) fun v4 =>
                bd (bInt BinOp.neq v4 (LV.int IntKind.u8 46)) fun v5 =>
                  bsel v5
                    (bd (bInt BinOp.add x9 (LV.int IntKind.i64 1)) fun v6 =>
                      P3_1 x0 x3 x5 x6 x7 x8 v6 R
                        st)
                    (bd (ob3 (some x8) (some x9) none fun l h m => slStr x0 l h m) fun v7 =>
                      bd (bInt BinOp.add x9 (LV.int IntKind.i64 1)) fun v8 =>
                        bd (bInt BinOp.gtr x7 (LV.int IntKind.i64 2)) fun v9 =>
                          bsel v9 (bd (ldA st x3 4) fun v10 => LCalls Tryd.prog 12 [x0, v10] st fun v11 st12 => bd (bBool BinOp.eql v11 (LV.bool false)) fun v13 => R v13 st12)
                            (bd (bStr BinOp.neq v7 (LV.str [42])) fun v14 =>
                              bsel v14
                                (bd (fAddr 0 x5) fun v15 =>
                                  bd (ixArr 3 1 v15 x7) fun v16 =>
                                    bd (ld1 st v16) fun v17 =>
                                      bd (bStr BinOp.neq v7 v17) fun v18 =>
                                        bsel v18
                                          (bd (ldA st x3 4) fun v19 =>
                                            LCalls Tryd.prog 12 [x0, v19] st fun v20 st21 => bd (bBool BinOp.eql v20 (LV.bool false)) fun v22 => R v22 st21)
                                          (bd (bInt BinOp.add x7 (LV.int IntKind.i64 1)) fun v23 =>
                                            bd (bInt BinOp.add x9 (LV.int IntKind.i64 1)) fun v24 =>
                                              P3_1 x0 x3 x5 x6 v23 v8 v24 R
                                                st))
                                (bd (bInt BinOp.add x7 (LV.int IntKind.i64 1)) fun v25 =>
                                  bd (bInt BinOp.add x9 (LV.int IntKind.i64 1)) fun v26 =>
                                    P3_1 x0 x3 x5 x6 v25 v8 v26 R
                                      st))))
              (bd (ob3 (some x8) (some x9) none fun l h m => slStr x0 l h m) fun v27 =>
                bd (bInt BinOp.add x9 (LV.int IntKind.i64 1)) fun v28 =>
                  bd (bInt BinOp.gtr x7 (LV.int IntKind.i64 2)) fun v29 =>
                    bsel v29 (bd (ldA st x3 4) fun v30 => LCalls Tryd.prog 12 [x0, v30] st fun v31 st32 => bd (bBool BinOp.eql v31 (LV.bool false)) fun v33 => R v33 st32)
                      (bd (bStr BinOp.neq v27 (LV.str [42])) fun v34 =>
                        bsel v34
                          (bd (fAddr 0 x5) fun v35 =>
                            bd (ixArr 3 1 v35 x7) fun v36 =>
                              bd (ld1 st v36) fun v37 =>
                                bd (bStr BinOp.neq v27 v37) fun v38 =>
                                  bsel v38
                                    (bd (ldA st x3 4) fun v39 => LCalls Tryd.prog 12 [x0, v39] st fun v40 st41 => bd (bBool BinOp.eql v40 (LV.bool false)) fun v42 => R v42 st41)
                                    (bd (bInt BinOp.add x7 (LV.int IntKind.i64 1)) fun v43 =>
                                      bd (bInt BinOp.add x9 (LV.int IntKind.i64 1)) fun v44 =>
                                        P3_1 x0 x3 x5 x6 v43 v28 v44 R
                                          st))
                          (bd (bInt BinOp.add x7 (LV.int IntKind.i64 1)) fun v45 =>
                            bd (bInt BinOp.add x9 (LV.int IntKind.i64 1)) fun v46 =>
                              P3_1 x0 x3 x5 x6 v45 v28 v46 R
                                st))))
        (bd (ldA st x3 4) fun v47 => LCalls Tryd.prog 12 [x0, v47] st fun v48 st49 => bd (bBool BinOp.eql v48 x6) fun v50 => R v50 st49)
theorem w3_1_eq (x0 x3 x5 x6 x7 x8 x9 : LV) (R : LV → LState → Prop) (st : LState) : levT Tryd.prog [.tmp 4] R [1, 2, 4, 10, 11, 12, 13, 14, 15, 16, 17, 18, 19, 20, 21, 22, 23, 24, 25, 26, 27, 28, 29, 30, 31, 32, 33, 34, 35, 36, 37, 38, 39, 40, 41, 42, 43, 44, 45, 46, 47, 48, 49, 50, 51, 52, 53, 54, 55, 56, 57, 58, 59, 60, 61, 62, 63, 64, 65, 66, 67, 68, 69] [] 3000 (stepIn (pointN Tryd.f3 1)) [x0, .junk, .junk, x3, .junk, x5, x6, x7, x8, x9, .junk, .junk, .junk, .junk, .junk, .junk, .junk, .junk, .junk, .junk, .junk, .junk, .junk, .junk, .junk, .junk, .junk, .junk, .junk, .junk, .junk, .junk, .junk, .junk, .junk, .junk, .junk, .junk, .junk, .junk, .junk, .junk, .junk, .junk, .junk, .junk, .junk, .junk, .junk, .junk, .junk, .junk, .junk, .junk, .junk, .junk, .junk, .junk, .junk, .junk, .junk, .junk, .junk, .junk, .junk, .junk, .junk, .junk, .junk, .junk] st = w3_1 x0 x3 x5 x6 x7 x8 x9 R st := by kernel_rfl
theorem p3_1 (x0 x3 x5 x6 x7 x8 x9 : LV) {R : LV → LState → Prop} {st : LState} (h : w3_1 x0 x3 x5 x6 x7 x8 x9 R st) : P3_1 x0 x3 x5 x6 x7 x8 x9 R st :=
  LT.at cm_mixed 3000 (Eq.mpr (w3_1_eq x0 x3 x5 x6 x7 x8 x9 R st) h)

/-- flange.flangelaw17.AddressOrders -/
def w6 (a0 : LV) (R : LV → LState → Prop) (st : LState) : Prop :=
  bd (lenSl a0) fun v0 =>
    bd (bInt BinOp.gtr v0 (LV.int IntKind.i64 30)) fun v1 =>
      bsel v1 (LCalls Tryd.prog 9 [] st fun v2 st3 => R v2 st3)
        (LCalls Tryd.prog 9 [] st fun v4 st5 =>
          bd (lun UnOp.not v4) fun v6 =>
            bsel v6 (LCalls Tryd.prog 9 [] st5 fun v7 st8 => R v7 st8)
              (P6_1 a0 (LV.int IntKind.i64 0) (LV.tup []) (LV.tup []) (LV.tup []) (LV.tup []) R
                st5))
theorem w6_eq (a0 : LV) (R : LV → LState → Prop) (st : LState) : levT Tryd.prog [.tmp 2] R [1, 2, 5, 9, 10, 11, 12, 13, 14, 15, 16, 17, 18, 19, 20, 21, 22, 23, 24, 25, 26, 27, 28, 29, 30, 31, 32, 33, 34, 35, 36, 37, 38, 39, 40, 41, 42, 43, 44, 45, 46, 47, 48, 49, 50, 51, 52, 53, 54, 55, 56, 57, 58, 59, 60, 61, 62, 63, 64, 65, 66, 67, 68, 69, 70, 71, 72, 73, 74, 75, 76, 77, 78, 79, 80, 81, 82, 83, 84, 85, 86, 87, 88, 89, 90, 91, 92, 93, 94, 95, 96, 97, 98, 99, 100, 101, 102, 103, 104, 105, 106, 107, 108, 109, 110, 111] [] 3000 [.code (bodyOf Tryd.f6)] ([a0] ++ List.replicate (Tryd.f6.ntmps - 1) lundef) st = w6 a0 R st := by kernel_rfl
theorem c6 (a0 : LV) {R : LV → LState → Prop} {st : LState} (h : w6 a0 R st) : LCalls Tryd.prog 6 [a0] st R :=
  LCalls.of cm_mixed Tryd.func6 (show Tryd.f6.body = some (bodyOf Tryd.f6) by kernel_rfl) (by kernel_rfl) (show Tryd.f6.results.toList = [.tmp 2] by kernel_rfl) (levT_sound cm_mixed 3000 (Eq.mpr (w6_eq a0 R st) h))

/-- flange.flangelaw17.AddressOrders, from point 1 on -/
def w6_1 (x0 x3 x4 x6 x7 x8 : LV) (R : LV → LState → Prop) (st : LState) : Prop :=
  bd (lenSl x0) fun v0 =>
    bd (bInt BinOp.lss x3 v0) fun v1 =>
      bsel v1
        (bd (ixSl 4 x0 x3) fun v2 =>
          bd (ldA st v2 4) fun v3 =>
            LCalls Tryd.prog 8 [v3] st fun v4 st5 =>
              bsel v4 (R (LV.bool true) st5)
                (P6_4 x0 x3 (LV.int IntKind.i64 0) x6 x7 x8 R
                  st5))
        (LCalls Tryd.prog 20 [x0] st fun v6 st7 =>
          P6_7 x0 x3 x4 v6 (LV.int IntKind.i64 0) x8 R
            st7)
theorem w6_1_eq (x0 x3 x4 x6 x7 x8 : LV) (R : LV → LState → Prop) (st : LState) : levT Tryd.prog [.tmp 2] R [1, 2, 5, 9, 10, 11, 12, 13, 14, 15, 16, 17, 18, 19, 20, 21, 22, 23, 24, 25, 26, 27, 28, 29, 30, 31, 32, 33, 34, 35, 36, 37, 38, 39, 40, 41, 42, 43, 44, 45, 46, 47, 48, 49, 50, 51, 52, 53, 54, 55, 56, 57, 58, 59, 60, 61, 62, 63, 64, 65, 66, 67, 68, 69, 70, 71, 72, 73, 74, 75, 76, 77, 78, 79, 80, 81, 82, 83, 84, 85, 86, 87, 88, 89, 90, 91, 92, 93, 94, 95, 96, 97, 98, 99, 100, 101, 102, 103, 104, 105, 106, 107, 108, 109, 110, 111] [] 3000 (stepIn (pointN Tryd.f6 1)) [x0, .junk, .junk, x3, x4, .junk, x6, x7, x8, .junk, .junk, .junk, .junk, .junk, .junk, .junk, .junk, .junk, .junk, .junk, .junk, .junk, .junk, .junk, .junk, .junk, .junk, .junk, .junk, .junk, .junk, .junk, .junk, .junk, .junk, .junk, .junk, .junk, .junk, .junk, .junk, .junk, .junk, .junk, .junk, .junk, .junk, .junk, .junk, .junk, .junk, .junk, .junk, .junk, .junk, .junk, .junk, .junk, .junk, .junk, .junk, .junk, .junk, .junk, .junk, .junk, .junk, .junk, .junk, .junk, .junk, .junk, .junk, .junk, .junk, .junk, .junk, .junk, .junk, .junk, .junk, .junk, .junk, .junk, .junk, .junk, .junk, .junk, .junk, .junk, .junk, .junk, .junk, .junk, .junk, .junk, .junk, .junk, .junk, .junk, .junk, .junk, .junk, .junk, .junk, .junk, .junk, .junk, .junk, .junk, .junk, .junk] st = w6_1 x0 x3 x4 x6 x7 x8 R st := by kernel_rfl
theorem p6_1 (x0 x3 x4 x6 x7 x8 : LV) {R : LV → LState → Prop} {st : LState} (h : w6_1 x0 x3 x4 x6 x7 x8 R st) : P6_1 x0 x3 x4 x6 x7 x8 R st :=
  LT.at cm_mixed 3000 (Eq.mpr (w6_1_eq x0 x3 x4 x6 x7 x8 R st) h)

/-- flange.flangelaw17.AddressOrders, from point 4 on -/
def w6_4 (x0 x3 x4 x6 x7 x8 : LV) (R : LV → LState → Prop) (st : LState) : Prop :=
  bd (lenSl x0) fun v0 =>
    bd (bInt BinOp.lss x4 v0) fun v1 =>
      bsel v1
        (bd (ixSl 4 x0 x3) fun v2 =>
          bd (ldA st v2 4) fun v3 =>
            bd (ixSl 4 x0 x4) fun v4 =>
              bd (ldA st v4 4) fun v5 =>
                LCalls Tryd.prog 10 [v3] st fun v6 st7 =>
                  ldA st7 v4 4 = some v5 ∧
                    LCalls Tryd.prog 10 [v5] st7 fun v8 st9 =>
                      LCalls Tryd.prog 18 [v6, v8] st9 fun v10 st11 =>
                        bsel v10
                          (bd (ixSl 4 x0 x4) fun v12 =>
                            bd (ldA st11 v12 4) fun v13 =>
                              bd (ixSl 4 x0 x3) fun v14 =>
                                bd (ldA st11 v14 4) fun v15 =>
                                  LCalls Tryd.prog 10 [v13] st11 fun v16 st17 =>
                                    ldA st17 v14 4 = some v15 ∧
                                      LCalls Tryd.prog 10 [v15] st17 fun v18 st19 =>
                                        LCalls Tryd.prog 18 [v16, v18] st19 fun v20 st21 =>
                                          bsel v20
                                            (bd (ixSl 4 x0 x3) fun v22 =>
                                              bd (ldA st21 v22 4) fun v23 =>
                                                bd (ixSl 4 x0 x4) fun v24 =>
                                                  bd (ldA st21 v24 4) fun v25 =>
                                                    LCalls Tryd.prog 19 [v23, v25] st21 fun v26 st27 =>
                                                      bd (bInt BinOp.neq v26 (LV.int IntKind.i64 1)) fun v28 =>
                                                        bsel v28 (R (LV.bool false) st27)
                                                          (bd (bInt BinOp.add x4 (LV.int IntKind.i64 1)) fun v29 =>
                                                            P6_4 x0 x3 v29 x6 x7 x8 R
                                                              st27))
                                            (bd (ixSl 4 x0 x3) fun v30 =>
                                              bd (ldA st21 v30 4) fun v31 =>
                                                bd (ixSl 4 x0 x4) fun v32 =>
                                                  bd (ldA st21 v32 4) fun v33 =>
                                                    LCalls Tryd.prog 19 [v31, v33] st21 fun v34 st35 =>
                                                      bd (bInt BinOp.neq v34 (LV.int IntKind.i64 (-1))) fun v36 =>
                                                        bsel v36 (R (LV.bool false) st35)
                                                          (bd (bInt BinOp.add x4 (LV.int IntKind.i64 1)) fun v37 =>
                                                            P6_4 x0 x3 v37 x6 x7 x8 R
                                                              st35)))
                          (bd (ixSl 4 x0 x4) fun v38 =>
                            bd (ldA st11 v38 4) fun v39 =>
                              bd (ixSl 4 x0 x3) fun v40 =>
                                bd (ldA st11 v40 4) fun v41 =>
                                  LCalls Tryd.prog 10 [v39] st11 fun v42 st43 =>
                                    ldA st43 v40 4 = some v41 ∧
                                      LCalls Tryd.prog 10 [v41] st43 fun v44 st45 =>
                                        LCalls Tryd.prog 18 [v42, v44] st45 fun v46 st47 =>
                                          bsel v46
                                            (bd (ixSl 4 x0 x3) fun v48 =>
                                              bd (ldA st47 v48 4) fun v49 =>
                                                bd (ixSl 4 x0 x4) fun v50 =>
                                                  bd (ldA st47 v50 4) fun v51 =>
                                                    LCalls Tryd.prog 19 [v49, v51] st47 fun v52 st53 =>
                                                      bd (bInt BinOp.neq v52 (LV.int IntKind.i64 1)) fun v54 =>
                                                        bsel v54 (R (LV.bool false) st53)
                                                          (bd (bInt BinOp.add x4 (LV.int IntKind.i64 1)) fun v55 =>
                                                            P6_4 x0 x3 v55 x6 x7 x8 R
                                                              st53))
                                            (bd (ixSl 4 x0 x3) fun v56 =>
                                              bd (ldA st47 v56 4) fun v57 =>
                                                bd (ixSl 4 x0 x4) fun v58 =>
                                                  bd (ldA st47 v58 4) fun v59 =>
                                                    LCalls Tryd.prog 19 [v57, v59] st47 fun v60 st61 =>
                                                      bd (bInt BinOp.neq v60 (LV.int IntKind.i64 0)) fun v62 =>
                                                        bsel v62 (R (LV.bool false) st61)
                                                          (bd (bInt BinOp.add x4 (LV.int IntKind.i64 1)) fun v63 =>
                                                            P6_4 x0 x3 v63 x6 x7 x8 R
                                                              st61))))
        (bd (bInt BinOp.add x3 (LV.int IntKind.i64 1)) fun v64 =>
          P6_1 x0 v64 x4 x6 x7 x8 R
            st)
theorem w6_4_eq (x0 x3 x4 x6 x7 x8 : LV) (R : LV → LState → Prop) (st : LState) : levT Tryd.prog [.tmp 2] R [1, 2, 5, 9, 10, 11, 12, 13, 14, 15, 16, 17, 18, 19, 20, 21, 22, 23, 24, 25, 26, 27, 28, 29, 30, 31, 32, 33, 34, 35, 36, 37, 38, 39, 40, 41, 42, 43, 44, 45, 46, 47, 48, 49, 50, 51, 52, 53, 54, 55, 56, 57, 58, 59, 60, 61, 62, 63, 64, 65, 66, 67, 68, 69, 70, 71, 72, 73, 74, 75, 76, 77, 78, 79, 80, 81, 82, 83, 84, 85, 86, 87, 88, 89, 90, 91, 92, 93, 94, 95, 96, 97, 98, 99, 100, 101, 102, 103, 104, 105, 106, 107, 108, 109, 110, 111] [] 3000 (stepIn (pointN Tryd.f6 4)) [x0, .junk, .junk, x3, x4, .junk, x6, x7, x8, .junk, .junk, .junk, .junk, .junk, .junk, .junk, .junk, .junk, .junk, .junk, .junk, .junk, .junk, .junk, .junk, .junk, .junk, .junk, .junk, .junk, .junk, .junk, .junk, .junk, .junk, .junk, .junk, .junk, .junk, .junk, .junk, .junk, .junk, .junk, .junk, .junk, .junk, .junk, .junk, .junk, .junk, .junk, .junk, .junk, .junk, .junk, .junk, .junk, .junk, .junk, .junk, .junk, .junk, .junk, .junk, .junk, .junk, .junk, .junk, .junk, .junk, .junk, .junk, .junk, .junk, .junk, .junk, .junk, .junk, .junk, .junk, .junk, .junk, .junk, .junk, .junk, .junk, .junk, .junk, .junk, .junk, .junk, .junk, .junk, .junk, .junk, .junk, .junk, .junk, .junk, .junk, .junk, .junk, .junk, .junk, .junk, .junk, .junk, .junk, .junk, .junk, .junk] st = w6_4 x0 x3 x4 x6 x7 x8 R st := by kernel_rfl
theorem p6_4 (x0 x3 x4 x6 x7 x8 : LV) {R : LV → LState → Prop} {st : LState} (h : w6_4 x0 x3 x4 x6 x7 x8 R st) : P6_4 x0 x3 x4 x6 x7 x8 R st :=
  LT.at cm_mixed 3000 (Eq.mpr (w6_4_eq x0 x3 x4 x6 x7 x8 R st) h)

/-- flange.flangelaw17.AddressOrders, from point 7 on -/
def w6_7 (x0 x3 x4 x6 x7 x8 : LV) (R : LV → LState → Prop) (st : LState) : Prop :=
  bd (lenSl x6) fun v0 =>
    bd (bInt BinOp.lss x7 v0) fun v1 =>
      bsel v1
        (bd (bInt BinOp.gtr x7 (LV.int IntKind.i64 0)) fun v2 =>
          bsel v2
            (bd (bInt BinOp.sub x7 (LV.int IntKind.i64 1)) fun v3 =>
              bd (ixSl 4 x6 v3) fun v4 =>
                bd (ldA st v4 4) fun v5 =>
                  bd (ixSl 4 x6 x7) fun v6 =>
                    bd (ldA st v6 4) fun v7 =>
                      LCalls Tryd.prog 10 [v5] st fun v8 st9 =>
                        ldA st9 v6 4 = some v7 ∧
                          LCalls Tryd.prog 10 [v7] st9 fun v10 st11 =>
                            LCalls Tryd.prog 18 [v8, v10] st11 fun v12 st13 =>
                              bd (lun UnOp.not v12) fun v14 =>
                                bsel v14 (R (LV.bool false) st13)
                                  (bd (ixSl 4 x6 x7) fun v15 =>
                                    bd (ldA st13 v15 4) fun v16 =>
                                      LCalls Tryd.prog 21 [x0, v16] st13 fun v17 st18 =>
                                        bd (lun UnOp.not v17) fun v19 =>
                                          bsel v19 (R (LV.bool false) st18)
                                            (bd (bInt BinOp.add x7 (LV.int IntKind.i64 1)) fun v20 =>
                                              P6_7 x0 x3 x4 x6 v20 x8 R
                                                st18)))
            (bd (ixSl 4 x6 x7) fun v21 =>
              bd (ldA st v21 4) fun v22 =>
                LCalls Tryd.prog 21 [x0, v22] st fun v23 st24 =>
                  bd (lun UnOp.not v23) fun v25 =>
                    bsel v25 (R (LV.bool false) st24)
                      (bd (bInt BinOp.add x7 (LV.int IntKind.i64 1)) fun v26 =>
                        P6_7 x0 x3 x4 x6 v26 x8 R
                          st24)))
        (P6_10 x0 x3 x4 x6 x7 (LV.int IntKind.i64 0) R
          st)
theorem w6_7_eq (x0 x3 x4 x6 x7 x8 : LV) (R : LV → LState → Prop) (st : LState) : levT Tryd.prog [.tmp 2] R [1, 2, 5, 9, 10, 11, 12, 13, 14, 15, 16, 17, 18, 19, 20, 21, 22, 23, 24, 25, 26, 27, 28, 29, 30, 31, 32, 33, 34, 35, 36, 37, 38, 39, 40, 41, 42, 43, 44, 45, 46, 47, 48, 49, 50, 51, 52, 53, 54, 55, 56, 57, 58, 59, 60, 61, 62, 63, 64, 65, 66, 67, 68, 69, 70, 71, 72, 73, 74, 75, 76, 77, 78, 79, 80, 81, 82, 83, 84, 85, 86, 87, 88, 89, 90, 91, 92, 93, 94, 95, 96, 97, 98, 99, 100, 101, 102, 103, 104, 105, 106, 107, 108, 109, 110, 111] [] 3000 (stepIn (pointN Tryd.f6 7)) [x0, .junk, .junk, x3, x4, .junk, x6, x7, x8, .junk, .junk, .junk, .junk, .junk, .junk, .junk, .junk, .junk, .junk, .junk, .junk, .junk, .junk, .junk, .junk, .junk, .junk, .junk, .junk, .junk, .junk, .junk, .junk, .junk, .junk, .junk, .junk, .junk, .junk, .junk, .junk, .junk, .junk, .junk, .junk, .junk, .junk, .junk, .junk, .junk, .junk, .junk, .junk, .junk, .junk, .junk, .junk, .junk, .junk, .junk, .junk, .junk, .junk, .junk, .junk, .junk, .junk, .junk, .junk, .junk, .junk, .junk, .junk, .junk, .junk, .junk, .junk, .junk, .junk, .junk, .junk, .junk, .junk, .junk, .junk, .junk, .junk, .junk, .junk, .junk, .junk, .junk, .junk, .junk, .junk, .junk, .junk, .junk, .junk, .junk, .junk, .junk, .junk, .junk, .junk, .junk, .junk, .junk, .junk, .junk, .junk, .junk] st = w6_7 x0 x3 x4 x6 x7 x8 R st := by kernel_rfl
theorem p6_7 (x0 x3 x4 x6 x7 x8 : LV) {R : LV → LState → Prop} {st : LState} (h : w6_7 x0 x3 x4 x6 x7 x8 R st) : P6_7 x0 x3 x4 x6 x7 x8 R st :=
  LT.at cm_mixed 3000 (Eq.mpr (w6_7_eq x0 x3 x4 x6 x7 x8 R st) h)

/-- flange.flangelaw17.AddressOrders, from point 10 on -/
def w6_10 (x0 x3 x4 x6 x7 x8 : LV) (R : LV → LState → Prop) (st : LState) : Prop :=
  bd (lenSl x0) fun v0 =>
    bd (bInt BinOp.lss x8 v0) fun v1 =>
      bsel v1
        (bd (ixSl 4 x0 x8) fun v2 =>
          bd (ldA st v2 4) fun v3 =>
            LCalls Tryd.prog 21 [x6, v3] st fun v4 st5 =>
              bd (lun UnOp.not v4) fun v6 =>
                bsel v6 (R (LV.bool false) st5)
                  (bd (bInt BinOp.add x8 (LV.int IntKind.i64 1)) fun v7 =>
                    P6_10 x0 x3 x4 x6 x7 v7 R
                      st5))
        (R (LV.bool true) st)
theorem w6_10_eq (x0 x3 x4 x6 x7 x8 : LV) (R : LV → LState → Prop) (st : LState) : levT Tryd.prog [.tmp 2] R [1, 2, 5, 9, 10, 11, 12, 13, 14, 15, 16, 17, 18, 19, 20, 21, 22, 23, 24, 25, 26, 27, 28, 29, 30, 31, 32, 33, 34, 35, 36, 37, 38, 39, 40, 41, 42, 43, 44, 45, 46, 47, 48, 49, 50, 51, 52, 53, 54, 55, 56, 57, 58, 59, 60, 61, 62, 63, 64, 65, 66, 67, 68, 69, 70, 71, 72, 73, 74, 75, 76, 77, 78, 79, 80, 81, 82, 83, 84, 85, 86, 87, 88, 89, 90, 91, 92, 93, 94, 95, 96, 97, 98, 99, 100, 101, 102, 103, 104, 105, 106, 107, 108, 109, 110, 111] [] 3000 (stepIn (pointN Tryd.f6 10)) [x0, .junk, .junk, x3, x4, .junk, x6, x7, x8, .junk, .junk, .junk, .junk, .junk, .junk, .junk, .junk, .junk, .junk, .junk, .junk, .junk, .junk, .junk, .junk, .junk, .junk, .junk, .junk, .junk, .junk, .junk, .junk, .junk, .junk, .junk, .junk, .junk, .junk, .junk, .junk, .junk, .junk, .junk, .junk, .junk, .junk, .junk, .junk, .junk, .junk, .junk, .junk, .junk, .junk, .junk, .junk, .junk, .junk, .junk, .junk, .junk, .junk, .junk, .junk, .junk, .junk, .junk, .junk, .junk, .junk, .junk, .junk, .junk, .junk, .junk, .junk, .junk, .junk, .junk, .junk, .junk, .junk, .junk, .junk, .junk, .junk, .junk, .junk, .junk, .junk, .junk, .junk, .junk, .junk, .junk, .junk, .junk, .junk, .junk, .junk, .junk, .junk, .junk, .junk, .junk, .junk, .junk, .junk, .junk, .junk, .junk] st = w6_10 x0 x3 x4 x6 x7 x8 R st := by kernel_rfl
theorem p6_10 (x0 x3 x4 x6 x7 x8 : LV) {R : LV → LState → Prop} {st : LState} (h : w6_10 x0 x3 x4 x6 x7 x8 R st) : P6_10 x0 x3 x4 x6 x7 x8 R st :=
  LT.at cm_mixed 3000 (Eq.mpr (w6_10_eq x0 x3 x4 x6 x7 x8 R st) h)

/-- flange.flangelaw17.AddressSorts -/
def w7 (a0 : LV) (R : LV → LState → Prop) (st : LState) : Prop :=
  bd (lenSl a0) fun v0 =>
    bd (bInt BinOp.gtr v0 (LV.int IntKind.i64 30)) fun v1 =>
      bsel v1 (LCalls Tryd.prog 9 [] st fun v2 st3 => R v2 st3)
        (LCalls Tryd.prog 9 [] st fun v4 st5 =>
          bd (lun UnOp.not v4) fun v6 =>
            bsel v6 (LCalls Tryd.prog 9 [] st5 fun v7 st8 => R v7 st8)
              (P7_1 a0 (LV.int IntKind.i64 0) (LV.tup []) (LV.tup []) (LV.tup []) R
                st5))
theorem w7_eq (a0 : LV) (R : LV → LState → Prop) (st : LState) : levT Tryd.prog [.tmp 2] R [1, 2, 7, 8, 9, 10, 11, 12, 13, 14, 15, 16, 17, 18, 19, 20, 21, 22, 23, 24, 25, 26, 27, 28, 29, 30, 31, 32, 33, 34, 35, 36, 37, 38, 39, 40, 41, 42, 43, 44, 45, 46, 47, 48, 49, 50, 51, 52, 53, 54, 55, 56, 57, 58, 59, 60, 61, 62, 63, 64, 65, 66, 67, 68, 69, 70, 71, 72, 73, 74, 75, 76, 77, 78, 79, 80, 81, 82] [] 3000 [.code (bodyOf Tryd.f7)] ([a0] ++ List.replicate (Tryd.f7.ntmps - 1) lundef) st = w7 a0 R st := by kernel_rfl
theorem c7 (a0 : LV) {R : LV → LState → Prop} {st : LState} (h : w7 a0 R st) : LCalls Tryd.prog 7 [a0] st R :=
  LCalls.of cm_mixed Tryd.func7 (show Tryd.f7.body = some (bodyOf Tryd.f7) by kernel_rfl) (by kernel_rfl) (show Tryd.f7.results.toList = [.tmp 2] by kernel_rfl) (levT_sound cm_mixed 3000 (Eq.mpr (w7_eq a0 R st) h))

/-- flange.flangelaw17.AddressSorts, from point 1 on -/
def w7_1 (x0 x3 x4 x5 x6 : LV) (R : LV → LState → Prop) (st : LState) : Prop :=
  bd (lenSl x0) fun v0 =>
    bd (bInt BinOp.lss x3 v0) fun v1 =>
      bsel v1
        (bd (ixSl 4 x0 x3) fun v2 =>
          bd (ldA st v2 4) fun v3 =>
            LCalls Tryd.prog 8 [v3] st fun v4 st5 =>
              bsel v4 (R (LV.bool true) st5)
                (bd (bInt BinOp.add x3 (LV.int IntKind.i64 1)) fun v6 =>
                  P7_1 x0 v6 x4 x5 x6 R
                    st5))
        (LCalls Tryd.prog 20 [x0] st fun v7 st8 =>
          LCalls Tryd.prog 20 [v7] st8 fun v9 st10 =>
            bd (lenSl v7) fun v11 =>
              bd (lenSl v9) fun v12 =>
                bd (bInt BinOp.neq v11 v12) fun v13 =>
                  bsel v13 (R (LV.bool false) st10)
                    (P7_4 x0 x3 v7 v9 (LV.int IntKind.i64 0) R
                      st10))
theorem w7_1_eq (x0 x3 x4 x5 x6 : LV) (R : LV → LState → Prop) (st : LState) : levT Tryd.prog [.tmp 2] R [1, 2, 7, 8, 9, 10, 11, 12, 13, 14, 15, 16, 17, 18, 19, 20, 21, 22, 23, 24, 25, 26, 27, 28, 29, 30, 31, 32, 33, 34, 35, 36, 37, 38, 39, 40, 41, 42, 43, 44, 45, 46, 47, 48, 49, 50, 51, 52, 53, 54, 55, 56, 57, 58, 59, 60, 61, 62, 63, 64, 65, 66, 67, 68, 69, 70, 71, 72, 73, 74, 75, 76, 77, 78, 79, 80, 81, 82] [] 3000 (stepIn (pointN Tryd.f7 1)) [x0, .junk, .junk, x3, x4, x5, x6, .junk, .junk, .junk, .junk, .junk, .junk, .junk, .junk, .junk, .junk, .junk, .junk, .junk, .junk, .junk, .junk, .junk, .junk, .junk, .junk, .junk, .junk, .junk, .junk, .junk, .junk, .junk, .junk, .junk, .junk, .junk, .junk, .junk, .junk, .junk, .junk, .junk, .junk, .junk, .junk, .junk, .junk, .junk, .junk, .junk, .junk, .junk, .junk, .junk, .junk, .junk, .junk, .junk, .junk, .junk, .junk, .junk, .junk, .junk, .junk, .junk, .junk, .junk, .junk, .junk, .junk, .junk, .junk, .junk, .junk, .junk, .junk, .junk, .junk, .junk, .junk] st = w7_1 x0 x3 x4 x5 x6 R st := by kernel_rfl
theorem p7_1 (x0 x3 x4 x5 x6 : LV) {R : LV → LState → Prop} {st : LState} (h : w7_1 x0 x3 x4 x5 x6 R st) : P7_1 x0 x3 x4 x5 x6 R st :=
  LT.at cm_mixed 3000 (Eq.mpr (w7_1_eq x0 x3 x4 x5 x6 R st) h)

/-- flange.flangelaw17.AddressSorts, from point 4 on -/
def w7_4 (x0 x3 x4 x5 x6 : LV) (R : LV → LState → Prop) (st : LState) : Prop :=
  bd (lenSl x4) fun v0 =>
    bd (bInt BinOp.lss x6 v0) fun v1 =>
      bsel v1
        (bd (ixSl 4 x4 x6) fun v2 =>
          bd (ldA st v2 4) fun v3 =>
            bd (ixSl 4 x5 x6) fun v4 =>
              bd (ldA st v4 4) fun v5 =>
                bd
                  (eqB BinOp.neq
                    (eqAgg
                      (leq
                        Tryd.prog
                        64 23)
                      v3 v5))
                  fun v6 =>
                  bsel v6 (R (LV.bool false) st)
                    (bd (ixSl 4 x4 x6) fun v7 =>
                      bd (ldA st v7 4) fun v8 =>
                        bd (ixSl 4 x4 x6) fun v9 =>
                          bd (ldA st v9 4) fun v10 =>
                            LCalls Tryd.prog 12 [LV.str [42], v8] st fun v11 st12 =>
                              ldA st12 v9 4 = some v10 ∧
                                LCalls Tryd.prog 15 [v10] st12 fun v13 st14 =>
                                  bd (bBool BinOp.neq v11 v13) fun v15 =>
                                    bsel v15 (R (LV.bool false) st14)
                                      (bd (ixSl 4 x4 x6) fun v16 =>
                                        bd (ldA st14 v16 4) fun v17 =>
                                          bd (ixSl 4 x4 x6) fun v18 =>
                                            bd (ldA st14 v18 4) fun v19 =>
                                              LCalls Tryd.prog 12 [LV.str [42, 46, 42, 46, 42], v17] st14 fun v20 st21 =>
                                                ldA st21 v18 4 = some v19 ∧
                                                  LCalls Tryd.prog 15 [v19] st21 fun v22 st23 =>
                                                    bd (bBool BinOp.neq v20 v22) fun v24 =>
                                                      bsel v24 (R (LV.bool false) st23)
                                                        (bd (ixSl 4 x4 x6) fun v25 =>
                                                          bd (ldA st23 v25 4) fun v26 =>
                                                            LCalls Tryd.prog 12 [LV.str [42, 46, 42, 46, 42, 46, 42], v26] st23 fun v27 st28 =>
                                                              bsel v27 (R (LV.bool false) st28)
                                                                (bd (bInt BinOp.add x6 (LV.int IntKind.i64 1)) fun v29 =>
                                                                  P7_4 x0 x3 x4 x5 v29 R
                                                                    st28)))))
        (R (LV.bool true) st)
theorem w7_4_eq (x0 x3 x4 x5 x6 : LV) (R : LV → LState → Prop) (st : LState) : levT Tryd.prog [.tmp 2] R [1, 2, 7, 8, 9, 10, 11, 12, 13, 14, 15, 16, 17, 18, 19, 20, 21, 22, 23, 24, 25, 26, 27, 28, 29, 30, 31, 32, 33, 34, 35, 36, 37, 38, 39, 40, 41, 42, 43, 44, 45, 46, 47, 48, 49, 50, 51, 52, 53, 54, 55, 56, 57, 58, 59, 60, 61, 62, 63, 64, 65, 66, 67, 68, 69, 70, 71, 72, 73, 74, 75, 76, 77, 78, 79, 80, 81, 82] [] 3000 (stepIn (pointN Tryd.f7 4)) [x0, .junk, .junk, x3, x4, x5, x6, .junk, .junk, .junk, .junk, .junk, .junk, .junk, .junk, .junk, .junk, .junk, .junk, .junk, .junk, .junk, .junk, .junk, .junk, .junk, .junk, .junk, .junk, .junk, .junk, .junk, .junk, .junk, .junk, .junk, .junk, .junk, .junk, .junk, .junk, .junk, .junk, .junk, .junk, .junk, .junk, .junk, .junk, .junk, .junk, .junk, .junk, .junk, .junk, .junk, .junk, .junk, .junk, .junk, .junk, .junk, .junk, .junk, .junk, .junk, .junk, .junk, .junk, .junk, .junk, .junk, .junk, .junk, .junk, .junk, .junk, .junk, .junk, .junk, .junk, .junk, .junk] st = w7_4 x0 x3 x4 x5 x6 R st := by kernel_rfl
theorem p7_4 (x0 x3 x4 x5 x6 : LV) {R : LV → LState → Prop} {st : LState} (h : w7_4 x0 x3 x4 x5 x6 R st) : P7_4 x0 x3 x4 x5 x6 R st :=
  LT.at cm_mixed 3000 (Eq.mpr (w7_4_eq x0 x3 x4 x5 x6 R st) h)

/-- flange.flangelaw17.great -/
def w8 (a0 : LV) (R : LV → LState → Prop) (st : LState) : Prop :=
  bd2 (lbox st a0) fun v0 st1 =>
    bd (fAddr 0 v0) fun v2 =>
      bd (ld1 st1 v2) fun v3 =>
        bd (lenStr v3) fun v4 =>
          bd (bInt BinOp.gtr v4 (LV.int IntKind.i64 60)) fun v5 =>
            bsel v5 (R (LV.bool true) st1)
              (bd (fAddr 1 v0) fun v6 =>
                bd (ld1 st1 v6) fun v7 =>
                  bd (lenStr v7) fun v8 =>
                    bd (bInt BinOp.gtr v8 (LV.int IntKind.i64 60)) fun v9 =>
                      bsel v9 (R (LV.bool true) st1)
                        (bd (fAddr 2 v0) fun v10 => bd (ld1 st1 v10) fun v11 => bd (lenStr v11) fun v12 => bd (bInt BinOp.gtr v12 (LV.int IntKind.i64 60)) fun v13 => R v13 st1))
theorem w8_eq (a0 : LV) (R : LV → LState → Prop) (st : LState) : levT Tryd.prog [.tmp 2] R [] [] 3000 [.code (bodyOf Tryd.f8)] ([a0] ++ List.replicate (Tryd.f8.ntmps - 1) lundef) st = w8 a0 R st := by kernel_rfl
theorem c8 (a0 : LV) {R : LV → LState → Prop} {st : LState} (h : w8 a0 R st) : LCalls Tryd.prog 8 [a0] st R :=
  LCalls.of cm_mixed Tryd.func8 (show Tryd.f8.body = some (bodyOf Tryd.f8) by kernel_rfl) (by kernel_rfl) (show Tryd.f8.results.toList = [.tmp 2] by kernel_rfl) (levT_sound cm_mixed 3000 (Eq.mpr (w8_eq a0 R st) h))

/-- flange.flangelaw17.of -/
def w10 (a0 : LV) (R : LV → LState → Prop) (st : LState) : Prop :=
  bd2 (lbox st a0) fun v0 st1 =>
    nw st1 [LV.str [], LV.str [], LV.str [], LV.int IntKind.i64 0] fun v2 st3 =>
      bd (fAddr 0 v0) fun v4 =>
        bd (ld1 st3 v4) fun v5 =>
          bd (fAddr 1 v0) fun v6 =>
            bd (ld1 st3 v6) fun v7 =>
              bd (fAddr 2 v0) fun v8 =>
                bd (ld1 st3 v8) fun v9 =>
                  bd (mkAgg (lfill (fun i => some (i * 1, 1)) [LV.str [], LV.str [], LV.str []] [(0, v5), (1, v7), (2, v9)])) fun v10 =>
                    bd (fAddr 3 v0) fun v11 =>
                      bd (ld1 st3 v11) fun v12 =>
                        bd (mkAgg (lfill (placesL [(0, 3), (3, 1)]) [LV.str [], LV.str [], LV.str [], LV.int IntKind.i64 0] [(0, v10), (1, v12)])) fun v13 =>
                          bd2 (lmk (stV st3 4 v2 v13)) fun _v14 st15 => bd (ldA st15 v2 4) fun v16 => R v16 st15
theorem w10_eq (a0 : LV) (R : LV → LState → Prop) (st : LState) : levT Tryd.prog [.cell 2 28] R [] [] 3000 [.code (bodyOf Tryd.f10)] ([a0] ++ List.replicate (Tryd.f10.ntmps - 1) lundef) st = w10 a0 R st := by kernel_rfl
theorem c10 (a0 : LV) {R : LV → LState → Prop} {st : LState} (h : w10 a0 R st) : LCalls Tryd.prog 10 [a0] st R :=
  LCalls.of cm_mixed Tryd.func10 (show Tryd.f10.body = some (bodyOf Tryd.f10) by kernel_rfl) (by kernel_rfl) (show Tryd.f10.results.toList = [.cell 2 28] by kernel_rfl) (levT_sound cm_mixed 3000 (Eq.mpr (w10_eq a0 R st) h))

/-- flange.flangeref17.Right -/
def w11 (a0 : LV) (R : LV → LState → Prop) (st : LState) : Prop :=
  bd2 (lbox st a0) fun v0 st1 =>
    bd (fAddr 0 v0) fun v2 =>
      bd (ixArr 3 1 v2 (LV.int IntKind.i64 0)) fun v3 =>
        bd (ld1 st1 v3) fun v4 =>
          LCalls Tryd.prog 22 [v4] st1 fun v5 st6 =>
            bsel v5
              (bd (fAddr 0 v0) fun v7 =>
                bd (ixArr 3 1 v7 (LV.int IntKind.i64 1)) fun v8 =>
                  bd (ld1 st6 v8) fun v9 =>
                    LCalls Tryd.prog 22 [v9] st6 fun v10 st11 =>
                      bsel v10
                        (bd (fAddr 0 v0) fun v12 =>
                          bd (ixArr 3 1 v12 (LV.int IntKind.i64 2)) fun v13 =>
                            bd (ld1 st11 v13) fun v14 =>
                              LCalls Tryd.prog 22 [v14] st11 fun v15 st16 =>
                                bsel v15
                                  (bd (fAddr 3 v0) fun v17 =>
                                    bd (ld1 st16 v17) fun v18 =>
                                      bd (bInt BinOp.geq v18 (LV.int IntKind.i64 (-1))) fun v19 =>
                                        bsel v19 (bd (fAddr 3 v0) fun v20 => bd (ld1 st16 v20) fun v21 => bd (bInt BinOp.leq v21 (LV.int IntKind.i64 999)) fun v22 => R v22 st16)
                                          (R (LV.bool false) st16))
                                  (R (LV.bool false) st16))
                        (R (LV.bool false) st11))
              (R (LV.bool false) st6)
theorem w11_eq (a0 : LV) (R : LV → LState → Prop) (st : LState) : levT Tryd.prog [.tmp 2] R [] [] 3000 [.code (bodyOf Tryd.f11)] ([a0] ++ List.replicate (Tryd.f11.ntmps - 1) lundef) st = w11 a0 R st := by kernel_rfl
theorem c11 (a0 : LV) {R : LV → LState → Prop} {st : LState} (h : w11 a0 R st) : LCalls Tryd.prog 11 [a0] st R :=
  LCalls.of cm_mixed Tryd.func11 (show Tryd.f11.body = some (bodyOf Tryd.f11) by kernel_rfl) (by kernel_rfl) (show Tryd.f11.results.toList = [.tmp 2] by kernel_rfl) (levT_sound cm_mixed 3000 (Eq.mpr (w11_eq a0 R st) h))

/-- flange.address.Match -/
def w12 (a0 a1 : LV) (R : LV → LState → Prop) (st : LState) : Prop :=
  bd2 (lbox st a1) fun v0 st1 =>
    bd (ldA st1 v0 4) fun v2 =>
      LCalls Tryd.prog 23 [a0, LV.str [46]] st1 fun v3 st4 =>
        ldA st4 v0 4 = some v2 ∧
          LCalls Tryd.prog 24 [v2] st4 fun v5 st6 =>
            bd (ldA st6 v0 4) fun v7 =>
              LCalls Tryd.prog 15 [v7] st6 fun v8 st9 =>
                bd (lun UnOp.not v8) fun v10 =>
                  bsel v10 (R (LV.bool false) st9)
                    (bd (lenSl v3) fun v11 =>
                      bd (lenSl v5) fun v12 =>
                        bd (bInt BinOp.gtr v11 v12) fun v13 =>
                          bsel v13 (R (LV.bool false) st9)
                            (bd (lenSl v3) fun v14 =>
                              P12_1 v5 v3 v14 (LV.int IntKind.i64 0) R
                                st9))
theorem w12_eq (a0 a1 : LV) (R : LV → LState → Prop) (st : LState) : levT Tryd.prog [.tmp 4] R [0, 1, 2, 3, 4, 5, 7, 8, 9, 10, 11, 12, 13, 14, 15, 16, 17, 18, 19, 20, 21, 22, 26, 27, 28, 29, 30, 31, 32, 33, 34, 35, 36, 37, 38, 39, 40] [] 3000 [.code (bodyOf Tryd.f12)] ([a0, a1] ++ List.replicate (Tryd.f12.ntmps - 2) lundef) st = w12 a0 a1 R st := by kernel_rfl
theorem c12 (a0 a1 : LV) {R : LV → LState → Prop} {st : LState} (h : w12 a0 a1 R st) : LCalls Tryd.prog 12 [a0, a1] st R :=
  LCalls.of cm_mixed Tryd.func12 (show Tryd.f12.body = some (bodyOf Tryd.f12) by kernel_rfl) (by kernel_rfl) (show Tryd.f12.results.toList = [.tmp 4] by kernel_rfl) (levT_sound cm_mixed 3000 (Eq.mpr (w12_eq a0 a1 R st) h))

/-- flange.address.Match, from point 1 on -/
def w12_1 (x6 x23 x24 x25 : LV) (R : LV → LState → Prop) (st : LState) : Prop :=
  bd (bInt BinOp.lss x25 x24) fun v0 =>
    bsel v0
      (bd (ixSl 1 x23 x25) fun v1 =>
        bd (ld1 st v1) fun v2 =>
          bd (bStr BinOp.neq v2 (LV.str [42])) fun v3 =>
            bsel v3
              (bd (ixSl 1 x6 x25) fun v4 =>
                bd (ld1 st v4) fun v5 =>
                  bd (bStr BinOp.neq v2 v5) fun v6 =>
                    bsel v6 (R (LV.bool false) st)
                      (bd (bInt BinOp.add x25 (LV.int IntKind.i64 1)) fun v7 =>
                        P12_1 x6 x23 x24 v7 R
                          st))
              (bd (bInt BinOp.add x25 (LV.int IntKind.i64 1)) fun v8 =>
                P12_1 x6 x23 x24 v8 R
                  st))
      (R (LV.bool true) st)
theorem w12_1_eq (x6 x23 x24 x25 : LV) (R : LV → LState → Prop) (st : LState) : levT Tryd.prog [.tmp 4] R [0, 1, 2, 3, 4, 5, 7, 8, 9, 10, 11, 12, 13, 14, 15, 16, 17, 18, 19, 20, 21, 22, 26, 27, 28, 29, 30, 31, 32, 33, 34, 35, 36, 37, 38, 39, 40] [] 3000 (stepIn (pointN Tryd.f12 1)) [.junk, .junk, .junk, .junk, .junk, .junk, x6, .junk, .junk, .junk, .junk, .junk, .junk, .junk, .junk, .junk, .junk, .junk, .junk, .junk, .junk, .junk, .junk, x23, x24, x25, .junk, .junk, .junk, .junk, .junk, .junk, .junk, .junk, .junk, .junk, .junk, .junk, .junk, .junk, .junk] st = w12_1 x6 x23 x24 x25 R st := by kernel_rfl
theorem p12_1 (x6 x23 x24 x25 : LV) {R : LV → LState → Prop} {st : LState} (h : w12_1 x6 x23 x24 x25 R st) : P12_1 x6 x23 x24 x25 R st :=
  LT.at cm_mixed 3000 (Eq.mpr (w12_1_eq x6 x23 x24 x25 R st) h)

/-- (flange.address.Address).Right -/
def w15 (a0 : LV) (R : LV → LState → Prop) (st : LState) : Prop :=
  bd2 (lbox st a0) fun v0 st1 =>
    bd (fAddr 0 v0) fun v2 =>
      bd (ld1 st1 v2) fun v3 =>
        LCalls Tryd.prog 33 [v3] st1 fun v4 st5 =>
          bsel v4
            (bd (fAddr 1 v0) fun v6 =>
              bd (ld1 st5 v6) fun v7 =>
                LCalls Tryd.prog 33 [v7] st5 fun v8 st9 =>
                  bsel v8
                    (bd (fAddr 2 v0) fun v10 =>
                      bd (ld1 st9 v10) fun v11 =>
                        LCalls Tryd.prog 33 [v11] st9 fun v12 st13 =>
                          bsel v12
                            (bd (fAddr 3 v0) fun v14 =>
                              bd (ld1 st13 v14) fun v15 =>
                                bd (bInt BinOp.geq v15 (LV.int IntKind.i64 (-1))) fun v16 =>
                                  bsel v16 (bd (fAddr 3 v0) fun v17 => bd (ld1 st13 v17) fun v18 => bd (bInt BinOp.leq v18 (LV.int IntKind.i64 999)) fun v19 => R v19 st13)
                                    (R (LV.bool false) st13))
                            (R (LV.bool false) st13))
                    (R (LV.bool false) st9))
            (R (LV.bool false) st5)
theorem w15_eq (a0 : LV) (R : LV → LState → Prop) (st : LState) : levT Tryd.prog [.tmp 2] R [] [] 3000 [.code (bodyOf Tryd.f15)] ([a0] ++ List.replicate (Tryd.f15.ntmps - 1) lundef) st = w15 a0 R st := by kernel_rfl
theorem c15 (a0 : LV) {R : LV → LState → Prop} {st : LState} (h : w15 a0 R st) : LCalls Tryd.prog 15 [a0] st R :=
  LCalls.of cm_mixed Tryd.func15 (show Tryd.f15.body = some (bodyOf Tryd.f15) by kernel_rfl) (by kernel_rfl) (show Tryd.f15.results.toList = [.tmp 2] by kernel_rfl) (levT_sound cm_mixed 3000 (Eq.mpr (w15_eq a0 R st) h))

/-- flange.flangeref17.Less -/
def w18 (a0 a1 : LV) (R : LV → LState → Prop) (st : LState) : Prop :=
  bd2 (lbox st a0) fun v0 st1 =>
    bd2 (lbox st1 a1) fun v2 st3 =>
      P18_1 v0 v2 (LV.int IntKind.i64 0) R
        st3
theorem w18_eq (a0 a1 : LV) (R : LV → LState → Prop) (st : LState) : levT Tryd.prog [.tmp 4] R [0, 1, 4, 6, 7, 8, 9, 10, 11, 12, 13, 14, 15, 16, 17, 18, 19, 20, 21, 22, 23, 24, 25, 26, 27, 28, 29, 30, 31, 32] [] 3000 [.code (bodyOf Tryd.f18)] ([a0, a1] ++ List.replicate (Tryd.f18.ntmps - 2) lundef) st = w18 a0 a1 R st := by kernel_rfl
theorem c18 (a0 a1 : LV) {R : LV → LState → Prop} {st : LState} (h : w18 a0 a1 R st) : LCalls Tryd.prog 18 [a0, a1] st R :=
  LCalls.of cm_mixed Tryd.func18 (show Tryd.f18.body = some (bodyOf Tryd.f18) by kernel_rfl) (by kernel_rfl) (show Tryd.f18.results.toList = [.tmp 4] by kernel_rfl) (levT_sound cm_mixed 3000 (Eq.mpr (w18_eq a0 a1 R st) h))

/-- flange.flangeref17.Less, from point 1 on -/
def w18_1 (x2 x3 x5 : LV) (R : LV → LState → Prop) (st : LState) : Prop :=
  bd (bInt BinOp.lss x5 (LV.int IntKind.i64 3)) fun v0 =>
    bsel v0
      (bd (fAddr 0 x2) fun v1 =>
        bd (ixArr 3 1 v1 x5) fun v2 =>
          bd (ld1 st v2) fun v3 =>
            bd (fAddr 0 x3) fun v4 =>
              bd (ixArr 3 1 v4 x5) fun v5 =>
                bd (ld1 st v5) fun v6 =>
                  bd (bStr BinOp.neq v3 v6) fun v7 =>
                    bsel v7
                      (bd (fAddr 0 x2) fun v8 =>
                        bd (ixArr 3 1 v8 x5) fun v9 =>
                          bd (ld1 st v9) fun v10 =>
                            bd (fAddr 0 x3) fun v11 => bd (ixArr 3 1 v11 x5) fun v12 => bd (ld1 st v12) fun v13 => bd (bStr BinOp.lss v10 v13) fun v14 => R v14 st)
                      (bd (bInt BinOp.add x5 (LV.int IntKind.i64 1)) fun v15 =>
                        P18_1 x2 x3 v15 R
                          st))
      (bd (fAddr 3 x2) fun v16 => bd (ld1 st v16) fun v17 => bd (fAddr 3 x3) fun v18 => bd (ld1 st v18) fun v19 => bd (bInt BinOp.lss v17 v19) fun v20 => R v20 st)
theorem w18_1_eq (x2 x3 x5 : LV) (R : LV → LState → Prop) (st : LState) : levT Tryd.prog [.tmp 4] R [0, 1, 4, 6, 7, 8, 9, 10, 11, 12, 13, 14, 15, 16, 17, 18, 19, 20, 21, 22, 23, 24, 25, 26, 27, 28, 29, 30, 31, 32] [] 3000 (stepIn (pointN Tryd.f18 1)) [.junk, .junk, x2, x3, .junk, x5, .junk, .junk, .junk, .junk, .junk, .junk, .junk, .junk, .junk, .junk, .junk, .junk, .junk, .junk, .junk, .junk, .junk, .junk, .junk, .junk, .junk, .junk, .junk, .junk, .junk, .junk, .junk] st = w18_1 x2 x3 x5 R st := by kernel_rfl
theorem p18_1 (x2 x3 x5 : LV) {R : LV → LState → Prop} {st : LState} (h : w18_1 x2 x3 x5 R st) : P18_1 x2 x3 x5 R st :=
  LT.at cm_mixed 3000 (Eq.mpr (w18_1_eq x2 x3 x5 R st) h)

/-- flange.address.Compare -/
def w19 (a0 a1 : LV) (R : LV → LState → Prop) (st : LState) : Prop :=
  bd2 (lbox st a0) fun v0 st1 =>
    bd2 (lbox st1 a1) fun v2 st3 =>
      bd (ldA st3 v0 4) fun v4 =>
        bd (ldA st3 v2 4) fun v5 =>
          bd (fAddr 3 v0) fun v6 =>
            bd (ld1 st3 v6) fun v7 =>
              bd (fAddr 3 v2) fun v8 =>
                bd (ld1 st3 v8) fun v9 =>
                  LCalls Tryd.prog 24 [v4] st3 fun v10 st11 =>
                    ld1 st11 v8 = some v9 ∧
                      ld1 st11 v6 = some v7 ∧
                        ldA st11 v2 4 = some v5 ∧
                          LCalls Tryd.prog 24 [v5] st11 fun v12 st13 =>
                            ld1 st13 v8 = some v9 ∧
                              ld1 st13 v6 = some v7 ∧
                                LCalls Tryd.prog 38 [v10, v12] st13 fun v14 st15 =>
                                  ld1 st15 v8 = some v9 ∧
                                    ld1 st15 v6 = some v7 ∧
                                      LCalls Tryd.prog 39 [v7, v9] st15 fun v16 st17 =>
                                        bd2 (slNew st17 2 (lfill (fun i => some (i * 1, 1)) (List.replicate 2 [LV.int IntKind.i64 0]).flatten [(0, v14), (1, v16)])) fun v18 st19 =>
                                          LCalls Tryd.prog 37 [v18] st19 fun v20 st21 => R v20 st21
theorem w19_eq (a0 a1 : LV) (R : LV → LState → Prop) (st : LState) : levT Tryd.prog [.tmp 4] R [] [] 3000 [.code (bodyOf Tryd.f19)] ([a0, a1] ++ List.replicate (Tryd.f19.ntmps - 2) lundef) st = w19 a0 a1 R st := by kernel_rfl
theorem c19 (a0 a1 : LV) {R : LV → LState → Prop} {st : LState} (h : w19 a0 a1 R st) : LCalls Tryd.prog 19 [a0, a1] st R :=
  LCalls.of cm_mixed Tryd.func19 (show Tryd.f19.body = some (bodyOf Tryd.f19) by kernel_rfl) (by kernel_rfl) (show Tryd.f19.results.toList = [.tmp 4] by kernel_rfl) (levT_sound cm_mixed 3000 (Eq.mpr (w19_eq a0 a1 R st) h))

/-- flange.address.Sort -/
def w20 (a0 : LV) (R : LV → LState → Prop) (st : LState) : Prop :=
  LCalls Tryd.prog 40 [a0] st fun v0 st1 => LCalls Tryd.prog 41 [v0, LV.fn (Fn.func 19) [] []] st1 fun _v2 st3 => LCalls Tryd.prog 42 [v0] st3 fun v4 st5 => R v4 st5
theorem w20_eq (a0 : LV) (R : LV → LState → Prop) (st : LState) : levT Tryd.prog [.tmp 2] R [] [] 3000 [.code (bodyOf Tryd.f20)] ([a0] ++ List.replicate (Tryd.f20.ntmps - 1) lundef) st = w20 a0 R st := by kernel_rfl
theorem c20 (a0 : LV) {R : LV → LState → Prop} {st : LState} (h : w20 a0 R st) : LCalls Tryd.prog 20 [a0] st R :=
  LCalls.of cm_mixed Tryd.func20 (show Tryd.f20.body = some (bodyOf Tryd.f20) by kernel_rfl) (by kernel_rfl) (show Tryd.f20.results.toList = [.tmp 2] by kernel_rfl) (levT_sound cm_mixed 3000 (Eq.mpr (w20_eq a0 R st) h))

/-- flange.flangelaw17.in -/
def w21 (a0 a1 : LV) (R : LV → LState → Prop) (st : LState) : Prop :=
  bd2 (lbox st a1) fun v0 st1 =>
    P21_1 a0 v0 (LV.int IntKind.i64 0) R st1
theorem w21_eq (a0 a1 : LV) (R : LV → LState → Prop) (st : LState) : levT Tryd.prog [.tmp 4] R [1, 2, 4, 6, 7, 8, 9, 10, 11, 12, 13, 14, 15, 16, 17] [] 3000 [.code (bodyOf Tryd.f21)] ([a0, a1] ++ List.replicate (Tryd.f21.ntmps - 2) lundef) st = w21 a0 a1 R st := by kernel_rfl
theorem c21 (a0 a1 : LV) {R : LV → LState → Prop} {st : LState} (h : w21 a0 a1 R st) : LCalls Tryd.prog 21 [a0, a1] st R :=
  LCalls.of cm_mixed Tryd.func21 (show Tryd.f21.body = some (bodyOf Tryd.f21) by kernel_rfl) (by kernel_rfl) (show Tryd.f21.results.toList = [.tmp 4] by kernel_rfl) (levT_sound cm_mixed 3000 (Eq.mpr (w21_eq a0 a1 R st) h))

/-- flange.flangelaw17.in, from point 1 on -/
def w21_1 (x0 x3 x5 : LV) (R : LV → LState → Prop) (st : LState) : Prop :=
  bd (lenSl x0) fun v0 =>
    bd (bInt BinOp.lss x5 v0) fun v1 =>
      bsel v1
        (bd (ixSl 4 x0 x5) fun v2 =>
          bd (ldA st v2 4) fun v3 =>
            bd (ldA st x3 4) fun v4 =>
              bd
                (eqB BinOp.eql
                  (eqAgg
                    (leq
                      Tryd.prog
                      64 23)
                    v3 v4))
                fun v5 =>
                bsel v5 (R (LV.bool true) st)
                  (bd (bInt BinOp.add x5 (LV.int IntKind.i64 1)) fun v6 =>
                    P21_1 x0 x3 v6 R st))
        (R (LV.bool false) st)
theorem w21_1_eq (x0 x3 x5 : LV) (R : LV → LState → Prop) (st : LState) : levT Tryd.prog [.tmp 4] R [1, 2, 4, 6, 7, 8, 9, 10, 11, 12, 13, 14, 15, 16, 17] [] 3000 (stepIn (pointN Tryd.f21 1)) [x0, .junk, .junk, x3, .junk, x5, .junk, .junk, .junk, .junk, .junk, .junk, .junk, .junk, .junk, .junk, .junk, .junk] st = w21_1 x0 x3 x5 R st := by kernel_rfl
theorem p21_1 (x0 x3 x5 : LV) {R : LV → LState → Prop} {st : LState} (h : w21_1 x0 x3 x5 R st) : P21_1 x0 x3 x5 R st :=
  LT.at cm_mixed 3000 (Eq.mpr (w21_1_eq x0 x3 x5 R st) h)

/-- flange.flangeref17.Named -/
def w22 (a0 : LV) (R : LV → LState → Prop) (st : LState) : Prop :=
  P22_1 a0 (LV.int IntKind.i64 0) R
    st
theorem w22_eq (a0 : LV) (R : LV → LState → Prop) (st : LState) : levT Tryd.prog [.tmp 2] R [1, 2, 4, 5, 6, 7, 8, 9, 10, 11, 12, 13, 14, 15, 16, 17, 18, 19, 20, 21, 22, 23] [] 3000 [.code (bodyOf Tryd.f22)] ([a0] ++ List.replicate (Tryd.f22.ntmps - 1) lundef) st = w22 a0 R st := by kernel_rfl
theorem c22 (a0 : LV) {R : LV → LState → Prop} {st : LState} (h : w22 a0 R st) : LCalls Tryd.prog 22 [a0] st R :=
  LCalls.of cm_mixed Tryd.func22 (show Tryd.f22.body = some (bodyOf Tryd.f22) by kernel_rfl) (by kernel_rfl) (show Tryd.f22.results.toList = [.tmp 2] by kernel_rfl) (levT_sound cm_mixed 3000 (Eq.mpr (w22_eq a0 R st) h))

/-- flange.flangeref17.Named, from point 1 on -/
def w22_1 (x0 x3 : LV) (R : LV → LState → Prop) (st : LState) : Prop :=
  bd (lenStr x0) fun v0 =>
    bd (bInt BinOp.lss x3 v0) fun v1 =>
      bsel v1
        (bd (ixStr x0 x3) fun v2 =>
          LCalls Tryd.prog 32 [v2, x3] st fun v3 st4 =>
            bd (lun UnOp.not v3) fun v5 =>
              bsel v5 (R (LV.bool false) st4)
                (bd (bInt BinOp.add x3 (LV.int IntKind.i64 1)) fun v6 =>
                  P22_1 x0 v6 R
                    st4))
        (bd (lenStr x0) fun v7 =>
          bd (bInt BinOp.gtr v7 (LV.int IntKind.i64 0)) fun v8 =>
            bsel v8 (bd (lenStr x0) fun v9 => bd (bInt BinOp.leq v9 (LV.int IntKind.i64 20)) fun v10 => R v10 st) (R (LV.bool false) st))
theorem w22_1_eq (x0 x3 : LV) (R : LV → LState → Prop) (st : LState) : levT Tryd.prog [.tmp 2] R [1, 2, 4, 5, 6, 7, 8, 9, 10, 11, 12, 13, 14, 15, 16, 17, 18, 19, 20, 21, 22, 23] [] 3000 (stepIn (pointN Tryd.f22 1)) [x0, .junk, .junk, x3, .junk, .junk, .junk, .junk, .junk, .junk, .junk, .junk, .junk, .junk, .junk, .junk, .junk, .junk, .junk, .junk, .junk, .junk, .junk, .junk] st = w22_1 x0 x3 R st := by kernel_rfl
theorem p22_1 (x0 x3 : LV) {R : LV → LState → Prop} {st : LState} (h : w22_1 x0 x3 R st) : P22_1 x0 x3 R st :=
  LT.at cm_mixed 3000 (Eq.mpr (w22_1_eq x0 x3 R st) h)

/-- strings.Split -/
def w23 (a0 a1 : LV) (R : LV → LState → Prop) (st : LState) : Prop :=
  LCalls Tryd.prog 43 [a0, a1, LV.int IntKind.i64 0, LV.int IntKind.i64 (-1)] st fun v0 st1 => R v0 st1
theorem w23_eq (a0 a1 : LV) (R : LV → LState → Prop) (st : LState) : levT Tryd.prog [.tmp 4] R [] [] 3000 [.code (bodyOf Tryd.f23)] ([a0, a1] ++ List.replicate (Tryd.f23.ntmps - 2) lundef) st = w23 a0 a1 R st := by kernel_rfl
theorem c23 (a0 a1 : LV) {R : LV → LState → Prop} {st : LState} (h : w23 a0 a1 R st) : LCalls Tryd.prog 23 [a0, a1] st R :=
  LCalls.of cm_mixed Tryd.func23 (show Tryd.f23.body = some (bodyOf Tryd.f23) by kernel_rfl) (by kernel_rfl) (show Tryd.f23.results.toList = [.tmp 4] by kernel_rfl) (levT_sound cm_mixed 3000 (Eq.mpr (w23_eq a0 a1 R st) h))

/-- (flange.address.Address).words -/
def w24 (a0 : LV) (R : LV → LState → Prop) (st : LState) : Prop :=
  bd2 (lbox st a0) fun v0 st1 =>
    bd (fAddr 0 v0) fun v2 =>
      bd (ld1 st1 v2) fun v3 =>
        bd (fAddr 1 v0) fun v4 =>
          bd (ld1 st1 v4) fun v5 =>
            bd (fAddr 2 v0) fun v6 =>
              bd (ld1 st1 v6) fun v7 => bd2 (slNew st1 3 (lfill (fun i => some (i * 1, 1)) (List.replicate 3 [LV.str []]).flatten [(0, v3), (1, v5), (2, v7)])) fun v8 st9 => R v8 st9
theorem w24_eq (a0 : LV) (R : LV → LState → Prop) (st : LState) : levT Tryd.prog [.tmp 2] R [] [] 3000 [.code (bodyOf Tryd.f24)] ([a0] ++ List.replicate (Tryd.f24.ntmps - 1) lundef) st = w24 a0 R st := by kernel_rfl
theorem c24 (a0 : LV) {R : LV → LState → Prop} {st : LState} (h : w24 a0 R st) : LCalls Tryd.prog 24 [a0] st R :=
  LCalls.of cm_mixed Tryd.func24 (show Tryd.f24.body = some (bodyOf Tryd.f24) by kernel_rfl) (by kernel_rfl) (show Tryd.f24.results.toList = [.tmp 2] by kernel_rfl) (levT_sound cm_mixed 3000 (Eq.mpr (w24_eq a0 R st) h))

/-- flange.flangeref17.lettered -/
def w32 (a0 a1 : LV) (R : LV → LState → Prop) (st : LState) : Prop :=
  bd (bInt BinOp.geq a0 (LV.int IntKind.u8 97)) fun v0 =>
    bsel v0
      (bd (bInt BinOp.leq a0 (LV.int IntKind.u8 122)) fun v1 =>
        bsel v1 (R (LV.bool true) st)
          (bd (bInt BinOp.gtr a1 (LV.int IntKind.i64 0)) fun v2 =>
            bsel v2 (bd (bInt BinOp.geq a0 (LV.int IntKind.u8 48)) fun v3 => bsel v3 (bd (bInt BinOp.leq a0 (LV.int IntKind.u8 57)) fun v4 => R v4 st) (R (LV.bool false) st))
              (R (LV.bool false) st)))
      (bd (bInt BinOp.gtr a1 (LV.int IntKind.i64 0)) fun v5 =>
        bsel v5 (bd (bInt BinOp.geq a0 (LV.int IntKind.u8 48)) fun v6 => bsel v6 (bd (bInt BinOp.leq a0 (LV.int IntKind.u8 57)) fun v7 => R v7 st) (R (LV.bool false) st))
          (R (LV.bool false) st))
theorem w32_eq (a0 a1 : LV) (R : LV → LState → Prop) (st : LState) : levT Tryd.prog [.tmp 4] R [] [] 3000 [.code (bodyOf Tryd.f32)] ([a0, a1] ++ List.replicate (Tryd.f32.ntmps - 2) lundef) st = w32 a0 a1 R st := by kernel_rfl
theorem c32 (a0 a1 : LV) {R : LV → LState → Prop} {st : LState} (h : w32 a0 a1 R st) : LCalls Tryd.prog 32 [a0, a1] st R :=
  LCalls.of cm_mixed Tryd.func32 (show Tryd.f32.body = some (bodyOf Tryd.f32) by kernel_rfl) (by kernel_rfl) (show Tryd.f32.results.toList = [.tmp 4] by kernel_rfl) (levT_sound cm_mixed 3000 (Eq.mpr (w32_eq a0 a1 R st) h))

/-- flange.kind.Named -/
def w33 (a0 : LV) (R : LV → LState → Prop) (st : LState) : Prop :=
  bd (lenStr a0) fun v0 =>
    P33_1 a0 v0 (LV.int IntKind.i64 0) R
      st
theorem w33_eq (a0 : LV) (R : LV → LState → Prop) (st : LState) : levT Tryd.prog [.tmp 2] R [1, 2, 3, 4, 5, 8, 9, 10, 11, 12, 13, 14, 15, 16, 17, 18, 19, 20, 21, 22, 23, 24, 25, 26, 27, 28, 29, 30, 31, 32, 33, 34, 35, 36, 37, 38, 39] [] 3000 [.code (bodyOf Tryd.f33)] ([a0] ++ List.replicate (Tryd.f33.ntmps - 1) lundef) st = w33 a0 R st := by kernel_rfl
theorem c33 (a0 : LV) {R : LV → LState → Prop} {st : LState} (h : w33 a0 R st) : LCalls Tryd.prog 33 [a0] st R :=
  LCalls.of cm_mixed Tryd.func33 (show Tryd.f33.body = some (bodyOf Tryd.f33) by kernel_rfl) (by kernel_rfl) (show Tryd.f33.results.toList = [.tmp 2] by kernel_rfl) (levT_sound cm_mixed 3000 (Eq.mpr (w33_eq a0 R st) h))

/-- flange.kind.Named, from point 1 on -/
def w33_1 (x0 x6 x7 : LV) (R : LV → LState → Prop) (st : LState) : Prop :=
  bd (bInt BinOp.lss x7 x6) fun v0 =>
    bsel v0
      (bd (ixStr x0 x7) fun v1 =>
        bd (bInt BinOp.geq v1 (LV.int IntKind.u8 97)) fun v2 =>
          bsel v2
            (bd (bInt BinOp.leq v1 (LV.int IntKind.u8 122)) fun v3 =>
              bsel v3
                (bd (lun UnOp.not (LV.bool true)) fun v4 =>
                  bsel v4 (R (LV.bool false) st)
                    (bd (bInt BinOp.add x7 (LV.int IntKind.i64 1)) fun v5 =>
                      P33_1 x0 x6 v5 R
                        st))
                (bd (bInt BinOp.gtr x7 (LV.int IntKind.i64 0)) fun v6 =>
                  bsel v6
                    (bd (bInt BinOp.geq v1 (LV.int IntKind.u8 48)) fun v7 =>
                      bsel v7
                        (bd (bInt BinOp.leq v1 (LV.int IntKind.u8 57)) fun v8 =>
                          bd (lun UnOp.not v8) fun v9 =>
                            bsel v9 (R (LV.bool false) st)
                              (bd (bInt BinOp.add x7 (LV.int IntKind.i64 1)) fun v10 =>
                                P33_1 x0 x6 v10 R
                                  st))
                        (bd (lun UnOp.not (LV.bool false)) fun v11 =>
                          bsel v11 (R (LV.bool false) st)
                            (bd (bInt BinOp.add x7 (LV.int IntKind.i64 1)) fun v12 =>
                              P33_1 x0 x6 v12 R
                                st)))
                    (bd (lun UnOp.not (LV.bool false)) fun v13 =>
                      bsel v13 (R (LV.bool false) st)
                        (bd (bInt BinOp.add x7 (LV.int IntKind.i64 1)) fun v14 =>
                          P33_1 x0 x6 v14 R
                            st))))
            (bd (bInt BinOp.gtr x7 (LV.int IntKind.i64 0)) fun v15 =>
              bsel v15
                (bd (bInt BinOp.geq v1 (LV.int IntKind.u8 48)) fun v16 =>
                  bsel v16
                    (bd (bInt BinOp.leq v1 (LV.int IntKind.u8 57)) fun v17 =>
                      bd (lun UnOp.not v17) fun v18 =>
                        bsel v18 (R (LV.bool false) st)
                          (bd (bInt BinOp.add x7 (LV.int IntKind.i64 1)) fun v19 =>
                            P33_1 x0 x6 v19 R
                              st))
                    (bd (lun UnOp.not (LV.bool false)) fun v20 =>
                      bsel v20 (R (LV.bool false) st)
                        (bd (bInt BinOp.add x7 (LV.int IntKind.i64 1)) fun v21 =>
                          P33_1 x0 x6 v21 R
                            st)))
                (bd (lun UnOp.not (LV.bool false)) fun v22 =>
                  bsel v22 (R (LV.bool false) st)
                    (bd (bInt BinOp.add x7 (LV.int IntKind.i64 1)) fun v23 =>
                      P33_1 x0 x6 v23 R
                        st))))
      (bd (bStr BinOp.neq x0 (LV.str [])) fun v24 => bsel v24 (bd (lenStr x0) fun v25 => bd (bInt BinOp.leq v25 (LV.int IntKind.i64 20)) fun v26 => R v26 st) (R (LV.bool false) st))
theorem w33_1_eq (x0 x6 x7 : LV) (R : LV → LState → Prop) (st : LState) : levT Tryd.prog [.tmp 2] R [1, 2, 3, 4, 5, 8, 9, 10, 11, 12, 13, 14, 15, 16, 17, 18, 19, 20, 21, 22, 23, 24, 25, 26, 27, 28, 29, 30, 31, 32, 33, 34, 35, 36, 37, 38, 39] [] 3000 (stepIn (pointN Tryd.f33 1)) [x0, .junk, .junk, .junk, .junk, .junk, x6, x7, .junk, .junk, .junk, .junk, .junk, .junk, .junk, .junk, .junk, .junk, .junk, .junk, .junk, .junk, .junk, .junk, .junk, .junk, .junk, .junk, .junk, .junk, .junk, .junk, .junk, .junk, .junk, .junk, .junk, .junk, .junk, .junk] st = w33_1 x0 x6 x7 R st := by kernel_rfl
theorem p33_1 (x0 x6 x7 : LV) {R : LV → LState → Prop} {st : LState} (h : w33_1 x0 x6 x7 R st) : P33_1 x0 x6 x7 R st :=
  LT.at cm_mixed 3000 (Eq.mpr (w33_1_eq x0 x6 x7 R st) h)

/-- cmp.Or[int] -/
def w37 (a0 : LV) (R : LV → LState → Prop) (st : LState) : Prop :=
  bd (lenSl a0) fun v0 =>
    P37_1 (LV.int IntKind.i64 0) a0 v0 (LV.int IntKind.i64 0) R
      st
theorem w37_eq (a0 : LV) (R : LV → LState → Prop) (st : LState) : levT Tryd.prog [.tmp 2] R [0, 1, 2, 4, 5, 9, 10, 11, 12, 13, 14, 15, 16, 17] [] 3000 [.code (bodyOf Tryd.f37)] ([a0] ++ List.replicate (Tryd.f37.ntmps - 1) lundef) st = w37 a0 R st := by kernel_rfl
theorem c37 (a0 : LV) {R : LV → LState → Prop} {st : LState} (h : w37 a0 R st) : LCalls Tryd.prog 37 [a0] st R :=
  LCalls.of cm_mixed Tryd.func37 (show Tryd.f37.body = some (bodyOf Tryd.f37) by kernel_rfl) (by kernel_rfl) (show Tryd.f37.results.toList = [.tmp 2] by kernel_rfl) (levT_sound cm_mixed 3000 (Eq.mpr (w37_eq a0 R st) h))

/-- cmp.Or[int], from point 1 on -/
def w37_1 (x3 x6 x7 x8 : LV) (R : LV → LState → Prop) (st : LState) : Prop :=
  bd (bInt BinOp.lss x8 x7) fun v0 =>
    bsel v0
      (bd (ixSl 1 x6 x8) fun v1 =>
        bd (ld1 st v1) fun v2 =>
          bd (bInt BinOp.neq v2 x3) fun v3 =>
            bsel v3 (R v2 st)
              (bd (bInt BinOp.add x8 (LV.int IntKind.i64 1)) fun v4 =>
                P37_1 x3 x6 x7 v4 R st))
      (R x3 st)
theorem w37_1_eq (x3 x6 x7 x8 : LV) (R : LV → LState → Prop) (st : LState) : levT Tryd.prog [.tmp 2] R [0, 1, 2, 4, 5, 9, 10, 11, 12, 13, 14, 15, 16, 17] [] 3000 (stepIn (pointN Tryd.f37 1)) [.junk, .junk, .junk, x3, .junk, .junk, x6, x7, x8, .junk, .junk, .junk, .junk, .junk, .junk, .junk, .junk, .junk] st = w37_1 x3 x6 x7 x8 R st := by kernel_rfl
theorem p37_1 (x3 x6 x7 x8 : LV) {R : LV → LState → Prop} {st : LState} (h : w37_1 x3 x6 x7 x8 R st) : P37_1 x3 x6 x7 x8 R st :=
  LT.at cm_mixed 3000 (Eq.mpr (w37_1_eq x3 x6 x7 x8 R st) h)

/-- slices.Compare[[]string,string] -/
def w38 (a0 a1 : LV) (R : LV → LState → Prop) (st : LState) : Prop :=
  bd (lenSl a0) fun v0 =>
    P38_1 a0 a1 a0 v0 (LV.int IntKind.i64 0) R
      st
theorem w38_eq (a0 a1 : LV) (R : LV → LState → Prop) (st : LState) : levT Tryd.prog [.tmp 4] R [2, 3, 4, 5, 6, 7, 8, 12, 13, 14, 15, 16, 17, 18, 19, 20, 21, 22, 23, 24, 25, 26, 27, 28, 29, 30, 31, 32, 33, 34, 35] [] 3000 [.code (bodyOf Tryd.f38)] ([a0, a1] ++ List.replicate (Tryd.f38.ntmps - 2) lundef) st = w38 a0 a1 R st := by kernel_rfl
theorem c38 (a0 a1 : LV) {R : LV → LState → Prop} {st : LState} (h : w38 a0 a1 R st) : LCalls Tryd.prog 38 [a0, a1] st R :=
  LCalls.of cm_mixed Tryd.func38 (show Tryd.f38.body = some (bodyOf Tryd.f38) by kernel_rfl) (by kernel_rfl) (show Tryd.f38.results.toList = [.tmp 4] by kernel_rfl) (levT_sound cm_mixed 3000 (Eq.mpr (w38_eq a0 a1 R st) h))

/-- slices.Compare[[]string,string], from point 1 on -/
def w38_1 (x0 x1 x9 x10 x11 : LV) (R : LV → LState → Prop) (st : LState) : Prop :=
  bd (bInt BinOp.lss x11 x10) fun v0 =>
    bsel v0
      (bd (ixSl 1 x9 x11) fun v1 =>
        bd (ld1 st v1) fun v2 =>
          bd (lenSl x1) fun v3 =>
            bd (bInt BinOp.geq x11 v3) fun v4 =>
              bsel v4 (R (LV.int IntKind.i64 1) st)
                (bd (ixSl 1 x1 x11) fun v5 =>
                  bd (ld1 st v5) fun v6 =>
                    LCalls Tryd.prog 50 [v2, v6] st fun v7 st8 =>
                      bd (bInt BinOp.neq v7 (LV.int IntKind.i64 0)) fun v9 =>
                        bsel v9 (R v7 st8)
                          (bd (bInt BinOp.add x11 (LV.int IntKind.i64 1)) fun v10 =>
                            P38_1 x0 x1 x9 x10 v10 R
                              st8)))
      (bd (lenSl x0) fun v11 => bd (lenSl x1) fun v12 => bd (bInt BinOp.lss v11 v12) fun v13 => bsel v13 (R (LV.int IntKind.i64 (-1)) st) (R (LV.int IntKind.i64 0) st))
theorem w38_1_eq (x0 x1 x9 x10 x11 : LV) (R : LV → LState → Prop) (st : LState) : levT Tryd.prog [.tmp 4] R [2, 3, 4, 5, 6, 7, 8, 12, 13, 14, 15, 16, 17, 18, 19, 20, 21, 22, 23, 24, 25, 26, 27, 28, 29, 30, 31, 32, 33, 34, 35] [] 3000 (stepIn (pointN Tryd.f38 1)) [x0, x1, .junk, .junk, .junk, .junk, .junk, .junk, .junk, x9, x10, x11, .junk, .junk, .junk, .junk, .junk, .junk, .junk, .junk, .junk, .junk, .junk, .junk, .junk, .junk, .junk, .junk, .junk, .junk, .junk, .junk, .junk, .junk, .junk, .junk] st = w38_1 x0 x1 x9 x10 x11 R st := by kernel_rfl
theorem p38_1 (x0 x1 x9 x10 x11 : LV) {R : LV → LState → Prop} {st : LState} (h : w38_1 x0 x1 x9 x10 x11 R st) : P38_1 x0 x1 x9 x10 x11 R st :=
  LT.at cm_mixed 3000 (Eq.mpr (w38_1_eq x0 x1 x9 x10 x11 R st) h)

/-- cmp.Compare[int] -/
def w39 (a0 a1 : LV) (R : LV → LState → Prop) (st : LState) : Prop :=
  LCalls Tryd.prog 51 [a0] st fun v0 st1 =>
    LCalls Tryd.prog 51 [a1] st1 fun v2 st3 =>
      bsel v0 (bsel v2 (R (LV.int IntKind.i64 0) st3) (R (LV.int IntKind.i64 (-1)) st3))
        (bsel v2 (R (LV.int IntKind.i64 1) st3)
          (bd (bInt BinOp.lss a0 a1) fun v4 =>
            bsel v4 (R (LV.int IntKind.i64 (-1)) st3) (bd (bInt BinOp.gtr a0 a1) fun v5 => bsel v5 (R (LV.int IntKind.i64 1) st3) (R (LV.int IntKind.i64 0) st3))))
theorem w39_eq (a0 a1 : LV) (R : LV → LState → Prop) (st : LState) : levT Tryd.prog [.tmp 4] R [] [] 3000 [.code (bodyOf Tryd.f39)] ([a0, a1] ++ List.replicate (Tryd.f39.ntmps - 2) lundef) st = w39 a0 a1 R st := by kernel_rfl
theorem c39 (a0 a1 : LV) {R : LV → LState → Prop} {st : LState} (h : w39 a0 a1 R st) : LCalls Tryd.prog 39 [a0, a1] st R :=
  LCalls.of cm_mixed Tryd.func39 (show Tryd.f39.body = some (bodyOf Tryd.f39) by kernel_rfl) (by kernel_rfl) (show Tryd.f39.results.toList = [.tmp 4] by kernel_rfl) (levT_sound cm_mixed 3000 (Eq.mpr (w39_eq a0 a1 R st) h))

/-- slices.Clone[[]flange.address.Address,flange.address.Address] -/
def w40 (a0 : LV) (R : LV → LState → Prop) (st : LState) : Prop :=
  bd (eqB BinOp.eql (eqSl a0 LV.nils)) fun v0 =>
    bsel v0 (R LV.nils st)
      (bd2 (slNew st 0 (lfill (fun i => some (i * 4, 4)) (List.replicate 0 [LV.str [], LV.str [], LV.str [], LV.int IntKind.i64 0]).flatten [])) fun v1 st2 =>
        bd2 (lappend st2 4 56 Md.rw v1 a0) fun v3 st4 => R v3 st4)
theorem w40_eq (a0 : LV) (R : LV → LState → Prop) (st : LState) : levT Tryd.prog [.tmp 2] R [] [] 3000 [.code (bodyOf Tryd.f40)] ([a0] ++ List.replicate (Tryd.f40.ntmps - 1) lundef) st = w40 a0 R st := by kernel_rfl
theorem c40 (a0 : LV) {R : LV → LState → Prop} {st : LState} (h : w40 a0 R st) : LCalls Tryd.prog 40 [a0] st R :=
  LCalls.of cm_mixed Tryd.func40 (show Tryd.f40.body = some (bodyOf Tryd.f40) by kernel_rfl) (by kernel_rfl) (show Tryd.f40.results.toList = [.tmp 2] by kernel_rfl) (levT_sound cm_mixed 3000 (Eq.mpr (w40_eq a0 R st) h))

/-- slices.Compact[[]flange.address.Address,flange.address.Address] -/
def w42 (a0 : LV) (R : LV → LState → Prop) (st : LState) : Prop :=
  bd (lenSl a0) fun v0 =>
    bd (bInt BinOp.lss v0 (LV.int IntKind.i64 2)) fun v1 =>
      bsel v1 (R a0 st)
        (P42_1 a0 (LV.int IntKind.i64 1) (LV.tup []) (LV.tup []) R
          st)
theorem w42_eq (a0 : LV) (R : LV → LState → Prop) (st : LState) : levT Tryd.prog [.tmp 2] R [1, 2, 6, 7, 8, 9, 10, 11, 12, 13, 14, 15, 16, 17, 18, 19, 20, 21, 22, 23, 24, 25, 26, 27, 28, 29, 30, 31, 32, 33, 34, 35, 36, 37, 38, 39, 40, 41, 42, 43, 44, 45, 46, 47, 48, 49, 50, 51, 52, 53, 54, 55, 56, 57, 58, 59, 60] [] 3000 [.code (bodyOf Tryd.f42)] ([a0] ++ List.replicate (Tryd.f42.ntmps - 1) lundef) st = w42 a0 R st := by kernel_rfl
theorem c42 (a0 : LV) {R : LV → LState → Prop} {st : LState} (h : w42 a0 R st) : LCalls Tryd.prog 42 [a0] st R :=
  LCalls.of cm_mixed Tryd.func42 (show Tryd.f42.body = some (bodyOf Tryd.f42) by kernel_rfl) (by kernel_rfl) (show Tryd.f42.results.toList = [.tmp 2] by kernel_rfl) (levT_sound cm_mixed 3000 (Eq.mpr (w42_eq a0 R st) h))

/-- slices.Compact[[]flange.address.Address,flange.address.Address], from point 1 on -/
def w42_1 (x0 x3 x4 x5 : LV) (R : LV → LState → Prop) (st : LState) : Prop :=
  bd (lenSl x0) fun v0 =>
    bd (bInt BinOp.lss x3 v0) fun v1 =>
      bsel v1
        (bd (ixSl 4 x0 x3) fun v2 =>
          bd (ldA st v2 4) fun v3 =>
            bd (bInt BinOp.sub x3 (LV.int IntKind.i64 1)) fun v4 =>
              bd (ixSl 4 x0 v4) fun v5 =>
                bd (ldA st v5 4) fun v6 =>
                  bd
                    (eqB BinOp.eql
                      (eqAgg
                        (leq
                          Tryd.prog
                          64 23)
                        v3 v6))
                    fun v7 =>
                    bsel v7
                      (bd (ob3 (some x3) none none fun l h m => slRoom st 4 x0 l h m) fun v8 =>
                        P42_4 x0 x3 v8 (LV.int IntKind.i64 1) R
                          st)
                      (bd (bInt BinOp.add x3 (LV.int IntKind.i64 1)) fun v9 =>
                        P42_1 x0 v9 x4 x5 R
                          st))
        (R x0 st)
theorem w42_1_eq (x0 x3 x4 x5 : LV) (R : LV → LState → Prop) (st : LState) : levT Tryd.prog [.tmp 2] R [1, 2, 6, 7, 8, 9, 10, 11, 12, 13, 14, 15, 16, 17, 18, 19, 20, 21, 22, 23, 24, 25, 26, 27, 28, 29, 30, 31, 32, 33, 34, 35, 36, 37, 38, 39, 40, 41, 42, 43, 44, 45, 46, 47, 48, 49, 50, 51, 52, 53, 54, 55, 56, 57, 58, 59, 60] [] 3000 (stepIn (pointN Tryd.f42 1)) [x0, .junk, .junk, x3, x4, x5, .junk, .junk, .junk, .junk, .junk, .junk, .junk, .junk, .junk, .junk, .junk, .junk, .junk, .junk, .junk, .junk, .junk, .junk, .junk, .junk, .junk, .junk, .junk, .junk, .junk, .junk, .junk, .junk, .junk, .junk, .junk, .junk, .junk, .junk, .junk, .junk, .junk, .junk, .junk, .junk, .junk, .junk, .junk, .junk, .junk, .junk, .junk, .junk, .junk, .junk, .junk, .junk, .junk, .junk, .junk] st = w42_1 x0 x3 x4 x5 R st := by kernel_rfl
theorem p42_1 (x0 x3 x4 x5 : LV) {R : LV → LState → Prop} {st : LState} (h : w42_1 x0 x3 x4 x5 R st) : P42_1 x0 x3 x4 x5 R st :=
  LT.at cm_mixed 3000 (Eq.mpr (w42_1_eq x0 x3 x4 x5 R st) h)

/-- slices.Compact[[]flange.address.Address,flange.address.Address], from point 4 on -/
def w42_4 (x0 x3 x4 x5 : LV) (R : LV → LState → Prop) (st : LState) : Prop :=
  bd (lenSl x4) fun v0 =>
    bd (bInt BinOp.lss x5 v0) fun v1 =>
      bsel v1
        (bd (ixSl 4 x4 x5) fun v2 =>
          bd (ldA st v2 4) fun v3 =>
            bd (bInt BinOp.sub x5 (LV.int IntKind.i64 1)) fun v4 =>
              bd (ixSl 4 x4 v4) fun v5 =>
                bd (ldA st v5 4) fun v6 =>
                  bd
                    (eqB BinOp.neq
                      (eqAgg
                        (leq
                          Tryd.prog
                          64 23)
                        v3 v6))
                    fun v7 =>
                    bsel v7
                      (bd (ixSl 4 x4 x5) fun v8 =>
                        bd (ldA st v8 4) fun v9 =>
                          bd (ixSl 4 x0 x3) fun v10 =>
                            bd2 (lmk (stV st 4 v10 v9)) fun _v11 st12 =>
                              bd (bInt BinOp.add x3 (LV.int IntKind.i64 1)) fun v13 =>
                                bd (bInt BinOp.add x5 (LV.int IntKind.i64 1)) fun v14 =>
                                  P42_4 x0 v13 x4 v14 R
                                    st12)
                      (bd (bInt BinOp.add x5 (LV.int IntKind.i64 1)) fun v15 =>
                        P42_4 x0 x3 x4 v15 R
                          st))
        (bd (ob3 (some x3) none none fun l h m => slRoom st 4 x0 l h m) fun v16 =>
          bd2 (lmk (lclear st [LV.str [], LV.str [], LV.str [], LV.int IntKind.i64 0] v16)) fun _v17 st18 =>
            bd (ob3 none (some x3) none fun l h m => slRoom st18 4 x0 l h m) fun v19 => R v19 st18)
theorem w42_4_eq (x0 x3 x4 x5 : LV) (R : LV → LState → Prop) (st : LState) : levT Tryd.prog [.tmp 2] R [1, 2, 6, 7, 8, 9, 10, 11, 12, 13, 14, 15, 16, 17, 18, 19, 20, 21, 22, 23, 24, 25, 26, 27, 28, 29, 30, 31, 32, 33, 34, 35, 36, 37, 38, 39, 40, 41, 42, 43, 44, 45, 46, 47, 48, 49, 50, 51, 52, 53, 54, 55, 56, 57, 58, 59, 60] [] 3000 (stepIn (pointN Tryd.f42 4)) [x0, .junk, .junk, x3, x4, x5, .junk, .junk, .junk, .junk, .junk, .junk, .junk, .junk, .junk, .junk, .junk, .junk, .junk, .junk, .junk, .junk, .junk, .junk, .junk, .junk, .junk, .junk, .junk, .junk, .junk, .junk, .junk, .junk, .junk, .junk, .junk, .junk, .junk, .junk, .junk, .junk, .junk, .junk, .junk, .junk, .junk, .junk, .junk, .junk, .junk, .junk, .junk, .junk, .junk, .junk, .junk, .junk, .junk, .junk, .junk] st = w42_4 x0 x3 x4 x5 R st := by kernel_rfl
theorem p42_4 (x0 x3 x4 x5 : LV) {R : LV → LState → Prop} {st : LState} (h : w42_4 x0 x3 x4 x5 R st) : P42_4 x0 x3 x4 x5 R st :=
  LT.at cm_mixed 3000 (Eq.mpr (w42_4_eq x0 x3 x4 x5 R st) h)

/-- strings.genSplit -/
def w43 (a0 a1 a2 a3 : LV) (R : LV → LState → Prop) (st : LState) : Prop :=
  bd (bInt BinOp.eql a3 (LV.int IntKind.i64 0)) fun v0 =>
    bsel v0 (R LV.nils st)
      (bd (bStr BinOp.eql a1 (LV.str [])) fun v1 =>
        bsel v1 (LCalls Tryd.prog 54 [a0, a3] st fun v2 st3 => R v2 st3)
          (bd (bInt BinOp.lss a3 (LV.int IntKind.i64 0)) fun v4 =>
            bsel v4
              (LCalls Tryd.prog 55 [a0, a1] st fun v5 st6 =>
                bd (bInt BinOp.add v5 (LV.int IntKind.i64 1)) fun v7 =>
                  bd (lenStr a0) fun v8 =>
                    bd (bInt BinOp.add v8 (LV.int IntKind.i64 1)) fun v9 =>
                      bd (lmins [v7, v9]) fun v10 =>
                        bd2 (lmakeSl 16 [LV.str []] st6 v10 v10) fun v11 st12 =>
                          bd (bInt BinOp.sub v10 (LV.int IntKind.i64 1)) fun v13 =>
                            P43_1 a0 a1 a2 v13 v11 (LV.int IntKind.i64 0) R
                              st12)
              (bd (lenStr a0) fun v14 =>
                bd (bInt BinOp.add v14 (LV.int IntKind.i64 1)) fun v15 =>
                  bd (lmins [a3, v15]) fun v16 =>
                    bd2 (lmakeSl 16 [LV.str []] st v16 v16) fun v17 st18 =>
                      bd (bInt BinOp.sub v16 (LV.int IntKind.i64 1)) fun v19 =>
                        P43_1 a0 a1 a2 v19 v17 (LV.int IntKind.i64 0) R
                          st18)))
theorem w43_eq (a0 a1 a2 a3 : LV) (R : LV → LState → Prop) (st : LState) : levT Tryd.prog [.tmp 8] R [4, 5, 6, 7, 8, 11, 12, 13, 14, 15, 16, 17, 18, 19, 20, 21, 22, 23, 24, 25, 26, 27, 28, 29, 30, 31, 32, 33, 34, 35, 36, 37, 38, 39, 40, 41, 42, 43, 44, 45, 46, 47, 48, 49, 50, 51, 52, 53, 54, 55, 56, 57, 58, 59, 60, 61, 62, 63, 64, 65] [] 3000 [.code (bodyOf Tryd.f43)] ([a0, a1, a2, a3] ++ List.replicate (Tryd.f43.ntmps - 4) lundef) st = w43 a0 a1 a2 a3 R st := by kernel_rfl
theorem c43 (a0 a1 a2 a3 : LV) {R : LV → LState → Prop} {st : LState} (h : w43 a0 a1 a2 a3 R st) : LCalls Tryd.prog 43 [a0, a1, a2, a3] st R :=
  LCalls.of cm_mixed Tryd.func43 (show Tryd.f43.body = some (bodyOf Tryd.f43) by kernel_rfl) (by kernel_rfl) (show Tryd.f43.results.toList = [.tmp 8] by kernel_rfl) (levT_sound cm_mixed 3000 (Eq.mpr (w43_eq a0 a1 a2 a3 R st) h))

/-- strings.genSplit, from point 1 on -/
def w43_1 (x0 x1 x2 x3 x9 x10 : LV) (R : LV → LState → Prop) (st : LState) : Prop :=
  bd (bInt BinOp.lss x10 x3) fun v0 =>
    bsel v0
      (LCalls Tryd.prog 56 [x0, x1] st fun v1 st2 =>
        bd (bInt BinOp.lss v1 (LV.int IntKind.i64 0)) fun v3 =>
          bsel v3
            (bd (ixSl 1 x9 x10) fun v4 =>
              bd2 (lmk (stV st2 1 v4 x0)) fun _v5 st6 =>
                bd (bInt BinOp.add x10 (LV.int IntKind.i64 1)) fun v7 => bd (ob3 none (some v7) none fun l h m => slRoom st6 1 x9 l h m) fun v8 => R v8 st6)
            (bd (bInt BinOp.add v1 x2) fun v9 =>
              bd (ob3 none (some v9) none fun l h m => slStr x0 l h m) fun v10 =>
                bd (ixSl 1 x9 x10) fun v11 =>
                  bd2 (lmk (stV st2 1 v11 v10)) fun _v12 st13 =>
                    bd (lenStr x1) fun v14 =>
                      bd (bInt BinOp.add v1 v14) fun v15 =>
                        bd (ob3 (some v15) none none fun l h m => slStr x0 l h m) fun v16 =>
                          bd (bInt BinOp.add x10 (LV.int IntKind.i64 1)) fun v17 =>
                            P43_1 v16 x1 x2 x3 x9 v17 R
                              st13))
      (bd (ixSl 1 x9 x10) fun v18 =>
        bd2 (lmk (stV st 1 v18 x0)) fun _v19 st20 =>
          bd (bInt BinOp.add x10 (LV.int IntKind.i64 1)) fun v21 => bd (ob3 none (some v21) none fun l h m => slRoom st20 1 x9 l h m) fun v22 => R v22 st20)
theorem w43_1_eq (x0 x1 x2 x3 x9 x10 : LV) (R : LV → LState → Prop) (st : LState) : levT Tryd.prog [.tmp 8] R [4, 5, 6, 7, 8, 11, 12, 13, 14, 15, 16, 17, 18, 19, 20, 21, 22, 23, 24, 25, 26, 27, 28, 29, 30, 31, 32, 33, 34, 35, 36, 37, 38, 39, 40, 41, 42, 43, 44, 45, 46, 47, 48, 49, 50, 51, 52, 53, 54, 55, 56, 57, 58, 59, 60, 61, 62, 63, 64, 65] [] 3000 (stepIn (pointN Tryd.f43 1)) [x0, x1, x2, x3, .junk, .junk, .junk, .junk, .junk, x9, x10, .junk, .junk, .junk, .junk, .junk, .junk, .junk, .junk, .junk, .junk, .junk, .junk, .junk, .junk, .junk, .junk, .junk, .junk, .junk, .junk, .junk, .junk, .junk, .junk, .junk, .junk, .junk, .junk, .junk, .junk, .junk, .junk, .junk, .junk, .junk, .junk, .junk, .junk, .junk, .junk, .junk, .junk, .junk, .junk, .junk, .junk, .junk, .junk, .junk, .junk, .junk, .junk, .junk, .junk, .junk] st = w43_1 x0 x1 x2 x3 x9 x10 R st := by kernel_rfl
theorem p43_1 (x0 x1 x2 x3 x9 x10 : LV) {R : LV → LState → Prop} {st : LState} (h : w43_1 x0 x1 x2 x3 x9 x10 R st) : P43_1 x0 x1 x2 x3 x9 x10 R st :=
  LT.at cm_mixed 3000 (Eq.mpr (w43_1_eq x0 x1 x2 x3 x9 x10 R st) h)

/-- cmp.Compare[string] -/
def w50 (a0 a1 : LV) (R : LV → LState → Prop) (st : LState) : Prop :=
  LCalls Tryd.prog 62 [a0] st fun v0 st1 =>
    LCalls Tryd.prog 62 [a1] st1 fun v2 st3 =>
      bsel v0 (bsel v2 (R (LV.int IntKind.i64 0) st3) (R (LV.int IntKind.i64 (-1)) st3))
        (bsel v2 (R (LV.int IntKind.i64 1) st3)
          (bd (bStr BinOp.lss a0 a1) fun v4 =>
            bsel v4 (R (LV.int IntKind.i64 (-1)) st3) (bd (bStr BinOp.gtr a0 a1) fun v5 => bsel v5 (R (LV.int IntKind.i64 1) st3) (R (LV.int IntKind.i64 0) st3))))
theorem w50_eq (a0 a1 : LV) (R : LV → LState → Prop) (st : LState) : levT Tryd.prog [.tmp 4] R [] [] 3000 [.code (bodyOf Tryd.f50)] ([a0, a1] ++ List.replicate (Tryd.f50.ntmps - 2) lundef) st = w50 a0 a1 R st := by kernel_rfl
theorem c50 (a0 a1 : LV) {R : LV → LState → Prop} {st : LState} (h : w50 a0 a1 R st) : LCalls Tryd.prog 50 [a0, a1] st R :=
  LCalls.of cm_mixed Tryd.func50 (show Tryd.f50.body = some (bodyOf Tryd.f50) by kernel_rfl) (by kernel_rfl) (show Tryd.f50.results.toList = [.tmp 4] by kernel_rfl) (levT_sound cm_mixed 3000 (Eq.mpr (w50_eq a0 a1 R st) h))

/-- cmp.isNaN[int] -/
def w51 (a0 : LV) (R : LV → LState → Prop) (st : LState) : Prop :=
  bd (bInt BinOp.neq a0 a0) fun v0 => R v0 st
theorem w51_eq (a0 : LV) (R : LV → LState → Prop) (st : LState) : levT Tryd.prog [.tmp 2] R [] [] 3000 [.code (bodyOf Tryd.f51)] ([a0] ++ List.replicate (Tryd.f51.ntmps - 1) lundef) st = w51 a0 R st := by kernel_rfl
theorem c51 (a0 : LV) {R : LV → LState → Prop} {st : LState} (h : w51 a0 R st) : LCalls Tryd.prog 51 [a0] st R :=
  LCalls.of cm_mixed Tryd.func51 (show Tryd.f51.body = some (bodyOf Tryd.f51) by kernel_rfl) (by kernel_rfl) (show Tryd.f51.results.toList = [.tmp 2] by kernel_rfl) (levT_sound cm_mixed 3000 (Eq.mpr (w51_eq a0 R st) h))

/-- strings.Count -/
def w55 (a0 a1 : LV) (R : LV → LState → Prop) (st : LState) : Prop :=
  bd (lenStr a1) fun v0 =>
    bd (bInt BinOp.eql v0 (LV.int IntKind.i64 0)) fun v1 =>
      bsel v1 (LCalls Tryd.prog 73 [a0] st fun v2 st3 => bd (bInt BinOp.add v2 (LV.int IntKind.i64 1)) fun v4 => R v4 st3)
        (bd (lenStr a1) fun v5 =>
          bd (bInt BinOp.eql v5 (LV.int IntKind.i64 1)) fun v6 =>
            bsel v6 (bd (ixStr a1 (LV.int IntKind.i64 0)) fun v7 => LCalls Tryd.prog 75 [a0, v7] st fun v8 st9 => R v8 st9)
              (P55_1 a0 a1 (LV.int IntKind.i64 0) R
                st))
theorem w55_eq (a0 a1 : LV) (R : LV → LState → Prop) (st : LState) : levT Tryd.prog [.tmp 4] R [2, 3, 4, 6, 7, 8, 9, 10, 11, 12, 13, 14, 15, 16, 17, 18, 19, 20, 21, 22, 23, 24, 25, 26, 27, 28, 29, 30, 31, 32, 33] [] 3000 [.code (bodyOf Tryd.f55)] ([a0, a1] ++ List.replicate (Tryd.f55.ntmps - 2) lundef) st = w55 a0 a1 R st := by kernel_rfl
theorem c55 (a0 a1 : LV) {R : LV → LState → Prop} {st : LState} (h : w55 a0 a1 R st) : LCalls Tryd.prog 55 [a0, a1] st R :=
  LCalls.of cm_mixed Tryd.func55 (show Tryd.f55.body = some (bodyOf Tryd.f55) by kernel_rfl) (by kernel_rfl) (show Tryd.f55.results.toList = [.tmp 4] by kernel_rfl) (levT_sound cm_mixed 3000 (Eq.mpr (w55_eq a0 a1 R st) h))

/-- strings.Count, from point 1 on -/
def w55_1 (x0 x1 x5 : LV) (R : LV → LState → Prop) (st : LState) : Prop :=
  LCalls Tryd.prog 56 [x0, x1] st fun v0 st1 =>
    bd (bInt BinOp.eql v0 (LV.int IntKind.i64 (-1))) fun v2 =>
      bsel v2 (R x5 st1)
        (bd (bInt BinOp.add x5 (LV.int IntKind.i64 1)) fun v3 =>
          bd (lenStr x1) fun v4 =>
            bd (bInt BinOp.add v0 v4) fun v5 =>
              bd (ob3 (some v5) none none fun l h m => slStr x0 l h m) fun v6 =>
                P55_1 v6 x1 v3 R
                  st1)
theorem w55_1_eq (x0 x1 x5 : LV) (R : LV → LState → Prop) (st : LState) : levT Tryd.prog [.tmp 4] R [2, 3, 4, 6, 7, 8, 9, 10, 11, 12, 13, 14, 15, 16, 17, 18, 19, 20, 21, 22, 23, 24, 25, 26, 27, 28, 29, 30, 31, 32, 33] [] 3000 (stepIn (pointN Tryd.f55 1)) [x0, x1, .junk, .junk, .junk, x5, .junk, .junk, .junk, .junk, .junk, .junk, .junk, .junk, .junk, .junk, .junk, .junk, .junk, .junk, .junk, .junk, .junk, .junk, .junk, .junk, .junk, .junk, .junk, .junk, .junk, .junk, .junk, .junk] st = w55_1 x0 x1 x5 R st := by kernel_rfl
theorem p55_1 (x0 x1 x5 : LV) {R : LV → LState → Prop} {st : LState} (h : w55_1 x0 x1 x5 R st) : P55_1 x0 x1 x5 R st :=
  LT.at cm_mixed 3000 (Eq.mpr (w55_1_eq x0 x1 x5 R st) h)

/-- strings.Index -/
def w56 (a0 a1 : LV) (R : LV → LState → Prop) (st : LState) : Prop :=
  LCalls Tryd.prog 76 [a0, a1] st fun v0 st1 => R v0 st1
theorem w56_eq (a0 a1 : LV) (R : LV → LState → Prop) (st : LState) : levT Tryd.prog [.tmp 4] R [] [] 3000 [.code (bodyOf Tryd.f56)] ([a0, a1] ++ List.replicate (Tryd.f56.ntmps - 2) lundef) st = w56 a0 a1 R st := by kernel_rfl
theorem c56 (a0 a1 : LV) {R : LV → LState → Prop} {st : LState} (h : w56 a0 a1 R st) : LCalls Tryd.prog 56 [a0, a1] st R :=
  LCalls.of cm_mixed Tryd.func56 (show Tryd.f56.body = some (bodyOf Tryd.f56) by kernel_rfl) (by kernel_rfl) (show Tryd.f56.results.toList = [.tmp 4] by kernel_rfl) (levT_sound cm_mixed 3000 (Eq.mpr (w56_eq a0 a1 R st) h))

/-- cmp.isNaN[string] -/
def w62 (a0 : LV) (R : LV → LState → Prop) (st : LState) : Prop :=
  bd (bStr BinOp.neq a0 a0) fun v0 => R v0 st
theorem w62_eq (a0 : LV) (R : LV → LState → Prop) (st : LState) : levT Tryd.prog [.tmp 2] R [] [] 3000 [.code (bodyOf Tryd.f62)] ([a0] ++ List.replicate (Tryd.f62.ntmps - 1) lundef) st = w62 a0 R st := by kernel_rfl
theorem c62 (a0 : LV) {R : LV → LState → Prop} {st : LState} (h : w62 a0 R st) : LCalls Tryd.prog 62 [a0] st R :=
  LCalls.of cm_mixed Tryd.func62 (show Tryd.f62.body = some (bodyOf Tryd.f62) by kernel_rfl) (by kernel_rfl) (show Tryd.f62.results.toList = [.tmp 2] by kernel_rfl) (levT_sound cm_mixed 3000 (Eq.mpr (w62_eq a0 R st) h))

/-- internal.stringslite.Index -/
def w76 (a0 a1 : LV) (R : LV → LState → Prop) (st : LState) : Prop :=
  bd (lenStr a1) fun v0 =>
    bd (bInt BinOp.eql v0 (LV.int IntKind.i64 0)) fun v1 =>
      bsel v1 (R (LV.int IntKind.i64 0) st)
        (bd (bStr BinOp.eql a1 a0) fun v2 =>
          bsel v2 (R (LV.int IntKind.i64 0) st)
            (bd (bInt BinOp.eql v0 (LV.int IntKind.i64 1)) fun v3 =>
              bsel v3 (bd (ixStr a1 (LV.int IntKind.i64 0)) fun v4 => LCalls Tryd.prog 94 [a0, v4] st fun v5 st6 => R v5 st6)
                (bd (lenStr a0) fun v7 =>
                  bd (bInt BinOp.geq v0 v7) fun v8 =>
                    bsel v8 (R (LV.int IntKind.i64 (-1)) st)
                      (bd (ld1 st (LV.glob 0 0)) fun v9 =>
                        bd (bInt BinOp.leq v0 v9) fun v10 =>
                          bsel v10
                            (bd (lenStr a0) fun v11 =>
                              bd (bInt BinOp.leq v11 (LV.int IntKind.i64 64)) fun v12 =>
                                bsel v12 (LCalls Tryd.prog 95 [a0, a1] st fun v13 st14 => R v13 st14)
                                  (bd (ixStr a1 (LV.int IntKind.i64 0)) fun v15 =>
                                    bd (ixStr a1 (LV.int IntKind.i64 1)) fun v16 =>
                                      bd (lenStr a0) fun v17 =>
                                        bd (bInt BinOp.sub v17 v0) fun v18 =>
                                          bd (bInt BinOp.add v18 (LV.int IntKind.i64 1)) fun v19 =>
                                            P76_2 a0 a1 v0 v15 v16 (LV.int IntKind.i64 0) v19 (LV.int IntKind.i64 0) R
                                              st))
                            (bd (ixStr a1 (LV.int IntKind.i64 0)) fun v20 =>
                              bd (ixStr a1 (LV.int IntKind.i64 1)) fun v21 =>
                                bd (lenStr a0) fun v22 =>
                                  bd (bInt BinOp.sub v22 v0) fun v23 =>
                                    bd (bInt BinOp.add v23 (LV.int IntKind.i64 1)) fun v24 =>
                                      P76_2 a0 a1 v0 v20 v21 (LV.int IntKind.i64 0) v24 (LV.int IntKind.i64 0) R
                                        st)))))
theorem w76_eq (a0 a1 : LV) (R : LV → LState → Prop) (st : LState) : levT Tryd.prog [.tmp 4] R [2, 3, 4, 11, 12, 13, 14, 15, 16, 17, 18, 19, 20, 21, 22, 23, 24, 25, 26, 27, 28, 29, 30, 31, 32, 33, 34, 35, 36, 37, 38, 39, 40, 41, 42, 43, 44, 45, 46, 47, 48, 49, 50, 51, 52, 53, 54, 55, 56, 57, 58, 59, 60, 61, 62, 63, 64, 65, 66, 67, 68, 69, 70, 71, 72, 73, 74, 75, 76, 77, 78, 79, 80, 81, 82, 83, 84, 85, 86, 87, 88, 89, 90, 91, 92, 93, 94, 95, 96, 97, 98, 99, 100, 101, 102, 103, 104, 105, 106, 107, 108, 109, 110, 111, 112, 113, 114, 115, 116, 117, 118, 119, 120, 121, 122, 123, 124, 125, 126, 127, 128, 129, 130, 131, 132, 133, 134, 135, 136, 137, 138, 139, 140, 141, 142] [] 3000 [.code (bodyOf Tryd.f76)] ([a0, a1] ++ List.replicate (Tryd.f76.ntmps - 2) lundef) st = w76 a0 a1 R st := by kernel_rfl
theorem c76 (a0 a1 : LV) {R : LV → LState → Prop} {st : LState} (h : w76 a0 a1 R st) : LCalls Tryd.prog 76 [a0, a1] st R :=
  LCalls.of cm_mixed Tryd.func76 (show Tryd.f76.body = some (bodyOf Tryd.f76) by kernel_rfl) (by kernel_rfl) (show Tryd.f76.results.toList = [.tmp 4] by kernel_rfl) (levT_sound cm_mixed 3000 (Eq.mpr (w76_eq a0 a1 R st) h))

/-- internal.stringslite.Index, from point 2 on -/
def w76_2 (x0 x1 x5 x6 x7 x8 x9 x10 : LV) (R : LV → LState → Prop) (st : LState) : Prop :=
  bd (bInt BinOp.lss x8 x9) fun v0 =>
    bsel v0
      (bd (ixStr x0 x8) fun v1 =>
        bd (bInt BinOp.neq v1 x6) fun v2 =>
          bsel v2
            (bd (bInt BinOp.add x8 (LV.int IntKind.i64 1)) fun v3 =>
              bd (ob3 (some v3) (some x9) none fun l h m => slStr x0 l h m) fun v4 =>
                LCalls Tryd.prog 94 [v4, x6] st fun v5 st6 =>
                  bd (bInt BinOp.lss v5 (LV.int IntKind.i64 0)) fun v7 =>
                    bsel v7 (R (LV.int IntKind.i64 (-1)) st6)
                      (bd (bInt BinOp.add v5 (LV.int IntKind.i64 1)) fun v8 =>
                        bd (bInt BinOp.add x8 v8) fun v9 =>
                          bd (bInt BinOp.add v9 (LV.int IntKind.i64 1)) fun v10 =>
                            bd (ixStr x0 v10) fun v11 =>
                              bd (bInt BinOp.eql v11 x7) fun v12 =>
                                bsel v12
                                  (bd (bInt BinOp.add v9 x5) fun v13 =>
                                    bd (ob3 (some v9) (some v13) none fun l h m => slStr x0 l h m) fun v14 =>
                                      bd (bStr BinOp.eql v14 x1) fun v15 =>
                                        bsel v15 (R v9 st6)
                                          (bd (bInt BinOp.add v9 (LV.int IntKind.i64 1)) fun v16 =>
                                            bd (bInt BinOp.add x10 (LV.int IntKind.i64 1)) fun v17 =>
                                              bd (ld1 st6 (LV.glob 0 0)) fun v18 =>
                                                bd (bInt BinOp.leq x5 v18) fun v19 =>
                                                  bsel v19
                                                    (LCalls Tryd.prog 96 [v16] st6 fun v20 st21 =>
                                                      bd (bInt BinOp.gtr v17 v20) fun v22 =>
                                                        bsel v22
                                                          (bd (ob3 (some v16) none none fun l h m => slStr x0 l h m) fun v23 =>
                                                            LCalls Tryd.prog 95 [v23, x1] st21 fun v24 st25 =>
                                                              bd (bInt BinOp.geq v24 (LV.int IntKind.i64 0)) fun v26 =>
                                                                bsel v26 (bd (bInt BinOp.add v24 v16) fun v27 => R v27 st25) (R (LV.int IntKind.i64 (-1)) st25))
                                                          (bd (ld1 st21 (LV.glob 0 0)) fun v28 =>
                                                            bd (bInt BinOp.gtr x5 v28) fun v29 =>
                                                              bsel v29
                                                                (bd (bShift BinOp.shr v16 (LV.int IntKind.u64 4)) fun v30 =>
                                                                  bd (bInt BinOp.add (LV.int IntKind.i64 4) v30) fun v31 =>
                                                                    bd (bInt BinOp.geq v17 v31) fun v32 =>
                                                                      bsel v32
                                                                        (bd (bInt BinOp.lss v16 x9) fun v33 =>
                                                                          bsel v33
                                                                            (bd (ob3 (some v16) none none fun l h m => slStr x0 l h m) fun v34 =>
                                                                              LCalls Tryd.prog 97 [v34, x1] st21 fun v35 st36 =>
                                                                                bd (bInt BinOp.lss v35 (LV.int IntKind.i64 0)) fun v37 =>
                                                                                  bsel v37 (R (LV.int IntKind.i64 (-1)) st36) (bd (bInt BinOp.add v16 v35) fun v38 => R v38 st36))
                                                                            (P76_2 x0 x1 x5 x6 x7 v16 x9 v17 R
                                                                              st21))
                                                                        (P76_2 x0 x1 x5 x6 x7 v16 x9 v17 R
                                                                          st21))
                                                                (P76_2 x0 x1 x5 x6 x7 v16 x9 v17 R
                                                                  st21)))
                                                    (bd (ld1 st6 (LV.glob 0 0)) fun v39 =>
                                                      bd (bInt BinOp.gtr x5 v39) fun v40 =>
                                                        bsel v40
                                                          (bd (bShift BinOp.shr v16 (LV.int IntKind.u64 4)) fun v41 =>
                                                            bd (bInt BinOp.add (LV.int IntKind.i64 4) v41) fun v42 =>
                                                              bd (bInt BinOp.geq v17 v42) fun v43 =>
                                                                bsel v43
                                                                  (bd (bInt BinOp.lss v16 x9) fun v44 =>
                                                                    bsel v44
                                                                      (bd (ob3 (some v16) none none fun l h m => slStr x0 l h m) fun v45 =>
                                                                        LCalls Tryd.prog 97 [v45, x1] st6 fun v46 st47 =>
                                                                          bd (bInt BinOp.lss v46 (LV.int IntKind.i64 0)) fun v48 =>
                                                                            bsel v48 (R (LV.int IntKind.i64 (-1)) st47) (bd (bInt BinOp.add v16 v46) fun v49 => R v49 st47))
                                                                      (P76_2 x0 x1 x5 x6 x7 v16 x9 v17 R
                                                                        st6))
                                                                  (P76_2 x0 x1 x5 x6 x7 v16 x9 v17 R
                                                                    st6))
                                                          (P76_2 x0 x1 x5 x6 x7 v16 x9 v17 R
                                                            st6))))
                                  (bd (bInt BinOp.add v9 (LV.int IntKind.i64 1)) fun v50 =>
                                    bd (bInt BinOp.add x10 (LV.int IntKind.i64 1)) fun v51 =>
                                      bd (ld1 st6 (LV.glob 0 0)) fun v52 =>
                                        bd (bInt BinOp.leq x5 v52) fun v53 =>
                                          bsel v53
                                            (LCalls Tryd.prog 96 [v50] st6 fun v54 st55 =>
                                              bd (bInt BinOp.gtr v51 v54) fun v56 =>
                                                bsel v56
                                                  (bd (ob3 (some v50) none none fun l h m => slStr x0 l h m) fun v57 =>
                                                    LCalls Tryd.prog 95 [v57, x1] st55 fun v58 st59 =>
                                                      bd (bInt BinOp.geq v58 (LV.int IntKind.i64 0)) fun v60 =>
                                                        bsel v60 (bd (bInt BinOp.add v58 v50) fun v61 => R v61 st59) (R (LV.int IntKind.i64 (-1)) st59))
                                                  (bd (ld1 st55 (LV.glob 0 0)) fun v62 =>
                                                    bd (bInt BinOp.gtr x5 v62) fun v63 =>
                                                      bsel v63
                                                        (bd (bShift BinOp.shr v50 (LV.int IntKind.u64 4)) fun v64 =>
                                                          bd (bInt BinOp.add (LV.int IntKind.i64 4) v64) fun v65 =>
                                                            bd (bInt BinOp.geq v51 v65) fun v66 =>
                                                              bsel v66
                                                                (bd (bInt BinOp.lss v50 x9) fun v67 =>
                                                                  bsel v67
                                                                    (bd (ob3 (some v50) none none fun l h m => slStr x0 l h m) fun v68 =>
                                                                      LCalls Tryd.prog 97 [v68, x1] st55 fun v69 st70 =>
                                                                        bd (bInt BinOp.lss v69 (LV.int IntKind.i64 0)) fun v71 =>
                                                                          bsel v71 (R (LV.int IntKind.i64 (-1)) st70) (bd (bInt BinOp.add v50 v69) fun v72 => R v72 st70))
                                                                    (P76_2 x0 x1 x5 x6 x7 v50 x9 v51 R
                                                                      st55))
                                                                (P76_2 x0 x1 x5 x6 x7 v50 x9 v51 R
                                                                  st55))
                                                        (P76_2 x0 x1 x5 x6 x7 v50 x9 v51 R
                                                          st55)))
                                            (bd (ld1 st6 (LV.glob 0 0)) fun v73 =>
                                              bd (bInt BinOp.gtr x5 v73) fun v74 =>
                                                bsel v74
                                                  (bd (bShift BinOp.shr v50 (LV.int IntKind.u64 4)) fun v75 =>
                                                    bd (bInt BinOp.add (LV.int IntKind.i64 4) v75) fun v76 =>
                                                      bd (bInt BinOp.geq v51 v76) fun v77 =>
                                                        bsel v77
                                                          (bd (bInt BinOp.lss v50 x9) fun v78 =>
                                                            bsel v78
                                                              (bd (ob3 (some v50) none none fun l h m => slStr x0 l h m) fun v79 =>
                                                                LCalls Tryd.prog 97 [v79, x1] st6 fun v80 st81 =>
                                                                  bd (bInt BinOp.lss v80 (LV.int IntKind.i64 0)) fun v82 =>
                                                                    bsel v82 (R (LV.int IntKind.i64 (-1)) st81) (bd (bInt BinOp.add v50 v80) fun v83 => R v83 st81))
                                                              (P76_2 x0 x1 x5 x6 x7 v50 x9 v51 R
                                                                st6))
                                                          (P76_2 x0 x1 x5 x6 x7 v50 x9 v51 R
                                                            st6))
                                                  (P76_2 x0 x1 x5 x6 x7 v50 x9 v51 R
                                                    st6)))))
            (bd (bInt BinOp.add x8 (LV.int IntKind.i64 1)) fun v84 =>
              bd (ixStr x0 v84) fun v85 =>
                bd (bInt BinOp.eql v85 x7) fun v86 =>
                  bsel v86
                    (bd (bInt BinOp.add x8 x5) fun v87 =>
                      bd (ob3 (some x8) (some v87) none fun l h m => slStr x0 l h m) fun v88 =>
                        bd (bStr BinOp.eql v88 x1) fun v89 =>
                          bsel v89 (R x8 st)
                            (bd (bInt BinOp.add x8 (LV.int IntKind.i64 1)) fun v90 =>
                              bd (bInt BinOp.add x10 (LV.int IntKind.i64 1)) fun v91 =>
                                bd (ld1 st (LV.glob 0 0)) fun v92 =>
                                  bd (bInt BinOp.leq x5 v92) fun v93 =>
                                    bsel v93
                                      (LCalls Tryd.prog 96 [v90] st fun v94 st95 =>
                                        bd (bInt BinOp.gtr v91 v94) fun v96 =>
                                          bsel v96
                                            (bd (ob3 (some v90) none none fun l h m => slStr x0 l h m) fun v97 =>
                                              LCalls Tryd.prog 95 [v97, x1] st95 fun v98 st99 =>
                                                bd (bInt BinOp.geq v98 (LV.int IntKind.i64 0)) fun v100 =>
                                                  bsel v100 (bd (bInt BinOp.add v98 v90) fun v101 => R v101 st99) (R (LV.int IntKind.i64 (-1)) st99))
                                            (bd (ld1 st95 (LV.glob 0 0)) fun v102 =>
                                              bd (bInt BinOp.gtr x5 v102) fun v103 =>
                                                bsel v103
                                                  (bd (bShift BinOp.shr v90 (LV.int IntKind.u64 4)) fun v104 =>
                                                    bd (bInt BinOp.add (LV.int IntKind.i64 4) v104) fun v105 =>
                                                      bd (bInt BinOp.geq v91 v105) fun v106 =>
                                                        bsel v106
                                                          (bd (bInt BinOp.lss v90 x9) fun v107 =>
                                                            bsel v107
                                                              (bd (ob3 (some v90) none none fun l h m => slStr x0 l h m) fun v108 =>
                                                                LCalls Tryd.prog 97 [v108, x1] st95 fun v109 st110 =>
                                                                  bd (bInt BinOp.lss v109 (LV.int IntKind.i64 0)) fun v111 =>
                                                                    bsel v111 (R (LV.int IntKind.i64 (-1)) st110) (bd (bInt BinOp.add v90 v109) fun v112 => R v112 st110))
                                                              (P76_2 x0 x1 x5 x6 x7 v90 x9 v91 R
                                                                st95))
                                                          (P76_2 x0 x1 x5 x6 x7 v90 x9 v91 R
                                                            st95))
                                                  (P76_2 x0 x1 x5 x6 x7 v90 x9 v91 R
                                                    st95)))
                                      (bd (ld1 st (LV.glob 0 0)) fun v113 =>
                                        bd (bInt BinOp.gtr x5 v113) fun v114 =>
                                          bsel v114
                                            (bd (bShift BinOp.shr v90 (LV.int IntKind.u64 4)) fun v115 =>
                                              bd (bInt BinOp.add (LV.int IntKind.i64 4) v115) fun v116 =>
                                                bd (bInt BinOp.geq v91 v116) fun v117 =>
                                                  bsel v117
                                                    (bd (bInt BinOp.lss v90 x9) fun v118 =>
                                                      bsel v118
                                                        (bd (ob3 (some v90) none none fun l h m => slStr x0 l h m) fun v119 =>
                                                          LCalls Tryd.prog 97 [v119, x1] st fun v120 st121 =>
                                                            bd (bInt BinOp.lss v120 (LV.int IntKind.i64 0)) fun v122 =>
                                                              bsel v122 (R (LV.int IntKind.i64 (-1)) st121) (bd (bInt BinOp.add v90 v120) fun v123 => R v123 st121))
                                                        (P76_2 x0 x1 x5 x6 x7 v90 x9 v91 R
                                                          st))
                                                    (P76_2 x0 x1 x5 x6 x7 v90 x9 v91 R
                                                      st))
                                            (P76_2 x0 x1 x5 x6 x7 v90 x9 v91 R
                                              st))))
                    (bd (bInt BinOp.add x8 (LV.int IntKind.i64 1)) fun v124 =>
                      bd (bInt BinOp.add x10 (LV.int IntKind.i64 1)) fun v125 =>
                        bd (ld1 st (LV.glob 0 0)) fun v126 =>
                          bd (bInt BinOp.leq x5 v126) fun v127 =>
                            bsel v127
                              (LCalls Tryd.prog 96 [v124] st fun v128 st129 =>
                                bd (bInt BinOp.gtr v125 v128) fun v130 =>
                                  bsel v130
                                    (bd (ob3 (some v124) none none fun l h m => slStr x0 l h m) fun v131 =>
                                      LCalls Tryd.prog 95 [v131, x1] st129 fun v132 st133 =>
                                        bd (bInt BinOp.geq v132 (LV.int IntKind.i64 0)) fun v134 =>
                                          bsel v134 (bd (bInt BinOp.add v132 v124) fun v135 => R v135 st133) (R (LV.int IntKind.i64 (-1)) st133))
                                    (bd (ld1 st129 (LV.glob 0 0)) fun v136 =>
                                      bd (bInt BinOp.gtr x5 v136) fun v137 =>
                                        bsel v137
                                          (bd (bShift BinOp.shr v124 (LV.int IntKind.u64 4)) fun v138 =>
                                            bd (bInt BinOp.add (LV.int IntKind.i64 4) v138) fun v139 =>
                                              bd (bInt BinOp.geq v125 v139) fun v140 =>
                                                bsel v140
                                                  (bd (bInt BinOp.lss v124 x9) fun v141 =>
                                                    bsel v141
                                                      (bd (ob3 (some v124) none none fun l h m => slStr x0 l h m) fun v142 =>
                                                        LCalls Tryd.prog 97 [v142, x1] st129 fun v143 st144 =>
                                                          bd (bInt BinOp.lss v143 (LV.int IntKind.i64 0)) fun v145 =>
                                                            bsel v145 (R (LV.int IntKind.i64 (-1)) st144) (bd (bInt BinOp.add v124 v143) fun v146 => R v146 st144))
                                                      (P76_2 x0 x1 x5 x6 x7 v124 x9 v125 R
                                                        st129))
                                                  (P76_2 x0 x1 x5 x6 x7 v124 x9 v125 R
                                                    st129))
                                          (P76_2 x0 x1 x5 x6 x7 v124 x9 v125 R
                                            st129)))
                              (bd (ld1 st (LV.glob 0 0)) fun v147 =>
                                bd (bInt BinOp.gtr x5 v147) fun v148 =>
                                  bsel v148
                                    (bd (bShift BinOp.shr v124 (LV.int IntKind.u64 4)) fun v149 =>
                                      bd (bInt BinOp.add (LV.int IntKind.i64 4) v149) fun v150 =>
                                        bd (bInt BinOp.geq v125 v150) fun v151 =>
                                          bsel v151
                                            (bd (bInt BinOp.lss v124 x9) fun v152 =>
                                              bsel v152
                                                (bd (ob3 (some v124) none none fun l h m => slStr x0 l h m) fun v153 =>
                                                  LCalls Tryd.prog 97 [v153, x1] st fun v154 st155 =>
                                                    bd (bInt BinOp.lss v154 (LV.int IntKind.i64 0)) fun v156 =>
                                                      bsel v156 (R (LV.int IntKind.i64 (-1)) st155) (bd (bInt BinOp.add v124 v154) fun v157 => R v157 st155))
                                                (P76_2 x0 x1 x5 x6 x7 v124 x9 v125 R
                                                  st))
                                            (P76_2 x0 x1 x5 x6 x7 v124 x9 v125 R
                                              st))
                                    (P76_2 x0 x1 x5 x6 x7 v124 x9 v125 R
                                      st)))))
      (R (LV.int IntKind.i64 (-1)) st)
theorem w76_2_eq (x0 x1 x5 x6 x7 x8 x9 x10 : LV) (R : LV → LState → Prop) (st : LState) : levT Tryd.prog [.tmp 4] R [2, 3, 4, 11, 12, 13, 14, 15, 16, 17, 18, 19, 20, 21, 22, 23, 24, 25, 26, 27, 28, 29, 30, 31, 32, 33, 34, 35, 36, 37, 38, 39, 40, 41, 42, 43, 44, 45, 46, 47, 48, 49, 50, 51, 52, 53, 54, 55, 56, 57, 58, 59, 60, 61, 62, 63, 64, 65, 66, 67, 68, 69, 70, 71, 72, 73, 74, 75, 76, 77, 78, 79, 80, 81, 82, 83, 84, 85, 86, 87, 88, 89, 90, 91, 92, 93, 94, 95, 96, 97, 98, 99, 100, 101, 102, 103, 104, 105, 106, 107, 108, 109, 110, 111, 112, 113, 114, 115, 116, 117, 118, 119, 120, 121, 122, 123, 124, 125, 126, 127, 128, 129, 130, 131, 132, 133, 134, 135, 136, 137, 138, 139, 140, 141, 142] [] 3000 (stepIn (pointN Tryd.f76 2)) [x0, x1, .junk, .junk, .junk, x5, x6, x7, x8, x9, x10, .junk, .junk, .junk, .junk, .junk, .junk, .junk, .junk, .junk, .junk, .junk, .junk, .junk, .junk, .junk, .junk, .junk, .junk, .junk, .junk, .junk, .junk, .junk, .junk, .junk, .junk, .junk, .junk, .junk, .junk, .junk, .junk, .junk, .junk, .junk, .junk, .junk, .junk, .junk, .junk, .junk, .junk, .junk, .junk, .junk, .junk, .junk, .junk, .junk, .junk, .junk, .junk, .junk, .junk, .junk, .junk, .junk, .junk, .junk, .junk, .junk, .junk, .junk, .junk, .junk, .junk, .junk, .junk, .junk, .junk, .junk, .junk, .junk, .junk, .junk, .junk, .junk, .junk, .junk, .junk, .junk, .junk, .junk, .junk, .junk, .junk, .junk, .junk, .junk, .junk, .junk, .junk, .junk, .junk, .junk, .junk, .junk, .junk, .junk, .junk, .junk, .junk, .junk, .junk, .junk, .junk, .junk, .junk, .junk, .junk, .junk, .junk, .junk, .junk, .junk, .junk, .junk, .junk, .junk, .junk, .junk, .junk, .junk, .junk, .junk, .junk, .junk, .junk, .junk, .junk, .junk, .junk] st = w76_2 x0 x1 x5 x6 x7 x8 x9 x10 R st := by kernel_rfl
theorem p76_2 (x0 x1 x5 x6 x7 x8 x9 x10 : LV) {R : LV → LState → Prop} {st : LState} (h : w76_2 x0 x1 x5 x6 x7 x8 x9 x10 R st) : P76_2 x0 x1 x5 x6 x7 x8 x9 x10 R st :=
  LT.at cm_mixed 3000 (Eq.mpr (w76_2_eq x0 x1 x5 x6 x7 x8 x9 x10 R st) h)

/-- internal.stringslite.IndexByte -/
def w94 (a0 a1 : LV) (R : LV → LState → Prop) (st : LState) : Prop :=
  LCalls Tryd.prog 106 [a0, a1] st fun v0 st1 => R v0 st1
theorem w94_eq (a0 a1 : LV) (R : LV → LState → Prop) (st : LState) : levT Tryd.prog [.tmp 4] R [] [] 3000 [.code (bodyOf Tryd.f94)] ([a0, a1] ++ List.replicate (Tryd.f94.ntmps - 2) lundef) st = w94 a0 a1 R st := by kernel_rfl
theorem c94 (a0 a1 : LV) {R : LV → LState → Prop} {st : LState} (h : w94 a0 a1 R st) : LCalls Tryd.prog 94 [a0, a1] st R :=
  LCalls.of cm_mixed Tryd.func94 (show Tryd.f94.body = some (bodyOf Tryd.f94) by kernel_rfl) (by kernel_rfl) (show Tryd.f94.results.toList = [.tmp 4] by kernel_rfl) (levT_sound cm_mixed 3000 (Eq.mpr (w94_eq a0 a1 R st) h))

end Go.Proofs.YtkjmpjaahgficaaDoor
