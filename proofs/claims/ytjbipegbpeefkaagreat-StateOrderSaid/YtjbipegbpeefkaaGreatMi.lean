/- The intermediate code of the program, printed by wip/gen/gen.py. The intermediate code of the program, printed by wip/gen/gen.py. The intermediate code of the program, printed by wip/gen/gen.py. No statement of the seat is proved here. -/
import Derived.Test.YtjbipegbpeefkaaGreatIr0
import Derived.Test.YtjbipegbpeefkaaGreatIr1

set_option maxRecDepth 100000
/-! ## Ir2 -/
namespace Go.Ab
def kl63_1 : List Nat := [0, 2, 3, 5, 6, 7, 8, 9, 10, 11, 12, 13, 14, 15, 16, 17, 18, 19, 20, 21, 22, 23, 24, 25, 26, 27, 28, 29, 30, 31, 32, 33, 34, 35, 36, 37, 38, 39, 40, 41, 42, 43, 44, 45, 46, 47, 48, 49, 50, 51, 52, 53, 54, 55, 56, 57, 58, 59, 60, 61, 62, 63, 64, 65, 66]
def ko63_1 : List Nat := [0, 1, 3, 4, 5, 6, 7, 8, 9, 10, 11, 12, 13, 14, 15, 16, 17, 18, 19, 20, 21, 22, 23, 24, 25, 26, 27, 28, 29, 30, 31, 32, 33, 34, 35, 36, 37, 38, 39, 40, 41, 42, 43, 44, 45, 46, 47, 48, 49, 50, 51, 52, 53, 54, 55, 56, 57, 58, 59, 60, 61, 62, 63, 64, 65, 66]
/-- The slots where the loop begins, and where it ends. -/
def cs63_1 (v1 v4 : O) : List O := [.undef, v1, .undef, .undef, v4, .undef, .undef, .undef, .undef, .undef, .undef, .undef, .undef, .undef, .undef, .undef, .undef, .undef, .undef, .undef, .undef, .undef, .undef, .undef, .undef, .undef, .undef, .undef, .undef, .undef, .undef, .undef, .undef, .undef, .undef, .undef, .undef, .undef, .undef, .undef, .undef, .undef, .undef, .undef, .undef, .undef, .undef, .undef, .undef, .undef, .undef, .undef, .undef, .undef, .undef, .undef, .undef, .undef, .undef, .undef, .undef, .undef, .undef, .undef, .undef, .undef, .undef]
def co63_1 (v2 : O) : List O := [.undef, .undef, v2, .undef, .undef, .undef, .undef, .undef, .undef, .undef, .undef, .undef, .undef, .undef, .undef, .undef, .undef, .undef, .undef, .undef, .undef, .undef, .undef, .undef, .undef, .undef, .undef, .undef, .undef, .undef, .undef, .undef, .undef, .undef, .undef, .undef, .undef, .undef, .undef, .undef, .undef, .undef, .undef, .undef, .undef, .undef, .undef, .undef, .undef, .undef, .undef, .undef, .undef, .undef, .undef, .undef, .undef, .undef, .undef, .undef, .undef, .undef, .undef, .undef, .undef, .undef, .undef]
def lb63_1 : IC :=
  .seq (.seq (.ops 0 [P 46 (.move t4), P 47 (.fieldAddr 1 t1), H 48 0 0 (.load none t47), P 49 (.len t48), P 50 (.bin .lss t46 t49)] []) (.cond t50 (.skip) (.exit 2))) (.seq (.block 3 (.seq (.ops 0 [P 53 (.fieldAddr 1 t1), H 54 0 0 (.load none t53), P 55 (.move t4), P 56 (.indexAddr 1 t54 t55), H 57 0 0 (.load none t56), P 58 (.bin .lss t57 (.k (.int .i64 0))), P 59 (.move t58), Pg 60 59 false (.fieldAddr 1 t1), Hg 61 59 false 0 0 (.load none t60), Pg 62 59 false (.move t4), Pg 63 59 false (.indexAddr 1 t61 t62), Hg 64 59 false 0 0 (.load none t63), Pg 65 59 false (.bin .gtr t64 (.k (.int .i64 10000))), P 66 (.pick t59 (.k (.bool true)) t65)] []) (.cond t66 (.seq (.ops 0 [P 2 (.move (.k (.bool false)))] []) (.ret)) (.skip)))) (.ops 0 [P 51 (.move t4), P 52 (.bin .add t51 (.k (.int .i64 1))), P 4 (.move t52)] []))
def kl63_0 : List Nat := [0, 2, 4, 5, 6, 7, 8, 9, 10, 11, 12, 13, 14, 15, 16, 17, 18, 19, 20, 21, 22, 23, 24, 25, 26, 27, 28, 29, 30, 31, 32, 33, 34, 35, 36, 37, 38, 39, 40, 41, 42, 43, 44, 45, 46, 47, 48, 49, 50, 51, 52, 53, 54, 55, 56, 57, 58, 59, 60, 61, 62, 63, 64, 65, 66]
def ko63_0 : List Nat := [0, 3, 4, 5, 6, 7, 8, 9, 10, 11, 12, 13, 14, 15, 16, 17, 18, 19, 20, 21, 22, 23, 24, 25, 26, 27, 28, 29, 30, 31, 32, 33, 34, 35, 36, 37, 38, 39, 40, 41, 42, 43, 44, 45, 46, 47, 48, 49, 50, 51, 52, 53, 54, 55, 56, 57, 58, 59, 60, 61, 62, 63, 64, 65, 66]
/-- The slots where the loop begins, and where it ends. -/
def cs63_0 (v1 v3 : O) : List O := [.undef, v1, .undef, v3, .undef, .undef, .undef, .undef, .undef, .undef, .undef, .undef, .undef, .undef, .undef, .undef, .undef, .undef, .undef, .undef, .undef, .undef, .undef, .undef, .undef, .undef, .undef, .undef, .undef, .undef, .undef, .undef, .undef, .undef, .undef, .undef, .undef, .undef, .undef, .undef, .undef, .undef, .undef, .undef, .undef, .undef, .undef, .undef, .undef, .undef, .undef, .undef, .undef, .undef, .undef, .undef, .undef, .undef, .undef, .undef, .undef, .undef, .undef, .undef, .undef, .undef, .undef]
def co63_0 (v1 v2 : O) : List O := [.undef, v1, v2, .undef, .undef, .undef, .undef, .undef, .undef, .undef, .undef, .undef, .undef, .undef, .undef, .undef, .undef, .undef, .undef, .undef, .undef, .undef, .undef, .undef, .undef, .undef, .undef, .undef, .undef, .undef, .undef, .undef, .undef, .undef, .undef, .undef, .undef, .undef, .undef, .undef, .undef, .undef, .undef, .undef, .undef, .undef, .undef, .undef, .undef, .undef, .undef, .undef, .undef, .undef, .undef, .undef, .undef, .undef, .undef, .undef, .undef, .undef, .undef, .undef, .undef, .undef, .undef]
def lb63_0 : IC :=
  .seq (.seq (.ops 0 [P 25 (.move t3), P 26 (.fieldAddr 0 t1), H 27 0 0 (.load none t26), P 28 (.len t27), P 29 (.bin .lss t25 t28)] []) (.cond t29 (.skip) (.exit 0))) (.seq (.block 1 (.seq (.ops 0 [P 32 (.fieldAddr 0 t1), H 33 0 0 (.load none t32), P 34 (.move t3), P 35 (.indexAddr 1 t33 t34), H 36 0 0 (.load none t35), P 37 (.bin .lss t36 (.k (.int .i64 1))), P 38 (.move t37), Pg 39 38 false (.fieldAddr 0 t1), Hg 40 38 false 0 0 (.load none t39), Pg 41 38 false (.move t3), Pg 42 38 false (.indexAddr 1 t40 t41), Hg 43 38 false 0 0 (.load none t42), Pg 44 38 false (.bin .gtr t43 (.k (.int .i64 1073741823))), P 45 (.pick t38 (.k (.bool true)) t44)] []) (.cond t45 (.seq (.ops 0 [P 2 (.move (.k (.bool false)))] []) (.ret)) (.skip)))) (.ops 0 [P 30 (.move t3), P 31 (.bin .add t30 (.k (.int .i64 1))), P 3 (.move t31)] []))
/-- tympan/tympanref11.Check -/
def ir63 : IFunc :=
  { nparams := 1, ntmps := 67, results := [.tmp 2 []], inl := false, body :=
  .seq (.ops 3 [H 1 0 3 (.box 2 pt76 t0), P 2 (.move (.k (.bool false)))] []) (.seq (.seq (.ops 0 [P 5 (.fieldAddr 0 t1), H 6 0 0 (.load none t5), P 7 (.len t6), P 8 (.bin .lss t7 (.k (.int .i64 1))), P 9 (.move t8), Pg 10 9 false (.fieldAddr 0 t1), Hg 11 9 false 0 0 (.load none t10), Pg 12 9 false (.len t11), Pg 13 9 false (.bin .gtr t12 (.k (.int .i64 64))), P 14 (.pick t9 (.k (.bool true)) t13), P 15 (.move t14), Pg 16 15 false (.fieldAddr 1 t1), Hg 17 15 false 0 0 (.load none t16), Pg 18 15 false (.len t17), Pg 19 15 false (.fieldAddr 0 t1), Hg 20 15 false 0 0 (.load none t19), Pg 21 15 false (.len t20), Pg 22 15 false (.bin .sub t21 (.k (.int .i64 1))), Pg 23 15 false (.bin .neq t18 t22), P 24 (.pick t15 (.k (.bool true)) t23)] []) (.cond t24 (.seq (.ops 0 [P 2 (.move (.k (.bool false)))] []) (.ret)) (.skip))) (.seq (.seq (.ops 0 [P 3 (.move (.k (.int .i64 0)))] []) (.block 0 (.loop kl63_0 ko63_0 lb63_0))) (.seq (.seq (.ops 0 [P 4 (.move (.k (.int .i64 0)))] []) (.block 2 (.loop kl63_1 ko63_1 lb63_1))) (.seq (.ops 0 [P 2 (.move (.k (.bool true)))] []) (.ret))))) }
/-- tympan/tympanref12.Right -/
def ir64 : IFunc :=
  { nparams := 1, ntmps := 31, results := [.tmp 2 []], inl := false, body :=
  .seq (.ops 1 [H 1 0 1 (.box 3 [] t0), P 2 (.move (.k (.bool false)))] []) (.seq (.ops 0 [P 3 (.fieldAddr 0 t1), H 4 0 0 (.load none t3), P 5 (.bin .geq t4 (.k (.int .i64 0))), P 6 (.move t5), Pg 7 6 true (.fieldAddr 0 t1), Hg 8 6 true 0 0 (.load none t7), Pg 9 6 true (.bin .leq t8 (.k (.int .i64 2))), P 10 (.pick t6 t9 (.k (.bool false))), P 11 (.move t10), Pg 12 11 true (.fieldAddr 1 t1), Hg 13 11 true 0 0 (.load none t12), Pg 14 11 true (.bin .geq t13 (.k (.int .i64 1))), P 15 (.pick t11 t14 (.k (.bool false))), P 16 (.move t15), Pg 17 16 true (.fieldAddr 1 t1), Hg 18 16 true 0 0 (.load none t17), Pg 19 16 true (.bin .leq t18 (.k (.int .i64 1073741823))), P 20 (.pick t16 t19 (.k (.bool false))), P 21 (.move t20), Pg 22 21 true (.fieldAddr 2 t1), Hg 23 21 true 0 0 (.load none t22), Pg 24 21 true (.bin .geq t23 (.k (.int .i64 0))), P 25 (.pick t21 t24 (.k (.bool false))), P 26 (.move t25), Pg 27 26 true (.fieldAddr 2 t1), Hg 28 26 true 0 0 (.load none t27), Pg 29 26 true (.bin .leq t28 (.k (.int .i64 3))), P 30 (.pick t26 t29 (.k (.bool false))), P 2 (.move t30)] []) (.ret)) }
def kl65_0 : List Nat := [3, 4, 5, 6, 9, 10, 11, 12, 13, 14, 15, 16, 17, 18, 19, 20, 21, 22, 23, 24, 25, 26, 27, 28, 29, 30, 31, 32, 33, 34, 35, 36, 37, 38, 39, 40, 41]
def ko65_0 : List Nat := [1, 3, 4, 5, 8, 9, 10, 11, 12, 13, 14, 15, 16, 17, 18, 19, 20, 21, 22, 23, 24, 25, 26, 27, 28, 29, 30, 31, 32, 33, 34, 35, 36, 37, 38, 39, 40, 41]
/-- The slots where the loop begins, and where it ends. -/
def cs65_0 (v0 v1 v2 v7 v8 : O) : List O := [v0, v1, v2, .undef, .undef, .undef, .undef, v7, v8, .undef, .undef, .undef, .undef, .undef, .undef, .undef, .undef, .undef, .undef, .undef, .undef, .undef, .undef, .undef, .undef, .undef, .undef, .undef, .undef, .undef, .undef, .undef, .undef, .undef, .undef, .undef, .undef, .undef, .undef, .undef, .undef, .undef]
def co65_0 (v0 v2 v6 v7 : O) : List O := [v0, .undef, v2, .undef, .undef, .undef, v6, v7, .undef, .undef, .undef, .undef, .undef, .undef, .undef, .undef, .undef, .undef, .undef, .undef, .undef, .undef, .undef, .undef, .undef, .undef, .undef, .undef, .undef, .undef, .undef, .undef, .undef, .undef, .undef, .undef, .undef, .undef, .undef, .undef, .undef, .undef]
def lb65_0 : IC :=
  .seq (.seq (.ops 0 [P 9 (.move t8), P 10 (.move t0), P 11 (.len t10), P 12 (.bin .lss t9 t11)] []) (.cond t12 (.skip) (.exit 0))) (.seq (.block 1 (.seq (.ops 0 [P 15 (.move t0), P 16 (.move t8), P 17 (.indexAddr 7 t15 t16), P 18 (.fieldAddr 0 t17), H 19 0 0 (.load none t18), P 20 (.move t1), P 21 (.bin .eql t19 t20)] []) (.cond t21 (.seq (.seq (.ops 0 [P 22 (.move t0), P 23 (.move t8), P 24 (.indexAddr 7 t22 t23), P 25 (.fieldAddr 6 t24), H 26 0 0 (.load none t25), P 27 (.move t7), P 28 (.bin .neq t26 t27), P 29 (.move t28), Pg 30 29 false (.move t7), Pg 31 29 false (.move t2), Pg 32 29 false (.bin .geq t30 t31), P 33 (.pick t29 (.k (.bool true)) t32)] []) (.cond t33 (.seq (.ops 0 [P 34 (.move t8), P 6 (.move t34)] []) (.ret)) (.skip))) (.ops 0 [P 35 (.move t7), P 36 (.bin .add t35 (.k (.int .i64 1))), P 7 (.move t36)] [])) (.skip)))) (.ops 0 [P 13 (.move t8), P 14 (.bin .add t13 (.k (.int .i64 1))), P 8 (.move t14)] []))
/-- tympan/tympanref15.anchors -/
def ir65 : IFunc :=
  { nparams := 3, ntmps := 42, results := [.tmp 6 []], inl := false, body :=
  .seq (.ops 0 [P 6 (.move (.k (.int .i64 0)))] []) (.seq (.ops 0 [P 7 (.move (.k (.int .i64 0)))] []) (.seq (.seq (.ops 0 [P 8 (.move (.k (.int .i64 0)))] []) (.block 0 (.loop kl65_0 ko65_0 lb65_0))) (.seq (.seq (.ops 0 [P 37 (.move t7), P 38 (.move t2), P 39 (.bin .lss t37 t38)] []) (.cond t39 (.seq (.ops 0 [P 40 (.move t0), P 41 (.len t40), P 6 (.move t41)] []) (.ret)) (.skip))) (.seq (.ops 0 [P 6 (.move (.k (.int .i64 (-1))))] []) (.ret))))) }
def kl66_0 : List Nat := [0, 2, 3, 4, 5, 6, 10, 11, 12, 13, 14, 15, 16, 17, 18, 19, 20, 21, 22]
def ko66_0 : List Nat := [0, 1, 4, 5, 6, 7, 8, 9, 10, 11, 12, 13, 14, 15, 16, 17, 18, 19, 20, 21, 22]
/-- The slots where the loop begins, and where it ends. -/
def cs66_0 (v1 v7 v8 v9 : O) : List O := [.undef, v1, .undef, .undef, .undef, .undef, .undef, v7, v8, v9, .undef, .undef, .undef, .undef, .undef, .undef, .undef, .undef, .undef, .undef, .undef, .undef, .undef]
def co66_0 (v2 v3 : O) : List O := [.undef, .undef, v2, v3, .undef, .undef, .undef, .undef, .undef, .undef, .undef, .undef, .undef, .undef, .undef, .undef, .undef, .undef, .undef, .undef, .undef, .undef, .undef]
def lb66_0 : IC :=
  .seq (.ops 0 [P 10 (.bin .lss t9 t8)] []) (.seq (.cond t10 (.skip) (.exit 0)) (.seq (.block 1 (.seq (.ops 1 [P 11 (.indexAddr 2 t7 t9), H 12 0 0 (.load (some 2) t11), H 5 0 1 (.alloc [.c (.int .i64 0), .c (.nilf)] []), T 1 0 (.store 2 [] t5 t12)] []) (.seq (.ops 0 [P 13 (.fieldAddr 1 t5), H 14 0 0 (.load none t13), H 15 0 0 (.load (some 22) t1), H 16 0 0 (.call t14 [(t15, pt29)]), P 6 (.move t16)] []) (.seq (.ops 0 [P 17 (.move t6), P 18 (.bin .geq t17 (.k (.int .i64 0)))] []) (.cond t18 (.seq (.ops 0 [P 19 (.fieldAddr 0 t5), H 20 0 0 (.load none t19), P 21 (.move t6), P 2 (.move t20), P 3 (.move t21)] []) (.ret)) (.skip)))))) (.ops 0 [P 22 (.bin .add t9 (.k (.int .i64 1))), P 9 (.move t22)] [])))
/-- tympan/valid.Check -/
def ir66 : IFunc :=
  { nparams := 1, ntmps := 23, results := [.tmp 2 [], .tmp 3 []], inl := false, body :=
  .seq (.ops 4 [H 1 0 4 (.box 22 pt29 t0), P 2 (.move (.k (.int .i64 0))), P 3 (.move (.k (.int .i64 0)))] []) (.seq (.seq (.ops 0 [H 7 0 0 (.call (.f 99) []), P 8 (.len t7), P 9 (.move (.k (.int .i64 0)))] []) (.block 0 (.loop kl66_0 ko66_0 lb66_0))) (.seq (.ops 0 [P 2 (.move (.k (.int .i64 0))), P 3 (.move (.k (.int .i64 0)))] []) (.ret))) }
def kl71_0 : List Nat := [0, 1, 3, 4, 6, 7, 8, 9, 10, 13, 14, 15, 16, 17, 18, 19, 20, 21, 22, 23, 24, 25, 26, 27, 28, 29, 30, 31, 32, 33, 34, 35, 36, 37, 38, 39, 40, 41, 42, 43, 44, 45, 46, 47, 48]
def ko71_0 : List Nat := [0, 1, 2, 3, 6, 7, 8, 9, 10, 11, 12, 13, 14, 15, 16, 17, 18, 19, 20, 21, 22, 23, 24, 25, 26, 27, 28, 29, 30, 31, 32, 33, 34, 35, 36, 37, 38, 39, 40, 41, 42, 43, 44, 45, 46, 47, 48]
/-- The slots where the loop begins, and where it ends. -/
def cs71_0 (v2 v5 v11 v12 : O) : List O := [.undef, .undef, v2, .undef, .undef, v5, .undef, .undef, .undef, .undef, .undef, v11, v12, .undef, .undef, .undef, .undef, .undef, .undef, .undef, .undef, .undef, .undef, .undef, .undef, .undef, .undef, .undef, .undef, .undef, .undef, .undef, .undef, .undef, .undef, .undef, .undef, .undef, .undef, .undef, .undef, .undef, .undef, .undef, .undef, .undef, .undef, .undef, .undef]
def co71_0 (v4 v5 : O) : List O := [.undef, .undef, .undef, .undef, v4, v5, .undef, .undef, .undef, .undef, .undef, .undef, .undef, .undef, .undef, .undef, .undef, .undef, .undef, .undef, .undef, .undef, .undef, .undef, .undef, .undef, .undef, .undef, .undef, .undef, .undef, .undef, .undef, .undef, .undef, .undef, .undef, .undef, .undef, .undef, .undef, .undef, .undef, .undef, .undef, .undef, .undef, .undef, .undef]
def lb71_0 : IC :=
  .seq (.ops 0 [P 13 (.bin .lss t12 t11)] []) (.seq (.cond t13 (.skip) (.exit 0)) (.seq (.block 1 (.seq (.ops 0 [P 14 (.move t12), P 6 (.move t14)] []) (.seq (.ops 0 [P 15 (.move t5), P 16 (.move t6), P 17 (.indexAddr 7 t15 t16), P 7 (.move t17)] []) (.seq (.ops 0 [P 18 (.move t7), P 19 (.nilCheck t18), P 20 (.fieldAddr 0 t19), H 21 0 0 (.load none t20)] []) (.block 2 (.seq (.ops 0 [P 23 (.bin .eql t21 (.k (.int .i64 1))), P 22 (.move t23)] []) (.cond t22 (.ops 1 [Hq 24 0 0 (.load (some 1) t2), P 25 (.move t7), P 26 (.nilCheck t25), P 27 (.fieldAddr 1 t26), Hq 28 0 1 (.buildSlice 1 1 z128 [(0, t27, [])]), H 29 1 0 (.call (.f 73) [(t24, []), ((.f 75), []), (t28, pt167)])] [(0, 4)]) (.seq (.ops 0 [P 31 (.bin .eql t21 (.k (.int .i64 2))), P 30 (.move t31)] []) (.cond t30 (.seq (.ops 1 [Hq 32 0 0 (.load (some 1) t2), P 33 (.move t7), P 34 (.nilCheck t33), P 35 (.fieldAddr 1 t34), Hq 36 0 1 (.buildSlice 1 1 z128 [(0, t35, [])]), H 37 1 0 (.call (.f 73) [(t32, []), ((.f 100), []), (t36, pt167)])] [(0, 4)]) (.ops 0 [P 38 (.move t7), P 39 (.move t7), P 40 (.move t7), P 41 (.nilCheck t38), P 42 (.fieldAddr 3 t41), T 0 0 (.store 1 [] t42 (.k (.int .i64 0))), P 43 (.nilCheck t39), P 44 (.fieldAddr 4 t43), T 0 0 (.store 1 [] t44 (.k (.int .i64 0))), P 45 (.nilCheck t40), P 46 (.fieldAddr 5 t45), T 0 0 (.store 1 [] t46 (.k (.int .i64 0)))] [])) (.skip)))))))))) (.ops 0 [P 47 (.bin .add t12 (.k (.int .i64 1))), P 12 (.move t47)] [])))
/-- (tympan/grid.snapper).items -/
def ir71 : IFunc :=
  { nparams := 2, ntmps := 49, results := [.tmp 4 pt25], inl := false, body :=
  .seq (.ops 2 [H 2 0 1 (.box 1 [] t0), H 4 1 1 (.nilArr true z72)] []) (.seq (.ops 1 [P 8 (.move t1), H 9 0 1 (.clone true 2513169434916 z72 t8), P 5 (.move t9)] []) (.seq (.seq (.ops 0 [P 10 (.move t5), P 11 (.len t10), P 12 (.move (.k (.int .i64 0)))] []) (.block 0 (.loop kl71_0 ko71_0 lb71_0))) (.seq (.ops 0 [P 48 (.move t5), P 4 (.move t48)] []) (.ret)))) }
def kl72_1 : List Nat := [0, 1, 3, 4, 7, 8, 9, 10, 11, 15, 16, 17, 18, 19, 20, 21, 22, 23, 24, 25, 26, 27, 28, 29, 30, 31, 32, 33, 36, 37, 38, 39, 40, 41, 42, 43, 44, 45, 46, 47, 48, 49, 50]
def ko72_1 : List Nat := [0, 1, 3, 6, 7, 8, 9, 10, 11, 15, 16, 17, 18, 19, 20, 21, 22, 23, 24, 25, 26, 27, 28, 29, 30, 31, 32, 33, 34, 35, 36, 37, 38, 39, 40, 41, 42, 43, 44, 45, 46, 47, 48, 49, 50]
/-- The slots where the loop begins, and where it ends. -/
def cs72_1 (v2 v5 v6 v12 v13 v14 v34 v35 : O) : List O := [.undef, .undef, v2, .undef, .undef, v5, v6, .undef, .undef, .undef, .undef, .undef, v12, v13, v14, .undef, .undef, .undef, .undef, .undef, .undef, .undef, .undef, .undef, .undef, .undef, .undef, .undef, .undef, .undef, .undef, .undef, .undef, .undef, v34, v35, .undef, .undef, .undef, .undef, .undef, .undef, .undef, .undef, .undef, .undef, .undef, .undef, .undef, .undef, .undef]
def co72_1 (v2 v4 v5 v12 v13 v14 : O) : List O := [.undef, .undef, v2, .undef, v4, v5, .undef, .undef, .undef, .undef, .undef, .undef, v12, v13, v14, .undef, .undef, .undef, .undef, .undef, .undef, .undef, .undef, .undef, .undef, .undef, .undef, .undef, .undef, .undef, .undef, .undef, .undef, .undef, .undef, .undef, .undef, .undef, .undef, .undef, .undef, .undef, .undef, .undef, .undef, .undef, .undef, .undef, .undef, .undef, .undef]
def lb72_1 : IC :=
  .seq (.ops 0 [P 36 (.bin .lss t35 t34)] []) (.seq (.cond t36 (.skip) (.exit 2)) (.seq (.block 3 (.seq (.ops 0 [P 37 (.move t35), P 8 (.move t37)] []) (.ops 1 [Hq 38 0 0 (.load (some 1) t2), P 39 (.move t5), P 40 (.move t6), P 41 (.indexAddr 2 t39 t40), P 42 (.fieldAddr 0 t41), Hq 43 0 0 (.load none t42), P 44 (.move t8), P 45 (.indexAddr 1 t43 t44), Hq 46 0 1 (.buildSlice 1 1 z128 [(0, t45, [])]), H 47 1 0 (.call (.f 73) [(t38, []), ((.f 75), []), (t46, pt167)])] [(0, 8)]))) (.ops 0 [P 48 (.bin .add t35 (.k (.int .i64 1))), P 35 (.move t48)] [])))
def kl72_0 : List Nat := [0, 1, 3, 4, 6, 7, 8, 9, 10, 11, 15, 16, 17, 18, 19, 20, 21, 22, 23, 24, 25, 26, 27, 28, 29, 30, 31, 32, 33, 34, 35, 36, 37, 38, 39, 40, 41, 42, 43, 44, 45, 46, 47, 48, 49, 50]
def ko72_0 : List Nat := [0, 1, 2, 3, 6, 7, 8, 9, 10, 11, 12, 13, 14, 15, 16, 17, 18, 19, 20, 21, 22, 23, 24, 25, 26, 27, 28, 29, 30, 31, 32, 33, 34, 35, 36, 37, 38, 39, 40, 41, 42, 43, 44, 45, 46, 47, 48, 49, 50]
/-- The slots where the loop begins, and where it ends. -/
def cs72_0 (v2 v5 v12 v13 v14 : O) : List O := [.undef, .undef, v2, .undef, .undef, v5, .undef, .undef, .undef, .undef, .undef, .undef, v12, v13, v14, .undef, .undef, .undef, .undef, .undef, .undef, .undef, .undef, .undef, .undef, .undef, .undef, .undef, .undef, .undef, .undef, .undef, .undef, .undef, .undef, .undef, .undef, .undef, .undef, .undef, .undef, .undef, .undef, .undef, .undef, .undef, .undef, .undef, .undef, .undef, .undef]
def co72_0 (v4 v5 : O) : List O := [.undef, .undef, .undef, .undef, v4, v5, .undef, .undef, .undef, .undef, .undef, .undef, .undef, .undef, .undef, .undef, .undef, .undef, .undef, .undef, .undef, .undef, .undef, .undef, .undef, .undef, .undef, .undef, .undef, .undef, .undef, .undef, .undef, .undef, .undef, .undef, .undef, .undef, .undef, .undef, .undef, .undef, .undef, .undef, .undef, .undef, .undef, .undef, .undef, .undef, .undef]
def lb72_0 : IC :=
  .seq (.ops 0 [P 15 (.bin .lss t14 t13)] []) (.seq (.cond t15 (.skip) (.exit 0)) (.seq (.block 1 (.seq (.ops 5 [P 16 (.move t14), P 17 (.indexAddr 2 t12 t14), H 18 0 0 (.load (some 2) t17), H 7 0 3 (.alloc [.nils, .nils] pt76), P 6 (.move t16), T 3 2 (.store 2 pt76 t7 t18)] []) (.seq (.ops 4 [P 19 (.move t5), P 20 (.move t6), P 21 (.fieldAddr 0 t7), Hq 22 0 0 (.load none t21), Hq 23 0 1 (.clone true 17592186044416 z22 t22), P 24 (.fieldAddr 1 t7), Hq 25 1 0 (.load none t24), H 26 1 1 (.clone true 17592186044416 z3 t25), P 27 (.build [.nils, .nils] [(0, 1, t23), (1, 1, t26)]), P 28 (.indexAddr 2 t19 t20), T 2 2 (.store 2 pt76 t28 t27)] [(4, 6)]) (.seq (.ops 0 [P 29 (.move t5), P 30 (.move t6), P 31 (.indexAddr 2 t29 t30), P 32 (.fieldAddr 0 t31), H 33 0 0 (.load none t32), P 34 (.len t33), P 35 (.move (.k (.int .i64 0)))] []) (.block 2 (.loop kl72_1 ko72_1 lb72_1)))))) (.ops 0 [P 49 (.bin .add t14 (.k (.int .i64 1))), P 14 (.move t49)] [])))
/-- (tympan/grid.snapper).notes -/
def ir72 : IFunc :=
  { nparams := 2, ntmps := 51, results := [.tmp 4 pt26], inl := false, body :=
  .seq (.ops 2 [H 2 0 1 (.box 1 [] t0), H 4 1 1 (.nilArr true z76)] []) (.seq (.ops 1 [P 9 (.move t1), P 10 (.len t9), H 11 0 1 (.makeSlice 2 48 z76 t10), P 5 (.move t11)] []) (.seq (.seq (.ops 0 [P 12 (.move t1), P 13 (.len t12), P 14 (.move (.k (.int .i64 0)))] []) (.block 0 (.loop kl72_0 ko72_0 lb72_0))) (.seq (.ops 0 [P 50 (.move t5), P 4 (.move t50)] []) (.ret)))) }
def kl73_0 : List Nat := [0, 2, 4, 5, 6, 7, 11, 12, 13, 14, 15, 16, 17, 18, 19, 20, 21, 22, 23]
def ko73_0 : List Nat := [0, 1, 2, 3, 4, 5, 6, 7, 8, 9, 10, 11, 12, 13, 14, 15, 16, 17, 18, 19, 20, 21, 22, 23]
/-- The slots where the loop begins, and where it ends. -/
def cs73_0 (v1 v3 v8 v9 v10 : O) : List O := [.undef, v1, .undef, v3, .undef, .undef, .undef, .undef, v8, v9, v10, .undef, .undef, .undef, .undef, .undef, .undef, .undef, .undef, .undef, .undef, .undef, .undef, .undef]
def co73_0 : List O := [.undef, .undef, .undef, .undef, .undef, .undef, .undef, .undef, .undef, .undef, .undef, .undef, .undef, .undef, .undef, .undef, .undef, .undef, .undef, .undef, .undef, .undef, .undef, .undef]
def lb73_0 : IC :=
  .seq (.ops 0 [P 11 (.bin .lss t10 t9)] []) (.seq (.cond t11 (.skip) (.exit 0)) (.seq (.block 1 (.seq (.ops 0 [P 12 (.indexAddr 1 t8 t10), H 13 0 0 (.load none t12), P 7 (.move t13)] []) (.ops 0 [P 14 (.move t7), P 15 (.move t1), P 16 (.move t7), P 17 (.nilCheck t16), Hq 18 0 0 (.load none t17), P 19 (.fieldAddr 0 t3), Hq 20 0 0 (.load none t19), H 21 0 0 (.call t15 [(t18, []), (t20, [])]), P 22 (.nilCheck t14), T 0 0 (.store 1 [] t22 t21)] []))) (.ops 0 [P 23 (.bin .add t10 (.k (.int .i64 1))), P 10 (.move t23)] [])))
/-- (tympan/grid.snapper).turn -/
def ir73 : IFunc :=
  { nparams := 3, ntmps := 24, results := [], inl := false, body :=
  .seq (.ops 1 [H 3 0 1 (.box 1 [] t0)] []) (.seq (.ops 0 [P 8 (.move t2), P 9 (.len t8), P 10 (.move (.k (.int .i64 0)))] []) (.block 0 (.loop kl73_0 ko73_0 lb73_0))) }
/-- tympan/grid.Down -/
def ir74 : IFunc :=
  { nparams := 2, ntmps := 8, results := [.tmp 4 []], inl := false, body :=
  .seq (.ops 0 [P 4 (.move (.k (.int .i64 0)))] []) (.seq (.ops 0 [P 5 (.move t0), P 6 (.move t1), H 7 0 0 (.call (.f 101) [(t5, []), (t6, []), ((.f 102), [])]), P 4 (.move t7)] []) (.ret)) }
/-- tympan/grid.Up -/
def ir75 : IFunc :=
  { nparams := 2, ntmps := 8, results := [.tmp 4 []], inl := false, body :=
  .seq (.ops 0 [P 4 (.move (.k (.int .i64 0)))] []) (.seq (.ops 0 [P 5 (.move t0), P 6 (.move t1), H 7 0 0 (.call (.f 101) [(t5, []), (t6, []), ((.f 103), [])]), P 4 (.move t7)] []) (.ret)) }
/-- tympan/item.Total -/
def ir76 : IFunc :=
  { nparams := 1, ntmps := 22, results := [.cell 2 (some 6) []], inl := false, body :=
  .seq (.ops 2 [H 1 0 1 (.box 7 [] t0), H 2 1 1 (.alloc [.c (.int .i64 0), .c (.int .i64 0), .c (.int .i64 0), .c (.int .i64 0), .c (.int .i64 0), .c (.int .i64 0)] [])] []) (.seq (.seq (.ops 0 [P 3 (.fieldAddr 0 t1), H 4 0 0 (.load none t3)] []) (.block 0 (.seq (.ops 0 [P 6 (.bin .eql t4 (.k (.int .i64 1))), P 5 (.move t6)] []) (.cond t5 (.seq (.ops 0 [P 7 (.fieldAddr 1 t1), H 8 0 0 (.load none t7), H 9 0 0 (.call (.f 104) [(t8, [])]), T 0 0 (.store 6 [] t2 t9)] []) (.ret)) (.seq (.ops 0 [P 11 (.bin .eql t4 (.k (.int .i64 2))), P 10 (.move t11)] []) (.cond t10 (.seq (.ops 0 [P 12 (.fieldAddr 1 t1), H 13 0 0 (.load none t12), P 14 (.fieldAddr 3 t1), H 15 0 0 (.load none t14), P 16 (.fieldAddr 4 t1), H 17 0 0 (.load none t16), P 18 (.fieldAddr 5 t1), H 19 0 0 (.load none t18), H 20 0 0 (.call (.f 105) [(t13, []), (t15, []), (t17, []), (t19, [])]), T 0 0 (.store 6 [] t2 t20)] []) (.ret)) (.skip))))))) (.seq (.ops 0 [P 21 (.build [.c (.int .i64 0), .c (.int .i64 0), .c (.int .i64 0), .c (.int .i64 0), .c (.int .i64 0), .c (.int .i64 0)] []), T 0 0 (.store 6 [] t2 t21)] []) (.ret))) }
def kl77_0 : List Nat := [0, 2, 4, 6, 7, 8, 9, 10, 11, 12, 13, 14, 15, 16, 17, 18, 19, 20, 21, 22, 23, 24, 25]
def ko77_0 : List Nat := [0, 4, 5, 6, 7, 8, 9, 10, 11, 12, 13, 14, 15, 16, 17, 18, 19, 20, 21, 22, 23, 24, 25]
/-- The slots where the loop begins, and where it ends. -/
def cs77_0 (v1 v3 v5 : O) : List O := [.undef, v1, .undef, v3, .undef, v5, .undef, .undef, .undef, .undef, .undef, .undef, .undef, .undef, .undef, .undef, .undef, .undef, .undef, .undef, .undef, .undef, .undef, .undef, .undef, .undef]
def co77_0 (v1 v2 v3 : O) : List O := [.undef, v1, v2, v3, .undef, .undef, .undef, .undef, .undef, .undef, .undef, .undef, .undef, .undef, .undef, .undef, .undef, .undef, .undef, .undef, .undef, .undef, .undef, .undef, .undef, .undef]
def lb77_0 : IC :=
  .seq (.ops 0 [P 6 (.bin .lss t5 (.k (.int .i64 4)))] []) (.seq (.cond t6 (.skip) (.exit 0)) (.seq (.block 1 (.seq (.ops 0 [P 7 (.move t5), P 4 (.move t7)] []) (.seq (.ops 0 [P 8 (.move t3), P 9 (.move t4), P 10 (.fieldAddr 1 t1), P 11 (.indexAddrArr 4 1 t10 t9), H 12 0 0 (.load none t11), H 13 0 0 (.call t8 [(t12, [])]), P 14 (.not t13)] []) (.cond t14 (.seq (.ops 0 [P 2 (.move (.k (.bool false)))] []) (.ret)) (.skip))))) (.ops 0 [P 15 (.bin .add t5 (.k (.int .i64 1))), P 5 (.move t15)] [])))
/-- tympan/sums.fair -/
def ir77 : IFunc :=
  { nparams := 1, ntmps := 26, results := [.tmp 2 []], inl := false, body :=
  .seq (.ops 1 [H 1 0 1 (.box 6 [] t0), P 2 (.move (.k (.bool false)))] []) (.seq (.ops 0 [P 3 (.move (.f 106))] []) (.seq (.seq (.ops 0 [P 5 (.move (.k (.int .i64 0)))] []) (.block 0 (.loop kl77_0 ko77_0 lb77_0))) (.seq (.ops 0 [P 16 (.move t3), P 17 (.fieldAddr 0 t1), H 18 0 0 (.load none t17), H 19 0 0 (.call t16 [(t18, [])]), P 20 (.move t19), Pg 21 20 true (.move t3), Pg 22 20 true (.fieldAddr 5 t1), Hg 23 20 true 0 0 (.load none t22), Hg 24 20 true 0 0 (.call t21 [(t23, [])]), P 25 (.pick t20 t24 (.k (.bool false))), P 2 (.move t25)] []) (.ret)))) }
/-- tympan/total.Add -/
def ir78 : IFunc :=
  { nparams := 2, ntmps := 11, results := [.cell 4 (some 6) [], .tmp 5 []], inl := false, body :=
  .seq (.ops 3 [H 2 0 1 (.box 6 [] t0), H 3 1 1 (.box 6 [] t1), H 4 2 1 (.alloc [.c (.int .i64 0), .c (.int .i64 0), .c (.int .i64 0), .c (.int .i64 0), .c (.int .i64 0), .c (.int .i64 0)] []), P 5 (.move (.k (.bool false)))] []) (.seq (.ops 0 [H 6 0 0 (.load (some 6) t2), H 7 0 0 (.load (some 6) t3), H 8 0 0 (.call (.f 107) [(t6, []), (t7, []), ((.f 108), [])]), P 9 (.extract t8 0), P 10 (.extract t8 1), T 0 0 (.store 6 [] t4 t9), P 5 (.move t10)] []) (.ret)) }
/-- tympan/figure.At -/
def ir79 : IFunc :=
  { nparams := 2, ntmps := 19, results := [.cell 4 (some 3) [], .tmp 5 []], inl := false, body :=
  .seq (.ops 1 [H 4 0 1 (.alloc [.c (.int .i64 0), .c (.int .i64 0), .c (.int .i64 0)] []), P 5 (.move (.k (.bool false)))] []) (.seq (.seq (.ops 0 [P 6 (.move t1), P 7 (.bin .lss t6 (.k (.int .i64 0))), P 8 (.move t7), Pg 9 8 false (.move t1), Pg 10 8 false (.move t0), Pg 11 8 false (.len t10), Pg 12 8 false (.bin .geq t9 t11), P 13 (.pick t8 (.k (.bool true)) t12)] []) (.cond t13 (.seq (.ops 0 [P 14 (.build [.c (.int .i64 0), .c (.int .i64 0), .c (.int .i64 0)] []), T 0 0 (.store 3 [] t4 t14), P 5 (.move (.k (.bool false)))] []) (.ret)) (.skip))) (.seq (.ops 0 [P 15 (.move t0), P 16 (.move t1), P 17 (.indexAddr 3 t15 t16), H 18 0 0 (.load (some 3) t17), T 0 0 (.store 3 [] t4 t18), P 5 (.move (.k (.bool true)))] []) (.ret))) }
/-- (*tympan/anchor.Map).place -/
def ir80 : IFunc :=
  { nparams := 2, ntmps := 16, results := [.tmp 4 [], .tmp 5 []], inl := false, body :=
  .seq (.ops 0 [P 4 (.move (.k (.int .i64 0))), P 5 (.move (.k (.bool false)))] []) (.seq (.seq (.ops 0 [P 6 (.move t0), P 7 (.eqNil false t6)] []) (.cond t7 (.seq (.ops 0 [P 4 (.move (.k (.int .i64 0))), P 5 (.move (.k (.bool false)))] []) (.ret)) (.skip))) (.seq (.ops 0 [P 8 (.move t1), P 9 (.minmax true t8 [(.k (.int .i64 0))]), P 10 (.move t0), P 11 (.nilCheck t10), P 12 (.fieldAddr 0 t11), H 13 0 0 (.load none t12), P 14 (.len t13), P 15 (.minmax false t9 [t14]), P 4 (.move t15), P 5 (.move (.k (.bool true)))] []) (.ret))) }
/-- tympan/tympanref14.Down -/
def ir81 : IFunc :=
  { nparams := 2, ntmps := 10, results := [.tmp 4 []], inl := false, body :=
  .seq (.ops 0 [P 4 (.move (.k (.int .i64 0)))] []) (.seq (.ops 0 [P 5 (.move t0), P 6 (.move t1), H 7 0 0 (.call (.f 110) [(t5, []), (t6, [])]), P 8 (.move t0), H 9 0 0 (.call (.f 109) [(t7, []), (t8, [])]), P 4 (.move t9)] []) (.ret)) }
/-- tympan/tympanref14.Up -/
def ir82 : IFunc :=
  { nparams := 2, ntmps := 10, results := [.tmp 4 []], inl := false, body :=
  .seq (.ops 0 [P 4 (.move (.k (.int .i64 0)))] []) (.seq (.ops 0 [P 5 (.move t0), P 6 (.move t1), H 7 0 0 (.call (.f 111) [(t5, []), (t6, [])]), P 8 (.move t0), H 9 0 0 (.call (.f 109) [(t7, []), (t8, [])]), P 4 (.move t9)] []) (.ret)) }
/-- tympan/tympanref14.item -/
def ir83 : IFunc :=
  { nparams := 2, ntmps := 25, results := [.cell 4 (some 7) []], inl := false, body :=
  .seq (.ops 2 [H 2 0 1 (.box 7 [] t0), H 4 1 1 (.alloc [.c (.int .i64 0), .c (.int .i64 0), .c (.int .i64 0), .c (.int .i64 0), .c (.int .i64 0), .c (.int .i64 0), .c (.int .i64 0)] [])] []) (.seq (.seq (.ops 0 [P 5 (.fieldAddr 0 t2), H 6 0 0 (.load none t5), P 7 (.bin .eql t6 (.k (.int .i64 1)))] []) (.cond t7 (.ops 0 [P 8 (.fieldAddr 1 t2), H 9 0 0 (.load none t8), P 10 (.move t1), H 11 0 0 (.call (.f 82) [(t9, []), (t10, [])]), P 12 (.fieldAddr 1 t2), T 0 0 (.store 1 [] t12 t11)] []) (.skip))) (.seq (.seq (.ops 0 [P 13 (.fieldAddr 0 t2), H 14 0 0 (.load none t13), P 15 (.bin .eql t14 (.k (.int .i64 2)))] []) (.cond t15 (.seq (.ops 0 [P 16 (.fieldAddr 1 t2), H 17 0 0 (.load none t16), P 18 (.move t1), H 19 0 0 (.call (.f 112) [(t17, []), (t18, [])]), P 20 (.fieldAddr 1 t2), T 0 0 (.store 1 [] t20 t19)] []) (.seq (.ops 0 [P 21 (.fieldAddr 3 t2), T 0 0 (.store 1 [] t21 (.k (.int .i64 0)))] []) (.seq (.ops 0 [P 22 (.fieldAddr 4 t2), T 0 0 (.store 1 [] t22 (.k (.int .i64 0)))] []) (.ops 0 [P 23 (.fieldAddr 5 t2), T 0 0 (.store 1 [] t23 (.k (.int .i64 0)))] [])))) (.skip))) (.seq (.ops 0 [H 24 0 0 (.load (some 7) t2), T 0 0 (.store 7 [] t4 t24)] []) (.ret)))) }
def kl84_0 : List Nat := [1, 3, 4, 5, 6, 8, 9, 10, 11, 12, 13, 14, 15, 16, 17, 18]
def ko84_0 : List Nat := [0, 1, 2, 3, 4, 5, 7, 8, 9, 10, 11, 12, 13, 14, 15, 16, 17, 18]
/-- The slots where the loop begins, and where it ends. -/
def cs84_0 (v0 v2 v7 : O) : List O := [v0, .undef, v2, .undef, .undef, .undef, .undef, v7, .undef, .undef, .undef, .undef, .undef, .undef, .undef, .undef, .undef, .undef, .undef]
def co84_0 (v6 : O) : List O := [.undef, .undef, .undef, .undef, .undef, .undef, v6, .undef, .undef, .undef, .undef, .undef, .undef, .undef, .undef, .undef, .undef, .undef, .undef]
def lb84_0 : IC :=
  .seq (.seq (.ops 0 [P 9 (.move t7), P 10 (.move t0), H 11 0 0 (.call (.f 50) [(t10, [])]), P 12 (.bin .leq t9 t11)] []) (.cond t12 (.skip) (.exit 0))) (.seq (.block 1 (.seq (.ops 0 [P 15 (.move t2), P 16 (.move t7), H 17 0 0 (.call t15 [(t16, [])])] []) (.cond t17 (.seq (.ops 0 [P 18 (.move t7), P 6 (.move t18)] []) (.ret)) (.skip)))) (.ops 0 [P 13 (.move t7), P 14 (.bin .add t13 (.k (.int .i64 1))), P 7 (.move t14)] []))
/-- (*tympan/vlist.List).seek -/
def ir84 : IFunc :=
  { nparams := 3, ntmps := 19, results := [.tmp 6 []], inl := false, body :=
  .seq (.ops 0 [P 6 (.move (.k (.int .i64 0)))] []) (.seq (.seq (.ops 0 [P 8 (.move t1), P 7 (.move t8)] []) (.block 0 (.loop kl84_0 ko84_0 lb84_0))) (.seq (.ops 0 [P 6 (.move (.k (.int .i64 (-1))))] []) (.ret))) }
/-- (*tympan/vlist.List).stays -/
def ir85 : IFunc :=
  { nparams := 2, ntmps := 20, results := [.tmp 4 []], inl := false, body :=
  .seq (.ops 0 [P 4 (.move (.k (.bool false)))] []) (.seq (.ops 1 [P 8 (.move t0), P 9 (.move t1), H 10 0 0 (.call (.f 113) [(t8, []), (t9, [])]), P 7 (.move t10), P 11 (.extract t7 0), P 12 (.extract t7 1), H 5 0 1 (.alloc [.c (.int .i64 0), .c (.int .i64 0), .c (.int .i64 0), .c (.int .i64 0), .c (.int .i64 0), .c (.int .i64 0), .c (.int .i64 0)] []), T 1 0 (.store 7 [] t5 t11), P 6 (.move t12)] []) (.seq (.ops 0 [P 13 (.move t6), P 14 (.not t13), P 15 (.move t14), Hg 16 15 false 0 0 (.load (some 7) t5), Hg 17 15 false 0 0 (.call (.f 114) [(t16, [])]), Pg 18 15 false (.not t17), P 19 (.pick t15 (.k (.bool true)) t18), P 4 (.move t19)] []) (.ret))) }
def kl86_0 : List Nat := [0, 1, 6, 7, 10, 12, 13, 14, 15, 16, 17, 18, 19, 20, 21, 22, 23, 24, 25, 26, 27, 28, 29, 30, 31]
def ko86_0 : List Nat := [0, 1, 2, 3, 4, 5, 6, 7, 10, 11, 12, 13, 14, 15, 16, 17, 18, 19, 20, 21, 22, 23, 24, 25, 26, 27, 28, 29, 30, 31]
/-- The slots where the loop begins, and where it ends. -/
def cs86_0 (v2 v3 v4 v5 v8 v9 v11 : O) : List O := [.undef, .undef, v2, v3, v4, v5, .undef, .undef, v8, v9, .undef, v11, .undef, .undef, .undef, .undef, .undef, .undef, .undef, .undef, .undef, .undef, .undef, .undef, .undef, .undef, .undef, .undef, .undef, .undef, .undef, .undef]
def co86_0 (v8 v9 : O) : List O := [.undef, .undef, .undef, .undef, .undef, .undef, .undef, .undef, v8, v9, .undef, .undef, .undef, .undef, .undef, .undef, .undef, .undef, .undef, .undef, .undef, .undef, .undef, .undef, .undef, .undef, .undef, .undef, .undef, .undef, .undef, .undef]
def lb86_0 : IC :=
  .seq (.ops 0 [P 12 (.bin .lss t11 (.k (.int .i64 3)))] []) (.seq (.cond t12 (.skip) (.exit 0)) (.seq (.block 1 (.seq (.ops 0 [P 13 (.move t11), P 10 (.move t13)] []) (.ops 0 [P 14 (.move t10), P 15 (.move t3), P 16 (.move t10), P 17 (.indexAddrArr 3 1 t4 t16), Hq 18 0 0 (.load none t17), P 19 (.move t2), Hq 20 0 0 (.callQ (.f 96) [(t18, []), (t19, []), ((.k (.int .i64 1073741824)), [])]), P 21 (.move t10), P 22 (.indexAddrArr 3 1 t5 t21), Hq 23 0 0 (.load none t22), P 24 (.move t2), H 25 0 0 (.call (.f 96) [(t23, []), (t24, []), ((.k (.int .i64 1073741824)), [])]), H 26 0 0 (.call t15 [(t20, []), (t25, [])]), P 27 (.move t2), H 28 0 0 (.call (.f 96) [(t26, []), (t27, []), ((.k (.int .i64 1073741824)), [])]), P 29 (.indexAddrArr 3 1 t9 t14), T 0 0 (.store 1 [] t29 t28)] []))) (.ops 0 [P 30 (.bin .add t11 (.k (.int .i64 1))), P 11 (.move t30)] [])))
/-- tympan/queue.zip -/
def ir86 : IFunc :=
  { nparams := 4, ntmps := 32, results := [.cell 8 (some 3) []], inl := false, body :=
  .seq (.ops 3 [H 4 0 1 (.box 3 [] t0), H 5 1 1 (.box 3 [] t1), H 8 2 1 (.alloc [.c (.int .i64 0), .c (.int .i64 0), .c (.int .i64 0)] [])] []) (.seq (.ops 1 [H 9 0 1 (.alloc [.c (.int .i64 0), .c (.int .i64 0), .c (.int .i64 0)] [])] []) (.seq (.seq (.ops 0 [P 11 (.move (.k (.int .i64 0)))] []) (.block 0 (.loop kl86_0 ko86_0 lb86_0))) (.seq (.ops 0 [H 31 0 0 (.load (some 3) t9), T 0 0 (.store 3 [] t8 t31)] []) (.ret)))) }
/-- (tympan/queue.Counts).Add$1 -/
def ir87 : IFunc :=
  { nparams := 2, ntmps := 8, results := [.tmp 4 []], inl := false, body :=
  .seq (.ops 0 [P 4 (.move (.k (.int .i64 0)))] []) (.seq (.ops 0 [P 5 (.move t0), P 6 (.move t1), P 7 (.bin .add t5 t6), P 4 (.move t7)] []) (.ret)) }
/-- (tympan/tympanref25.World).begun -/
def ir88 : IFunc :=
  { nparams := 2, ntmps := 11, results := [.tmp 4 []], inl := false, body :=
  .seq (.ops 4 [H 2 0 4 (.box 22 pt43 t0), P 4 (.move (.k (.int .i64 0)))] []) (.seq (.ops 0 [P 5 (.fieldAddr 0 t2), P 6 (.fieldAddr 19 t5), H 7 0 0 (.load none t6), P 8 (.move t1), H 9 0 0 (.call (.f 115) [(t7, pt25), ((.k (.int .i64 5)), []), ((.k (.int .i64 0)), []), (t8, [])]), P 10 (.len t9), P 4 (.move t10)] []) (.ret)) }
/-- tympan/tympanref11.May -/
def ir89 : IFunc :=
  { nparams := 2, ntmps := 15, results := [.tmp 4 []], inl := false, body :=
  .seq (.ops 3 [H 2 0 3 (.box 2 pt76 t0), P 4 (.move (.k (.bool false)))] []) (.seq (.ops 0 [P 5 (.move t1), P 6 (.fieldAddr 0 t2), H 7 0 0 (.load none t6), P 8 (.len t7), P 9 (.bin .eql t5 t8), P 10 (.move t9), Hg 11 10 false 0 0 (.load (some 2) t2), Pg 12 10 false (.move t1), Hg 13 10 false 0 0 (.call (.f 116) [(t11, pt76), (t12, [])]), P 14 (.pick t10 (.k (.bool true)) t13), P 4 (.move t14)] []) (.ret)) }
def kl90_0 : List Nat := [3, 4, 5, 9, 10, 11, 12, 13, 14, 15, 16, 17, 18, 19, 20, 21, 22, 23, 24, 25, 26, 27, 28, 29, 30, 31, 32, 33, 34, 35, 36, 37, 38, 39, 40, 41, 42, 43, 44, 45, 46, 47, 48, 49, 50, 51, 52, 53, 54, 55, 56, 57, 58, 59, 60, 61, 62, 63, 64, 65, 66]
def ko90_0 : List Nat := [0, 1, 2, 3, 4, 5, 8, 9, 10, 11, 12, 13, 14, 15, 16, 17, 18, 19, 20, 21, 22, 23, 24, 25, 26, 27, 28, 29, 30, 31, 32, 33, 34, 35, 36, 37, 38, 39, 40, 41, 42, 43, 44, 45, 46, 47, 48, 49, 50, 51, 52, 53, 54, 55, 56, 57, 58, 59, 60, 61, 62, 63, 64, 65, 66]
/-- The slots where the loop begins, and where it ends. -/
def cs90_0 (v0 v1 v2 v6 v7 v8 : O) : List O := [v0, v1, v2, .undef, .undef, .undef, v6, v7, v8, .undef, .undef, .undef, .undef, .undef, .undef, .undef, .undef, .undef, .undef, .undef, .undef, .undef, .undef, .undef, .undef, .undef, .undef, .undef, .undef, .undef, .undef, .undef, .undef, .undef, .undef, .undef, .undef, .undef, .undef, .undef, .undef, .undef, .undef, .undef, .undef, .undef, .undef, .undef, .undef, .undef, .undef, .undef, .undef, .undef, .undef, .undef, .undef, .undef, .undef, .undef, .undef, .undef, .undef, .undef, .undef, .undef, .undef]
def co90_0 (v6 v7 : O) : List O := [.undef, .undef, .undef, .undef, .undef, .undef, v6, v7, .undef, .undef, .undef, .undef, .undef, .undef, .undef, .undef, .undef, .undef, .undef, .undef, .undef, .undef, .undef, .undef, .undef, .undef, .undef, .undef, .undef, .undef, .undef, .undef, .undef, .undef, .undef, .undef, .undef, .undef, .undef, .undef, .undef, .undef, .undef, .undef, .undef, .undef, .undef, .undef, .undef, .undef, .undef, .undef, .undef, .undef, .undef, .undef, .undef, .undef, .undef, .undef, .undef, .undef, .undef, .undef, .undef, .undef, .undef]
def lb90_0 : IC :=
  .seq (.seq (.ops 0 [P 10 (.move t8), P 11 (.move t0), P 12 (.len t11), P 13 (.bin .lss t10 t12)] []) (.cond t13 (.skip) (.exit 0))) (.seq (.block 1 (.seq (.ops 0 [P 16 (.move t8), P 17 (.move t2), P 18 (.bin .lss t16 t17), P 19 (.move t18), Pg 20 19 true (.move t0), Pg 21 19 true (.move t8), Pg 22 19 true (.indexAddr 7 t20 t21), Pg 23 19 true (.fieldAddr 0 t22), Hg 24 19 true 0 0 (.load none t23), Pg 25 19 true (.bin .eql t24 (.k (.int .i64 6))), P 26 (.pick t19 t25 (.k (.bool false))), P 27 (.move t26), Pg 28 27 true (.move t0), Pg 29 27 true (.move t8), Pg 30 27 true (.indexAddr 7 t28 t29), Pg 31 27 true (.fieldAddr 6 t30), Hg 32 27 true 0 0 (.load none t31), Pg 33 27 true (.bin .geq t32 (.k (.int .i64 0))), P 34 (.pick t27 t33 (.k (.bool false))), P 35 (.move t34), Pg 36 35 true (.move t0), Pg 37 35 true (.move t8), Pg 38 35 true (.indexAddr 7 t36 t37), Pg 39 35 true (.fieldAddr 6 t38), Hg 40 35 true 0 0 (.load none t39), Pg 41 35 true (.move t1), Pg 42 35 true (.len t41), Pg 43 35 true (.bin .lss t40 t42), P 44 (.pick t35 t43 (.k (.bool false)))] []) (.cond t44 (.seq (.ops 0 [P 45 (.move t1), P 46 (.move t0), P 47 (.move t8), P 48 (.indexAddr 7 t46 t47), P 49 (.fieldAddr 6 t48), H 50 0 0 (.load none t49), P 51 (.indexAddr 3 t45 t50), P 52 (.fieldAddr 0 t51), H 53 0 0 (.load none t52), P 9 (.move t53)] []) (.seq (.ops 0 [P 54 (.move t9), P 55 (.bin .geq t54 (.k (.int .i64 0))), P 56 (.move t55), Pg 57 56 true (.move t9), Pg 58 56 true (.bin .lss t57 (.k (.int .i64 3))), P 59 (.pick t56 t58 (.k (.bool false)))] []) (.cond t59 (.ops 0 [P 60 (.move t9), P 61 (.move t9), P 62 (.indexAddrArr 3 1 t7 t61), H 63 0 0 (.load none t62), P 64 (.bin .add t63 (.k (.int .i64 1))), P 65 (.indexAddrArr 3 1 t7 t60), T 0 0 (.store 1 [] t65 t64)] []) (.skip)))) (.skip)))) (.ops 0 [P 14 (.move t8), P 15 (.bin .add t14 (.k (.int .i64 1))), P 8 (.move t15)] []))
/-- tympan/tympanref21.Ahead -/
def ir90 : IFunc :=
  { nparams := 3, ntmps := 67, results := [.cell 6 (some 3) []], inl := false, body :=
  .seq (.ops 1 [H 6 0 1 (.alloc [.c (.int .i64 0), .c (.int .i64 0), .c (.int .i64 0)] [])] []) (.seq (.ops 1 [H 7 0 1 (.alloc [.c (.int .i64 0), .c (.int .i64 0), .c (.int .i64 0)] [])] []) (.seq (.seq (.ops 0 [P 8 (.move (.k (.int .i64 0)))] []) (.block 0 (.loop kl90_0 ko90_0 lb90_0))) (.seq (.ops 0 [H 66 0 0 (.load (some 3) t7), T 0 0 (.store 3 [] t6 t66)] []) (.ret)))) }
/-- tympan/tympanref23.Within -/
def ir91 : IFunc :=
  { nparams := 2, ntmps := 24, results := [.tmp 4 []], inl := false, body :=
  .seq (.ops 2 [H 2 0 1 (.box 3 [] t0), H 3 1 1 (.box 3 [] t1), P 4 (.move (.k (.bool false)))] []) (.seq (.ops 0 [P 5 (.indexAddrArr 3 1 t2 (.k (.int .i64 0))), H 6 0 0 (.load none t5), P 7 (.indexAddrArr 3 1 t3 (.k (.int .i64 0))), H 8 0 0 (.load none t7), P 9 (.bin .leq t6 t8), P 10 (.move t9), Pg 11 10 true (.indexAddrArr 3 1 t2 (.k (.int .i64 1))), Hg 12 10 true 0 0 (.load none t11), Pg 13 10 true (.indexAddrArr 3 1 t3 (.k (.int .i64 1))), Hg 14 10 true 0 0 (.load none t13), Pg 15 10 true (.bin .leq t12 t14), P 16 (.pick t10 t15 (.k (.bool false))), P 17 (.move t16), Pg 18 17 true (.indexAddrArr 3 1 t2 (.k (.int .i64 2))), Hg 19 17 true 0 0 (.load none t18), Pg 20 17 true (.indexAddrArr 3 1 t3 (.k (.int .i64 2))), Hg 21 17 true 0 0 (.load none t20), Pg 22 17 true (.bin .leq t19 t21), P 23 (.pick t17 t22 (.k (.bool false))), P 4 (.move t23)] []) (.ret)) }
/-- tympan/tympanref10.Loose -/
def ir92 : IFunc :=
  { nparams := 1, ntmps := 11, results := [.tmp 2 []], inl := false, body :=
  .seq (.ops 1 [H 1 0 1 (.box 7 [] t0), P 2 (.move (.k (.bool false)))] []) (.seq (.ops 0 [P 3 (.fieldAddr 0 t1), H 4 0 0 (.load none t3), P 5 (.bin .eql t4 (.k (.int .i64 2))), P 6 (.move t5), Pg 7 6 false (.fieldAddr 0 t1), Hg 8 6 false 0 0 (.load none t7), Pg 9 6 false (.bin .eql t8 (.k (.int .i64 3))), P 10 (.pick t6 (.k (.bool true)) t9), P 2 (.move t10)] []) (.ret)) }
/-- tympan/tympanref23.held -/
def ir93 : IFunc :=
  { nparams := 3, ntmps := 12, results := [.tmp 6 []], inl := false, body :=
  .seq (.ops 0 [P 6 (.move (.k (.int .i64 0)))] []) (.seq (.ops 0 [P 7 (.move t1), P 8 (.move t0), P 9 (.move t2), P 10 (.minmax false t8 [t9]), P 11 (.minmax true t7 [t10]), P 6 (.move t11)] []) (.ret)) }
/-- cmp.isNaN[int] -/
def ir94 : IFunc :=
  { nparams := 1, ntmps := 6, results := [.tmp 2 []], inl := false, body :=
  .seq (.ops 0 [P 2 (.move (.k (.bool false)))] []) (.seq (.ops 0 [P 3 (.move t0), P 4 (.move t0), P 5 (.bin .neq t3 t4), P 2 (.move t5)] []) (.ret)) }
/-- tympan/note.May -/
def ir95 : IFunc :=
  { nparams := 2, ntmps := 8, results := [.tmp 4 []], inl := false, body :=
  .seq (.ops 3 [H 2 0 3 (.box 2 pt76 t0), P 4 (.move (.k (.bool false)))] []) (.seq (.ops 0 [H 5 0 0 (.load (some 2) t2), P 6 (.move t1), H 7 0 0 (.call (.f 117) [(t5, pt180), (t6, [])]), P 4 (.move t7)] []) (.ret)) }
/-- tympan/queue.held -/
def ir96 : IFunc :=
  { nparams := 3, ntmps := 12, results := [.tmp 6 []], inl := false, body :=
  .seq (.ops 0 [P 6 (.move (.k (.int .i64 0)))] []) (.seq (.ops 0 [P 7 (.move t0), P 8 (.move t1), P 9 (.minmax true t7 [t8]), P 10 (.move t2), P 11 (.minmax false t9 [t10]), P 6 (.move t11)] []) (.ret)) }
/-- tympan/queue.Ready$1 -/
def ir97 : IFunc :=
  { nparams := 2, ntmps := 8, results := [.tmp 4 []], inl := false, body :=
  .seq (.ops 0 [P 4 (.move (.k (.int .i64 0)))] []) (.seq (.ops 0 [P 5 (.move t1), P 6 (.move t0), P 7 (.bin .sub t5 t6), P 4 (.move t7)] []) (.ret)) }
/-- tympan/tympanref10.Long -/
def ir98 : IFunc :=
  { nparams := 1, ntmps := 9, results := [.tmp 2 []], inl := false, body :=
  .seq (.ops 0 [P 2 (.move (.k (.bool false)))] []) (.seq (.ops 0 [P 3 (.move t0), P 4 (.bin .geq t3 (.k (.int .i64 0))), P 5 (.move t4), Pg 6 5 true (.move t0), Pg 7 5 true (.bin .leq t6 (.k (.int .i64 1073741823))), P 8 (.pick t5 t7 (.k (.bool false))), P 2 (.move t8)] []) (.ret)) }
/-- tympan/valid.clauses -/
def ir99 : IFunc :=
  { nparams := 0, ntmps := 17, results := [.tmp 0 pt161], inl := false, body :=
  .seq (.ops 1 [H 0 0 1 (.nilArr false z165)] []) (.seq (.ops 1 [H 1 0 0 (.call (.f 118) [((.f 119), [])]), P 2 (.build [.c (.int .i64 0), .c (.nilf)] [(0, 1, (.k (.int .i64 3))), (1, 1, t1)]), H 3 0 0 (.call (.f 118) [((.f 120), [])]), P 4 (.build [.c (.int .i64 0), .c (.nilf)] [(0, 1, (.k (.int .i64 4))), (1, 1, t3)]), H 5 0 0 (.call (.f 118) [((.f 121), [])]), P 6 (.build [.c (.int .i64 0), .c (.nilf)] [(0, 1, (.k (.int .i64 5))), (1, 1, t5)]), H 7 0 0 (.call (.f 118) [((.f 122), [])]), P 8 (.build [.c (.int .i64 0), .c (.nilf)] [(0, 1, (.k (.int .i64 6))), (1, 1, t7)]), H 9 0 0 (.call (.f 118) [((.f 124), [])]), P 10 (.build [.c (.int .i64 0), .c (.nilf)] [(0, 1, (.k (.int .i64 7))), (1, 1, t9)]), P 11 (.build [.c (.int .i64 0), .c (.nilf)] [(0, 1, (.k (.int .i64 8))), (1, 1, (.f 125))]), P 12 (.build [.c (.int .i64 0), .c (.nilf)] [(0, 1, (.k (.int .i64 9))), (1, 1, (.f 128))]), P 13 (.build [.c (.int .i64 0), .c (.nilf)] [(0, 1, (.k (.int .i64 10))), (1, 1, (.f 131))]), P 14 (.build [.c (.int .i64 0), .c (.nilf)] [(0, 1, (.k (.int .i64 11))), (1, 1, (.f 134))]), P 15 (.build [.c (.int .i64 0), .c (.nilf)] [(0, 1, (.k (.int .i64 12))), (1, 1, (.f 135))]), H 16 0 1 (.buildSlice 10 2 z165 [(0, t2, []), (1, t4, []), (2, t6, []), (3, t8, []), (4, t10, []), (5, t11, []), (6, t12, []), (7, t13, []), (8, t14, []), (9, t15, [])]), P 0 (.move t16)] []) (.ret)) }
/-- tympan/grid.Near -/
def ir100 : IFunc :=
  { nparams := 2, ntmps := 28, results := [.tmp 4 []], inl := false, body :=
  .seq (.ops 0 [P 4 (.move (.k (.int .i64 0)))] []) (.seq (.seq (.ops 0 [P 6 (.move t1), P 7 (.bin .lss t6 (.k (.int .i64 1)))] []) (.cond t7 (.seq (.ops 0 [P 8 (.move t0), P 4 (.move t8)] []) (.ret)) (.skip))) (.seq (.ops 0 [P 9 (.move t0), P 10 (.move t1), P 11 (.bin .rem t9 t10), P 5 (.move t11)] []) (.seq (.seq (.ops 0 [P 12 (.move t5), P 13 (.bin .lss t12 (.k (.int .i64 0)))] []) (.cond t13 (.ops 0 [P 14 (.move t5), P 15 (.move t1), P 16 (.bin .add t14 t15), P 5 (.move t16)] []) (.skip))) (.seq (.seq (.ops 0 [P 17 (.move t5), P 18 (.move t1), P 19 (.move t5), P 20 (.bin .sub t18 t19), P 21 (.bin .lss t17 t20)] []) (.cond t21 (.seq (.ops 0 [P 22 (.move t0), P 23 (.move t1), H 24 0 0 (.call (.f 74) [(t22, []), (t23, [])]), P 4 (.move t24)] []) (.ret)) (.skip))) (.seq (.ops 0 [P 25 (.move t0), P 26 (.move t1), H 27 0 0 (.call (.f 75) [(t25, []), (t26, [])]), P 4 (.move t27)] []) (.ret)))))) }
/-- tympan/grid.or -/
def ir101 : IFunc :=
  { nparams := 3, ntmps := 19, results := [.tmp 6 []], inl := false, body :=
  .seq (.ops 0 [P 6 (.move (.k (.int .i64 0)))] []) (.seq (.seq (.ops 0 [P 10 (.move t2), P 11 (.move t0), P 12 (.move t1), H 13 0 0 (.call t10 [(t11, []), (t12, [])]), P 9 (.move t13), P 14 (.extract t9 0), P 15 (.extract t9 1), P 7 (.move t14), P 8 (.move t15)] []) (.seq (.ops 0 [P 16 (.move t8)] []) (.cond t16 (.seq (.ops 0 [P 17 (.move t7), P 6 (.move t17)] []) (.ret)) (.skip)))) (.seq (.ops 0 [P 18 (.move t0), P 6 (.move t18)] []) (.ret))) }
/-- tympan/sp.Down -/
def ir102 : IFunc :=
  { nparams := 2, ntmps := 15, results := [.tmp 4 [], .tmp 5 []], inl := false, body :=
  .seq (.ops 0 [P 4 (.move (.k (.int .i64 0))), P 5 (.move (.k (.bool false)))] []) (.seq (.seq (.ops 0 [P 6 (.move t1), P 7 (.bin .lss t6 (.k (.int .i64 1)))] []) (.cond t7 (.seq (.ops 0 [P 4 (.move (.k (.int .i64 0))), P 5 (.move (.k (.bool false)))] []) (.ret)) (.skip))) (.seq (.ops 0 [P 8 (.move t0), P 9 (.move t0), P 10 (.move t1), H 11 0 0 (.call (.f 137) [(t9, []), (t10, [])]), H 12 0 0 (.call (.f 136) [(t8, []), (t11, [])]), P 13 (.extract t12 0), P 14 (.extract t12 1), P 4 (.move t13), P 5 (.move t14)] []) (.ret))) }
/-- tympan/sp.Up -/
def ir103 : IFunc :=
  { nparams := 2, ntmps := 22, results := [.tmp 4 [], .tmp 5 []], inl := false, body :=
  .seq (.ops 0 [P 4 (.move (.k (.int .i64 0))), P 5 (.move (.k (.bool false)))] []) (.seq (.seq (.ops 0 [P 7 (.move t1), P 8 (.bin .lss t7 (.k (.int .i64 1)))] []) (.cond t8 (.seq (.ops 0 [P 4 (.move (.k (.int .i64 0))), P 5 (.move (.k (.bool false)))] []) (.ret)) (.skip))) (.seq (.seq (.ops 0 [P 9 (.move t0), P 10 (.move t1), H 11 0 0 (.call (.f 137) [(t9, []), (t10, [])]), P 6 (.move t11)] []) (.seq (.ops 0 [P 12 (.move t6), P 13 (.bin .gtr t12 (.k (.int .i64 0)))] []) (.cond t13 (.seq (.ops 0 [P 14 (.move t0), P 15 (.move t1), P 16 (.move t6), P 17 (.bin .sub t15 t16), H 18 0 0 (.call (.f 108) [(t14, []), (t17, [])]), P 19 (.extract t18 0), P 20 (.extract t18 1), P 4 (.move t19), P 5 (.move t20)] []) (.ret)) (.skip)))) (.seq (.ops 0 [P 21 (.move t0), P 4 (.move t21), P 5 (.move (.k (.bool true)))] []) (.ret)))) }
/-- tympan/total.Box -/
def ir104 : IFunc :=
  { nparams := 1, ntmps := 5, results := [.cell 2 (some 6) []], inl := false, body :=
  .seq (.ops 1 [H 2 0 1 (.alloc [.c (.int .i64 0), .c (.int .i64 0), .c (.int .i64 0), .c (.int .i64 0), .c (.int .i64 0), .c (.int .i64 0)] [])] []) (.seq (.ops 0 [P 3 (.move t0), P 4 (.build [.c (.int .i64 0), .c (.int .i64 0), .c (.int .i64 0), .c (.int .i64 0), .c (.int .i64 0), .c (.int .i64 0)] [(0, 1, t3)]), T 0 0 (.store 6 [] t2 t4)] []) (.ret)) }
/-- tympan/total.Glue -/
def ir105 : IFunc :=
  { nparams := 4, ntmps := 24, results := [.cell 8 (some 6) []], inl := false, body :=
  .seq (.ops 1 [H 8 0 1 (.alloc [.c (.int .i64 0), .c (.int .i64 0), .c (.int .i64 0), .c (.int .i64 0), .c (.int .i64 0), .c (.int .i64 0)] [])] []) (.seq (.ops 1 [P 10 (.move t0), P 11 (.move t3), P 12 (.build [.c (.int .i64 0), .c (.int .i64 0), .c (.int .i64 0), .c (.int .i64 0), .c (.int .i64 0), .c (.int .i64 0)] [(0, 1, t10), (5, 1, t11)]), H 9 0 1 (.alloc [.c (.int .i64 0), .c (.int .i64 0), .c (.int .i64 0), .c (.int .i64 0), .c (.int .i64 0), .c (.int .i64 0)] []), T 1 0 (.store 6 [] t9 t12)] []) (.seq (.seq (.ops 0 [P 13 (.move t2), P 14 (.bin .geq t13 (.k (.int .i64 0))), P 15 (.move t14), Pg 16 15 true (.move t2), Pg 17 15 true (.bin .lss t16 (.k (.int .i64 4))), P 18 (.pick t15 t17 (.k (.bool false)))] []) (.cond t18 (.ops 0 [P 19 (.move t2), P 20 (.move t1), P 21 (.fieldAddr 1 t9), P 22 (.indexAddrArr 4 1 t21 t19), T 0 0 (.store 1 [] t22 t20)] []) (.skip))) (.seq (.ops 0 [H 23 0 0 (.load (some 6) t9), T 0 0 (.store 6 [] t8 t23)] []) (.ret)))) }
/-- tympan/sums.fair$1 -/
def ir106 : IFunc :=
  { nparams := 1, ntmps := 9, results := [.tmp 2 []], inl := false, body :=
  .seq (.ops 0 [P 2 (.move (.k (.bool false)))] []) (.seq (.ops 0 [P 3 (.move t0), P 4 (.bin .geq t3 (.k (.int .i64 0))), P 5 (.move t4), Pg 6 5 true (.move t0), Pg 7 5 true (.bin .leq t6 (.k (.int .i64 4294967296))), P 8 (.pick t5 t7 (.k (.bool false))), P 2 (.move t8)] []) (.ret)) }
def kl107_0 : List Nat := [0, 1, 2, 5, 7, 11, 12, 13, 14, 15, 16, 17, 18, 19, 20, 21, 22, 23, 24, 25, 27, 28, 29, 30, 31, 32, 33, 34, 35, 36, 37, 38, 39, 40, 41, 42, 43, 44, 45, 46]
def ko107_0 : List Nat := [0, 1, 2, 3, 4, 5, 9, 11, 12, 13, 14, 15, 16, 17, 18, 19, 20, 21, 22, 23, 24, 25, 26, 27, 28, 29, 30, 31, 32, 33, 34, 35, 36, 37, 38, 39, 40, 41, 42, 43, 44, 45, 46]
/-- The slots where the loop begins, and where it ends. -/
def cs107_0 (v3 v4 v6 v8 v9 v10 v26 : O) : List O := [.undef, .undef, .undef, v3, v4, .undef, v6, .undef, v8, v9, v10, .undef, .undef, .undef, .undef, .undef, .undef, .undef, .undef, .undef, .undef, .undef, .undef, .undef, .undef, .undef, v26, .undef, .undef, .undef, .undef, .undef, .undef, .undef, .undef, .undef, .undef, .undef, .undef, .undef, .undef, .undef, .undef, .undef, .undef, .undef, .undef]
def co107_0 (v6 v7 v8 v10 : O) : List O := [.undef, .undef, .undef, .undef, .undef, .undef, v6, v7, v8, .undef, v10, .undef, .undef, .undef, .undef, .undef, .undef, .undef, .undef, .undef, .undef, .undef, .undef, .undef, .undef, .undef, .undef, .undef, .undef, .undef, .undef, .undef, .undef, .undef, .undef, .undef, .undef, .undef, .undef, .undef, .undef, .undef, .undef, .undef, .undef, .undef, .undef]
def lb107_0 : IC :=
  .seq (.ops 0 [P 27 (.bin .lss t26 (.k (.int .i64 4)))] []) (.seq (.cond t27 (.skip) (.exit 0)) (.seq (.block 1 (.seq (.ops 0 [P 28 (.move t26), P 11 (.move t28)] []) (.ops 0 [P 29 (.move t11), P 30 (.move t9), P 31 (.move t11), P 32 (.fieldAddr 1 t3), P 33 (.indexAddrArr 4 1 t32 t31), Hq 34 0 0 (.load none t33), P 35 (.move t11), P 36 (.fieldAddr 1 t4), P 37 (.indexAddrArr 4 1 t36 t35), Hq 38 0 0 (.load none t37), H 39 0 0 (.call t30 [(t34, []), (t38, [])]), P 40 (.fieldAddr 1 t10), P 41 (.indexAddrArr 4 1 t40 t29), T 0 0 (.store 1 [] t41 t39)] []))) (.ops 0 [P 42 (.bin .add t26 (.k (.int .i64 1))), P 26 (.move t42)] [])))
/-- tympan/total.both -/
def ir107 : IFunc :=
  { nparams := 3, ntmps := 47, results := [.cell 6 (some 6) [], .tmp 7 []], inl := false, body :=
  .seq (.ops 4 [H 3 0 1 (.box 6 [] t0), H 4 1 1 (.box 6 [] t1), H 5 2 1 (.box 1 [] t2), H 6 3 1 (.alloc [.c (.int .i64 0), .c (.int .i64 0), .c (.int .i64 0), .c (.int .i64 0), .c (.int .i64 0), .c (.int .i64 0)] []), P 7 (.move (.k (.bool false)))] []) (.seq (.ops 1 [H 8 0 1 (.alloc [.c (.bool false)] []), T 1 0 (.store 1 [] t8 (.k (.bool true)))] []) (.seq (.ops 0 [P 12 (.makeFunc 138 [] [t5, t8]), P 9 (.move t12)] []) (.seq (.ops 1 [P 13 (.move t9), P 14 (.fieldAddr 0 t3), Hq 15 0 0 (.load none t14), P 16 (.fieldAddr 0 t4), Hq 17 0 0 (.load none t16), Hq 18 0 0 (.callM t13 [(t15, []), (t17, [])]), P 19 (.move t9), P 20 (.fieldAddr 5 t3), Hq 21 0 0 (.load none t20), P 22 (.fieldAddr 5 t4), Hq 23 0 0 (.load none t22), Hq 24 0 0 (.callM t19 [(t21, []), (t23, [])]), P 25 (.build [.c (.int .i64 0), .c (.int .i64 0), .c (.int .i64 0), .c (.int .i64 0), .c (.int .i64 0), .c (.int .i64 0)] [(0, 1, t18), (5, 1, t24)]), Hq 10 0 1 (.alloc [.c (.int .i64 0), .c (.int .i64 0), .c (.int .i64 0), .c (.int .i64 0), .c (.int .i64 0), .c (.int .i64 0)] []), T 1 0 (.store 6 [] t10 t25)] [(5, 8), (5, 10), (2, 13), (4, 13), (5, 13), (8, 13), (10, 13), (11, 13)]) (.seq (.seq (.ops 0 [P 26 (.move (.k (.int .i64 0)))] []) (.block 0 (.loop kl107_0 ko107_0 lb107_0))) (.seq (.seq (.ops 0 [H 43 0 0 (.load none t8), P 44 (.not t43)] []) (.cond t44 (.seq (.ops 0 [P 45 (.build [.c (.int .i64 0), .c (.int .i64 0), .c (.int .i64 0), .c (.int .i64 0), .c (.int .i64 0), .c (.int .i64 0)] []), T 0 0 (.store 6 [] t6 t45), P 7 (.move (.k (.bool false)))] []) (.ret)) (.skip))) (.seq (.ops 0 [H 46 0 0 (.load (some 6) t10), T 0 0 (.store 6 [] t6 t46), P 7 (.move (.k (.bool true)))] []) (.ret))))))) }
/-- tympan/sp.Add -/
def ir108 : IFunc :=
  { nparams := 2, ntmps := 21, results := [.tmp 4 [], .tmp 5 []], inl := false, body :=
  .seq (.ops 0 [P 4 (.move (.k (.int .i64 0))), P 5 (.move (.k (.bool false)))] []) (.seq (.ops 0 [P 7 (.move t0), P 8 (.move t1), P 9 (.bin .add t7 t8), P 6 (.move t9)] []) (.seq (.seq (.ops 0 [P 10 (.move t6), P 11 (.move t0), P 12 (.bin .gtr t10 t11), P 13 (.move t1), P 14 (.bin .gtr t13 (.k (.int .i64 0))), P 15 (.eqBool true t12 t14), P 16 (.move t15), Pg 17 16 true (.move t1), Pg 18 16 true (.bin .neq t17 (.k (.int .i64 0))), P 19 (.pick t16 t18 (.k (.bool false)))] []) (.cond t19 (.seq (.ops 0 [P 4 (.move (.k (.int .i64 0))), P 5 (.move (.k (.bool false)))] []) (.ret)) (.skip))) (.seq (.ops 0 [P 20 (.move t6), P 4 (.move t20), P 5 (.move (.k (.bool true)))] []) (.ret)))) }
/-- tympan/tympanref14.got -/
def ir109 : IFunc :=
  { nparams := 2, ntmps := 10, results := [.tmp 4 []], inl := false, body :=
  .seq (.ops 1 [H 2 0 1 (.box 2 [] t0), P 4 (.move (.k (.int .i64 0)))] []) (.seq (.seq (.ops 0 [P 5 (.fieldAddr 1 t2), H 6 0 0 (.load none t5)] []) (.cond t6 (.seq (.ops 0 [P 7 (.fieldAddr 0 t2), H 8 0 0 (.load none t7), P 4 (.move t8)] []) (.ret)) (.skip))) (.seq (.ops 0 [P 9 (.move t1), P 4 (.move t9)] []) (.ret))) }
/-- tympan/tympanref01.Down -/
def ir110 : IFunc :=
  { nparams := 2, ntmps := 20, results := [.cell 4 (some 2) []], inl := false, body :=
  .seq (.ops 1 [H 4 0 1 (.alloc [.c (.int .i64 0), .c (.bool false)] [])] []) (.seq (.seq (.ops 0 [P 6 (.move t1), P 7 (.bin .lss t6 (.k (.int .i64 1)))] []) (.cond t7 (.seq (.ops 0 [P 8 (.build [.c (.int .i64 0), .c (.bool false)] []), T 0 0 (.store 2 [] t4 t8)] []) (.ret)) (.skip))) (.seq (.ops 0 [P 9 (.move t0), P 10 (.move t1), P 11 (.bin .rem t9 t10), P 5 (.move t11)] []) (.seq (.seq (.ops 0 [P 12 (.move t5), P 13 (.bin .lss t12 (.k (.int .i64 0)))] []) (.cond t13 (.ops 0 [P 14 (.move t5), P 15 (.move t1), P 16 (.bin .add t14 t15), P 5 (.move t16)] []) (.skip))) (.seq (.ops 0 [P 17 (.move t0), P 18 (.move t5), H 19 0 0 (.call (.f 139) [(t17, []), (t18, [])]), T 0 0 (.store 2 [] t4 t19)] []) (.ret))))) }
/-- tympan/tympanref01.Up -/
def ir111 : IFunc :=
  { nparams := 2, ntmps := 26, results := [.cell 4 (some 2) []], inl := false, body :=
  .seq (.ops 1 [H 4 0 1 (.alloc [.c (.int .i64 0), .c (.bool false)] [])] []) (.seq (.seq (.ops 0 [P 6 (.move t1), P 7 (.bin .lss t6 (.k (.int .i64 1)))] []) (.cond t7 (.seq (.ops 0 [P 8 (.build [.c (.int .i64 0), .c (.bool false)] []), T 0 0 (.store 2 [] t4 t8)] []) (.ret)) (.skip))) (.seq (.ops 0 [P 9 (.move t0), P 10 (.move t1), P 11 (.bin .rem t9 t10), P 5 (.move t11)] []) (.seq (.seq (.ops 0 [P 12 (.move t5), P 13 (.bin .lss t12 (.k (.int .i64 0)))] []) (.cond t13 (.ops 0 [P 14 (.move t5), P 15 (.move t1), P 16 (.bin .add t14 t15), P 5 (.move t16)] []) (.skip))) (.seq (.seq (.ops 0 [P 17 (.move t5), P 18 (.bin .eql t17 (.k (.int .i64 0)))] []) (.cond t18 (.seq (.ops 0 [P 19 (.move t0), P 20 (.build [.c (.int .i64 0), .c (.bool false)] [(0, 1, t19), (1, 1, (.k (.bool true)))]), T 0 0 (.store 2 [] t4 t20)] []) (.ret)) (.skip))) (.seq (.ops 0 [P 21 (.move t0), P 22 (.move t1), P 23 (.move t5), P 24 (.bin .sub t22 t23), H 25 0 0 (.call (.f 140) [(t21, []), (t24, [])]), T 0 0 (.store 2 [] t4 t25)] []) (.ret)))))) }
/-- tympan/tympanref14.Near -/
def ir112 : IFunc :=
  { nparams := 2, ntmps := 39, results := [.tmp 4 []], inl := false, body :=
  .seq (.ops 0 [P 4 (.move (.k (.int .i64 0)))] []) (.seq (.seq (.ops 0 [P 8 (.move t1), P 9 (.bin .lss t8 (.k (.int .i64 1)))] []) (.cond t9 (.seq (.ops 0 [P 10 (.move t0), P 4 (.move t10)] []) (.ret)) (.skip))) (.seq (.ops 2 [P 11 (.move t0), P 12 (.move t1), H 13 0 0 (.call (.f 110) [(t11, []), (t12, [])]), P 14 (.move t0), P 15 (.move t1), H 16 0 0 (.call (.f 111) [(t14, []), (t15, [])]), H 5 0 1 (.alloc [.c (.int .i64 0), .c (.bool false)] []), H 6 1 1 (.alloc [.c (.int .i64 0), .c (.bool false)] []), T 2 0 (.store 2 [] t5 t13), T 2 0 (.store 2 [] t6 t16)] []) (.seq (.ops 0 [P 17 (.move t0), P 18 (.move t1), P 19 (.bin .rem t17 t18), P 7 (.move t19)] []) (.seq (.seq (.ops 0 [P 20 (.move t7), P 21 (.bin .lss t20 (.k (.int .i64 0)))] []) (.cond t21 (.ops 0 [P 22 (.move t7), P 23 (.move t1), P 24 (.bin .add t22 t23), P 7 (.move t24)] []) (.skip))) (.seq (.seq (.ops 0 [P 25 (.move t7), P 26 (.move t1), P 27 (.move t7), P 28 (.bin .sub t26 t27), P 29 (.bin .lss t25 t28)] []) (.cond t29 (.seq (.ops 0 [H 30 0 0 (.load (some 2) t5), P 31 (.move t0), H 32 0 0 (.call (.f 109) [(t30, []), (t31, [])]), P 4 (.move t32)] []) (.ret)) (.skip))) (.seq (.seq (.ops 0 [P 33 (.move t7), P 34 (.bin .eql t33 (.k (.int .i64 0)))] []) (.cond t34 (.seq (.ops 0 [P 35 (.move t0), P 4 (.move t35)] []) (.ret)) (.skip))) (.seq (.ops 0 [H 36 0 0 (.load (some 2) t6), P 37 (.move t0), H 38 0 0 (.call (.f 109) [(t36, []), (t37, [])]), P 4 (.move t38)] []) (.ret)))))))) }
/-- (*tympan/vlist.List).At -/
def ir113 : IFunc :=
  { nparams := 2, ntmps := 22, results := [.cell 4 (some 7) [], .tmp 5 []], inl := false, body :=
  .seq (.ops 1 [H 4 0 1 (.alloc [.c (.int .i64 0), .c (.int .i64 0), .c (.int .i64 0), .c (.int .i64 0), .c (.int .i64 0), .c (.int .i64 0), .c (.int .i64 0)] []), P 5 (.move (.k (.bool false)))] []) (.seq (.seq (.ops 0 [P 6 (.move t1), P 7 (.bin .lss t6 (.k (.int .i64 0))), P 8 (.move t7), Pg 9 8 false (.move t1), Pg 10 8 false (.move t0), Hg 11 8 false 0 0 (.call (.f 50) [(t10, [])]), Pg 12 8 false (.bin .geq t9 t11), P 13 (.pick t8 (.k (.bool true)) t12)] []) (.cond t13 (.seq (.ops 0 [P 14 (.build [.c (.int .i64 0), .c (.int .i64 0), .c (.int .i64 0), .c (.int .i64 0), .c (.int .i64 0), .c (.int .i64 0), .c (.int .i64 0)] []), T 0 0 (.store 7 [] t4 t14), P 5 (.move (.k (.bool false)))] []) (.ret)) (.skip))) (.seq (.ops 0 [P 15 (.move t0), P 16 (.nilCheck t15), P 17 (.fieldAddr 0 t16), H 18 0 0 (.load none t17), P 19 (.move t1), P 20 (.indexAddr 7 t18 t19), H 21 0 0 (.load (some 7) t20), T 0 0 (.store 7 [] t4 t21), P 5 (.move (.k (.bool true)))] []) (.ret))) }
/-- tympan/item.Loose -/
def ir114 : IFunc :=
  { nparams := 1, ntmps := 11, results := [.tmp 2 []], inl := false, body :=
  .seq (.ops 1 [H 1 0 1 (.box 7 [] t0), P 2 (.move (.k (.bool false)))] []) (.seq (.ops 0 [P 3 (.fieldAddr 0 t1), H 4 0 0 (.load none t3), P 5 (.bin .eql t4 (.k (.int .i64 2))), P 6 (.move t5), Pg 7 6 false (.fieldAddr 0 t1), Hg 8 6 false 0 0 (.load none t7), Pg 9 6 false (.bin .eql t8 (.k (.int .i64 3))), P 10 (.pick t6 (.k (.bool true)) t9), P 2 (.move t10)] []) (.ret)) }
def kl115_0 : List Nat := [4, 5, 6, 7, 8, 11, 12, 13, 14, 15, 16, 17, 18, 19, 20, 21, 22, 23, 24, 25, 26, 27, 28, 29, 30, 31, 32, 33, 34, 35, 36, 37, 38, 39, 40, 41, 42]
def ko115_0 : List Nat := [0, 1, 2, 3, 4, 5, 6, 7, 10, 11, 12, 13, 14, 15, 16, 17, 18, 19, 20, 21, 22, 23, 24, 25, 26, 27, 28, 29, 30, 31, 32, 33, 34, 35, 36, 37, 38, 39, 40, 41, 42]
/-- The slots where the loop begins, and where it ends. -/
def cs115_0 (v0 v1 v2 v3 v9 v10 : O) : List O := [v0, v1, v2, v3, .undef, .undef, .undef, .undef, .undef, v9, v10, .undef, .undef, .undef, .undef, .undef, .undef, .undef, .undef, .undef, .undef, .undef, .undef, .undef, .undef, .undef, .undef, .undef, .undef, .undef, .undef, .undef, .undef, .undef, .undef, .undef, .undef, .undef, .undef, .undef, .undef, .undef, .undef]
def co115_0 (v8 v9 : O) : List O := [.undef, .undef, .undef, .undef, .undef, .undef, .undef, .undef, v8, v9, .undef, .undef, .undef, .undef, .undef, .undef, .undef, .undef, .undef, .undef, .undef, .undef, .undef, .undef, .undef, .undef, .undef, .undef, .undef, .undef, .undef, .undef, .undef, .undef, .undef, .undef, .undef, .undef, .undef, .undef, .undef, .undef, .undef]
def lb115_0 : IC :=
  .seq (.seq (.ops 0 [P 11 (.move t10), P 12 (.move t0), P 13 (.len t12), P 14 (.bin .lss t11 t13)] []) (.cond t14 (.skip) (.exit 0))) (.seq (.block 1 (.seq (.ops 0 [P 17 (.move t10), P 18 (.move t2), P 19 (.bin .geq t17 t18), P 20 (.move t19), Pg 21 20 true (.move t10), Pg 22 20 true (.move t3), Pg 23 20 true (.bin .lss t21 t22), P 24 (.pick t20 t23 (.k (.bool false))), P 25 (.move t24), Pg 26 25 true (.move t0), Pg 27 25 true (.move t10), Pg 28 25 true (.indexAddr 7 t26 t27), Pg 29 25 true (.fieldAddr 0 t28), Hg 30 25 true 0 0 (.load none t29), Pg 31 25 true (.move t1), Pg 32 25 true (.bin .eql t30 t31), P 33 (.pick t25 t32 (.k (.bool false)))] []) (.cond t33 (.ops 2 [P 34 (.move t9), P 35 (.move t0), P 36 (.move t10), P 37 (.indexAddr 7 t35 t36), P 38 (.fieldAddr 6 t37), H 39 0 0 (.load none t38), H 40 0 1 (.buildSlice 1 1 z3 [(0, t39, [])]), H 41 1 1 (.append 1 17592186044416 z3 t34 t40), P 9 (.move t41)] []) (.skip)))) (.ops 0 [P 15 (.move t10), P 16 (.bin .add t15 (.k (.int .i64 1))), P 10 (.move t16)] []))
/-- tympan/tympanref21.Nums -/
def ir115 : IFunc :=
  { nparams := 4, ntmps := 43, results := [.tmp 8 pt34], inl := false, body :=
  .seq (.ops 1 [H 8 0 1 (.nilArr false z3)] []) (.seq (.ops 1 [H 9 0 1 (.nilArr false z3)] []) (.seq (.seq (.ops 0 [P 10 (.move (.k (.int .i64 0)))] []) (.block 0 (.loop kl115_0 ko115_0 lb115_0))) (.seq (.ops 0 [P 42 (.move t9), P 8 (.move t42)] []) (.ret)))) }
/-- tympan/tympanref11.split -/
def ir116 : IFunc :=
  { nparams := 2, ntmps := 31, results := [.tmp 4 []], inl := false, body :=
  .seq (.ops 3 [H 2 0 3 (.box 2 pt76 t0), P 4 (.move (.k (.bool false)))] []) (.seq (.ops 0 [P 5 (.move t1), P 6 (.bin .geq t5 (.k (.int .i64 1))), P 7 (.move t6), Pg 8 7 true (.move t1), Pg 9 7 true (.fieldAddr 0 t2), Hg 10 7 true 0 0 (.load none t9), Pg 11 7 true (.len t10), Pg 12 7 true (.bin .lss t8 t11), P 13 (.pick t7 t12 (.k (.bool false))), P 14 (.move t13), Pg 15 14 true (.move t1), Pg 16 14 true (.bin .sub t15 (.k (.int .i64 1))), Pg 17 14 true (.fieldAddr 1 t2), Hg 18 14 true 0 0 (.load none t17), Pg 19 14 true (.len t18), Pg 20 14 true (.bin .lss t16 t19), P 21 (.pick t14 t20 (.k (.bool false))), P 22 (.move t21), Pg 23 22 true (.fieldAddr 1 t2), Hg 24 22 true 0 0 (.load none t23), Pg 25 22 true (.move t1), Pg 26 22 true (.bin .sub t25 (.k (.int .i64 1))), Pg 27 22 true (.indexAddr 1 t24 t26), Hg 28 22 true 0 0 (.load none t27), Pg 29 22 true (.bin .lss t28 (.k (.int .i64 10000))), P 30 (.pick t22 t29 (.k (.bool false))), P 4 (.move t30)] []) (.ret)) }
/-- (tympan/note.places).stop -/
def ir117 : IFunc :=
  { nparams := 2, ntmps := 15, results := [.tmp 4 []], inl := false, body :=
  .seq (.ops 3 [H 2 0 3 (.box 2 pt180 t0), P 4 (.move (.k (.bool false)))] []) (.seq (.ops 0 [P 5 (.move t1), P 6 (.fieldAddr 0 t2), H 7 0 0 (.load none t6), P 8 (.len t7), P 9 (.bin .eql t5 t8), P 10 (.move t9), Hg 11 10 false 0 0 (.load (some 2) t2), Pg 12 10 false (.move t1), Hg 13 10 false 0 0 (.call (.f 141) [(t11, pt180), (t12, [])]), P 14 (.pick t10 (.k (.bool true)) t13), P 4 (.move t14)] []) (.ret)) }
/-- tympan/valid.when -/
def ir118 : IFunc :=
  { nparams := 1, ntmps := 4, results := [.tmp 2 []], inl := false, body :=
  .seq (.ops 1 [H 1 0 1 (.box 1 [] t0), P 2 (.move (.k (.nilf)))] []) (.seq (.ops 0 [P 3 (.makeFunc 142 [] [t1]), P 2 (.move t3)] []) (.ret)) }
/-- tympan/valid.clauses$1 -/
def ir119 : IFunc :=
  { nparams := 1, ntmps := 7, results := [.tmp 2 []], inl := false, body :=
  .seq (.ops 4 [H 1 0 4 (.box 22 pt29 t0), P 2 (.move (.k (.bool false)))] []) (.seq (.ops 0 [P 3 (.fieldAddr 19 t1), H 4 0 0 (.load none t3), P 5 (.len t4), P 6 (.bin .gtr t5 (.k (.int .i64 4096))), P 2 (.move t6)] []) (.ret)) }
/-- tympan/valid.clauses$2 -/
def ir120 : IFunc :=
  { nparams := 1, ntmps := 7, results := [.tmp 2 []], inl := false, body :=
  .seq (.ops 4 [H 1 0 4 (.box 22 pt29 t0), P 2 (.move (.k (.bool false)))] []) (.seq (.ops 0 [P 3 (.fieldAddr 21 t1), H 4 0 0 (.load none t3), P 5 (.len t4), P 6 (.bin .gtr t5 (.k (.int .i64 256))), P 2 (.move t6)] []) (.ret)) }
/-- tympan/valid.clauses$3 -/
def ir121 : IFunc :=
  { nparams := 1, ntmps := 7, results := [.tmp 2 []], inl := false, body :=
  .seq (.ops 4 [H 1 0 4 (.box 22 pt29 t0), P 2 (.move (.k (.bool false)))] []) (.seq (.ops 0 [P 3 (.fieldAddr 20 t1), H 4 0 0 (.load none t3), P 5 (.len t4), P 6 (.bin .gtr t5 (.k (.int .i64 512))), P 2 (.move t6)] []) (.ret)) }
/-- tympan/valid.clauses$4 -/
def ir122 : IFunc :=
  { nparams := 1, ntmps := 7, results := [.tmp 2 []], inl := false, body :=
  .seq (.ops 4 [H 1 0 4 (.box 22 pt29 t0), P 2 (.move (.k (.bool false)))] []) (.seq (.ops 0 [P 3 (.fieldAddr 0 t1), H 4 0 0 (.load (some 19) t3), H 5 0 0 (.call (.f 123) [(t4, [])]), P 6 (.bin .eql t5 (.k (.int .i64 6))), P 2 (.move t6)] []) (.ret)) }
/-- tympan/geom.Check -/
def ir123 : IFunc :=
  { nparams := 1, ntmps := 90, results := [.tmp 2 []], inl := false, body :=
  .seq (.ops 1 [H 1 0 1 (.box 19 [] t0), P 2 (.move (.k (.int .i64 0)))] []) (.seq (.seq (.ops 1 [Hq 8 0 0 (.callQ (.f 143) [((.k (.int .i64 1)), []), ((.k (.int .i64 8)), [])]), P 9 (.fieldAddr 0 t1), Hq 10 0 0 (.load none t9), Hq 11 0 1 (.buildSlice 1 1 z3 [(0, t10, [])]), H 12 1 0 (.call t8 [(t11, pt34)]), P 13 (.not t12)] [(0, 3)]) (.cond t13 (.seq (.ops 0 [P 2 (.move (.k (.int .i64 6)))] []) (.ret)) (.skip))) (.seq (.ops 0 [H 14 0 0 (.call (.f 144) [((.k (.int .i64 1)), []), ((.k (.int .i64 1073741823)), [])]), H 15 0 0 (.call (.f 144) [((.k (.int .i64 0)), []), ((.k (.int .i64 1073741823)), [])]), H 16 0 0 (.call (.f 144) [((.k (.int .i64 0)), []), ((.k (.int .i64 536870912)), [])]), P 3 (.move t14), P 4 (.move t15), P 5 (.move t16)] []) (.seq (.ops 1 [P 17 (.fieldAddr 2 t1), H 18 0 0 (.load none t17), P 19 (.fieldAddr 8 t1), H 20 0 0 (.load none t19), P 21 (.fieldAddr 9 t1), H 22 0 0 (.load none t21), P 23 (.fieldAddr 10 t1), H 24 0 0 (.load none t23), P 25 (.build [.c (.int .i64 0), .c (.int .i64 0), .c (.int .i64 0), .c (.int .i64 0)] [(0, 1, t18), (1, 1, t20), (2, 1, t22), (3, 1, t24)]), H 6 0 1 (.alloc [.c (.int .i64 0), .c (.int .i64 0), .c (.int .i64 0), .c (.int .i64 0)] []), T 1 0 (.store 4 [] t6 t25)] []) (.seq (.ops 1 [P 26 (.fieldAddr 13 t1), H 27 0 0 (.load none t26), P 28 (.fieldAddr 14 t1), H 29 0 0 (.load none t28), P 30 (.fieldAddr 15 t1), H 31 0 0 (.load none t30), P 32 (.fieldAddr 16 t1), H 33 0 0 (.load none t32), P 34 (.fieldAddr 17 t1), H 35 0 0 (.load none t34), P 36 (.build [.c (.int .i64 0), .c (.int .i64 0), .c (.int .i64 0), .c (.int .i64 0), .c (.int .i64 0)] [(0, 1, t27), (1, 1, t29), (2, 1, t31), (3, 1, t33), (4, 1, t35)]), H 7 0 1 (.alloc [.c (.int .i64 0), .c (.int .i64 0), .c (.int .i64 0), .c (.int .i64 0), .c (.int .i64 0)] []), T 1 0 (.store 5 [] t7 t36)] []) (.seq (.block 0 (.seq (.seq (.ops 1 [P 38 (.move t3), P 39 (.fieldAddr 1 t1), H 40 0 0 (.load none t39), P 41 (.fieldAddr 3 t1), H 42 0 0 (.load none t41), H 43 0 1 (.buildSlice 2 1 z22 [(0, t40, []), (1, t42, [])]), H 44 1 0 (.call t38 [(t43, pt74)]), P 45 (.not t44), P 37 (.move t45)] []) (.cond t37 (.skip) (.seq (.ops 0 [P 46 (.move t4), P 47 (.sliceArr 4 1 t6 none none none), H 48 0 0 (.call t46 [(t47, pt74)]), P 49 (.not t48), P 37 (.move t49)] []) (.cond t37 (.skip) (.ops 1 [P 50 (.move t5), P 51 (.fieldAddr 6 t1), H 52 0 0 (.load none t51), P 53 (.fieldAddr 7 t1), H 54 0 0 (.load none t53), P 55 (.fieldAddr 5 t1), H 56 0 0 (.load none t55), H 57 0 1 (.buildSlice 3 1 z22 [(0, t52, []), (1, t54, []), (2, t56, [])]), H 58 1 0 (.call t50 [(t57, pt74)]), P 59 (.not t58), P 37 (.move t59)] []))))) (.cond t37 (.seq (.ops 0 [P 2 (.move (.k (.int .i64 7)))] []) (.ret)) (.seq (.seq (.ops 1 [P 61 (.fieldAddr 3 t1), Hq 62 0 0 (.load none t61), Hq 63 0 0 (.callQ (.f 144) [((.k (.int .i64 1)), []), (t62, [])]), P 64 (.fieldAddr 4 t1), Hq 65 0 0 (.load none t64), Hq 66 0 1 (.buildSlice 1 1 z22 [(0, t65, [])]), H 67 1 0 (.call t63 [(t66, pt74)]), P 68 (.not t67), P 60 (.move t68)] [(1, 5), (2, 5)]) (.cond t60 (.skip) (.ops 1 [P 69 (.fieldAddr 4 t1), Hq 70 0 0 (.load none t69), Hq 71 0 0 (.callQ (.f 144) [((.k (.int .i64 0)), []), (t70, [])]), P 72 (.fieldAddr 5 t1), Hq 73 0 0 (.load none t72), Hq 74 0 1 (.buildSlice 1 1 z22 [(0, t73, [])]), H 75 1 0 (.call t71 [(t74, pt74)]), P 76 (.not t75), P 60 (.move t76)] [(1, 5), (2, 5)]))) (.cond t60 (.seq (.ops 0 [P 2 (.move (.k (.int .i64 7)))] []) (.ret)) (.seq (.seq (.ops 1 [Hq 78 0 0 (.callQ (.f 143) [((.k (.int .i64 0)), []), ((.k (.int .i64 4)), [])]), P 79 (.fieldAddr 11 t1), Hq 80 0 0 (.load none t79), P 81 (.fieldAddr 12 t1), Hq 82 0 0 (.load none t81), Hq 83 0 1 (.buildSlice 2 1 z3 [(0, t80, []), (1, t82, [])]), H 84 1 0 (.call t78 [(t83, pt34)]), P 85 (.not t84), P 77 (.move t85)] [(0, 5)]) (.cond t77 (.skip) (.ops 0 [H 86 0 0 (.call (.f 143) [((.k (.int .i64 0)), []), ((.k (.int .i64 1048576)), [])]), P 87 (.sliceArr 5 1 t7 none none none), H 88 0 0 (.call t86 [(t87, pt34)]), P 89 (.not t88), P 77 (.move t89)] []))) (.cond t77 (.seq (.ops 0 [P 2 (.move (.k (.int .i64 7)))] []) (.ret)) (.skip)))))))) (.seq (.ops 0 [P 2 (.move (.k (.int .i64 0)))] []) (.ret))))))) }
/-- tympan/valid.clauses$5 -/
def ir124 : IFunc :=
  { nparams := 1, ntmps := 7, results := [.tmp 2 []], inl := false, body :=
  .seq (.ops 4 [H 1 0 4 (.box 22 pt29 t0), P 2 (.move (.k (.bool false)))] []) (.seq (.ops 0 [P 3 (.fieldAddr 0 t1), H 4 0 0 (.load (some 19) t3), H 5 0 0 (.call (.f 123) [(t4, [])]), P 6 (.bin .eql t5 (.k (.int .i64 7))), P 2 (.move t6)] []) (.ret)) }
/-- tympan/valid.clauses$6 -/
def ir125 : IFunc :=
  { nparams := 1, ntmps := 7, results := [.tmp 2 []], inl := false, body :=
  .seq (.ops 4 [H 1 0 4 (.box 22 pt29 t0), P 2 (.move (.k (.int .i64 0)))] []) (.seq (.ops 0 [Hq 3 0 0 (.callQ (.f 126) [((.f 127), [])]), P 4 (.fieldAddr 19 t1), Hq 5 0 0 (.load none t4), H 6 0 0 (.call t3 [(t5, pt25)]), P 2 (.move t6)] []) (.ret)) }
/-- tympan/valid.first[tympan/api.Item] -/
def ir126 : IFunc :=
  { nparams := 1, ntmps := 4, results := [.tmp 2 []], inl := false, body :=
  .seq (.ops 1 [H 1 0 1 (.box 1 [] t0), P 2 (.move (.k (.nilf)))] []) (.seq (.ops 0 [P 3 (.makeFunc 145 [] [t1]), P 2 (.move t3)] []) (.ret)) }
end Go.Ab

/-! ## Ir3 -/
namespace Go.Ab
/-- tympan/item.Check -/
def ir127 : IFunc :=
  { nparams := 1, ntmps := 71, results := [.tmp 2 []], inl := false, body :=
  .seq (.ops 1 [H 1 0 1 (.box 7 [] t0), P 2 (.move (.k (.int .i64 0)))] []) (.seq (.seq (.ops 0 [P 5 (.fieldAddr 0 t1), H 6 0 0 (.load none t5), P 7 (.bin .lss t6 (.k (.int .i64 1))), P 8 (.move t7), Pg 9 8 false (.fieldAddr 0 t1), Hg 10 8 false 0 0 (.load none t9), Pg 11 8 false (.bin .gtr t10 (.k (.int .i64 7))), P 12 (.pick t8 (.k (.bool true)) t11)] []) (.cond t12 (.seq (.ops 0 [P 2 (.move (.k (.int .i64 8)))] []) (.ret)) (.skip))) (.seq (.ops 1 [Hq 13 0 0 (.callQ (.f 148) []), P 14 (.fieldAddr 0 t1), Hq 15 0 0 (.load none t14), P 16 (.bin .sub t15 (.k (.int .i64 1))), P 17 (.indexAddr 2 t13 t16), Hq 18 0 0 (.load (some 2) t17), Hq 3 0 1 (.alloc [.c (.nilf), .c (.nilf)] []), T 1 0 (.store 2 [] t3 t18)] [(0, 6), (2, 6), (5, 6)]) (.seq (.ops 0 [H 19 0 0 (.call (.f 149) [((.k (.int .i64 3)), [])]), P 4 (.move t19)] []) (.seq (.seq (.ops 1 [P 20 (.fieldAddr 0 t3), Hq 21 0 0 (.load none t20), Hq 22 0 0 (.load (some 7) t1), Hq 23 0 0 (.callQ t21 [(t22, [])]), Hq 24 0 0 (.load (some 7) t1), P 25 (.eqAgg true [true, true, true, true, true, true, true] t23 t24), P 26 (.move t25), Pg 27 26 false (.fieldAddr 1 t3), ⟨(some 28), (some (26, false)), .inr (.load none t27), 0, 0, false⟩, Pg 29 26 false (.fieldAddr 6 t1), ⟨(some 30), (some (26, false)), .inr (.load none t29), 0, 0, false⟩, Hg 31 26 false 0 0 (.call t28 [(t30, [])]), Pg 32 26 false (.not t31), P 33 (.pick t26 (.k (.bool true)) t32), P 34 (.move t33), Pg 35 34 false (.fieldAddr 1 t1), ⟨(some 36), (some (34, false)), .inr (.load none t35), 0, 0, false⟩, Pg 37 34 false (.fieldAddr 3 t1), ⟨(some 38), (some (34, false)), .inr (.load none t37), 0, 0, false⟩, Pg 39 34 false (.fieldAddr 5 t1), ⟨(some 40), (some (34, false)), .inr (.load none t39), 0, 0, false⟩, Hg 41 34 false 0 1 (.buildSlice 3 1 z22 [(0, t36, []), (1, t38, []), (2, t40, [])]), Hg 42 34 false 1 0 (.call (.f 150) [(t41, pt74)]), Pg 43 34 false (.not t42), P 44 (.pick t34 (.k (.bool true)) t43), P 45 (.move t44), Pg 46 45 false (.move t4), Pg 47 45 false (.fieldAddr 2 t1), Hg 48 45 false 1 0 (.load none t47), Hg 49 45 false 1 0 (.call t46 [(t48, [])]), Pg 50 45 false (.not t49), P 51 (.pick t45 (.k (.bool true)) t50), P 52 (.move t51), Pg 53 52 false (.move t4), Pg 54 52 false (.fieldAddr 4 t1), Hg 55 52 false 1 0 (.load none t54), Hg 56 52 false 1 0 (.call t53 [(t55, [])]), Pg 57 52 false (.not t56), P 58 (.pick t52 (.k (.bool true)) t57), P 59 (.move t58), Pg 60 59 false (.fieldAddr 0 t1), Hg 61 59 false 1 0 (.load none t60), Pg 62 59 false (.bin .eql t61 (.k (.int .i64 2))), Pg 63 59 false (.move t62), Pg 64 63 true (.fieldAddr 5 t1), ⟨(some 65), (some (63, true)), .inr (.load none t64), 1, 0, false⟩, Pg 66 63 true (.fieldAddr 1 t1), ⟨(some 67), (some (63, true)), .inr (.load none t66), 1, 0, false⟩, Pg 68 63 true (.bin .gtr t65 t67), Pg 69 59 false (.pick t63 t68 (.k (.bool false))), P 70 (.pick t59 (.k (.bool true)) t69)] []) (.cond t70 (.seq (.ops 0 [P 2 (.move (.k (.int .i64 8)))] []) (.ret)) (.skip))) (.seq (.ops 0 [P 2 (.move (.k (.int .i64 0)))] []) (.ret)))))) }
/-- tympan/valid.clauses$7 -/
def ir128 : IFunc :=
  { nparams := 1, ntmps := 7, results := [.tmp 2 []], inl := false, body :=
  .seq (.ops 4 [H 1 0 4 (.box 22 pt29 t0), P 2 (.move (.k (.int .i64 0)))] []) (.seq (.ops 0 [Hq 3 0 0 (.callQ (.f 129) [((.f 130), [])]), P 4 (.fieldAddr 20 t1), Hq 5 0 0 (.load none t4), H 6 0 0 (.call t3 [(t5, pt26)]), P 2 (.move t6)] []) (.ret)) }
/-- tympan/valid.first[tympan/api.Note] -/
def ir129 : IFunc :=
  { nparams := 1, ntmps := 4, results := [.tmp 2 []], inl := false, body :=
  .seq (.ops 1 [H 1 0 1 (.box 1 [] t0), P 2 (.move (.k (.nilf)))] []) (.seq (.ops 0 [P 3 (.makeFunc 151 [] [t1]), P 2 (.move t3)] []) (.ret)) }
def kl130_1 : List Nat := [0, 1, 2, 4, 5, 6, 7, 8, 9, 10, 11, 12, 13, 14, 15, 16, 17, 18, 19, 20, 21, 22, 23, 24, 25, 26, 27, 28, 29, 30, 31, 32, 33, 34, 35, 36, 37, 38, 39, 40, 41, 42, 43, 44, 45, 49, 50, 51, 52, 53, 54, 55, 56, 57, 58, 59, 60, 61, 62]
def ko130_1 : List Nat := [0, 1, 4, 5, 6, 7, 8, 9, 10, 11, 12, 13, 14, 15, 16, 17, 18, 19, 20, 21, 22, 23, 24, 25, 26, 27, 28, 29, 30, 31, 32, 33, 34, 35, 36, 37, 38, 39, 40, 41, 42, 43, 44, 45, 46, 47, 48, 49, 50, 51, 52, 53, 54, 55, 56, 57, 58, 59, 60, 61, 62]
/-- The slots where the loop begins, and where it ends. -/
def cs130_1 (v3 v46 v47 v48 : O) : List O := [.undef, .undef, .undef, v3, .undef, .undef, .undef, .undef, .undef, .undef, .undef, .undef, .undef, .undef, .undef, .undef, .undef, .undef, .undef, .undef, .undef, .undef, .undef, .undef, .undef, .undef, .undef, .undef, .undef, .undef, .undef, .undef, .undef, .undef, .undef, .undef, .undef, .undef, .undef, .undef, .undef, .undef, .undef, .undef, .undef, .undef, v46, v47, v48, .undef, .undef, .undef, .undef, .undef, .undef, .undef, .undef, .undef, .undef, .undef, .undef, .undef, .undef]
def co130_1 (v2 v3 : O) : List O := [.undef, .undef, v2, v3, .undef, .undef, .undef, .undef, .undef, .undef, .undef, .undef, .undef, .undef, .undef, .undef, .undef, .undef, .undef, .undef, .undef, .undef, .undef, .undef, .undef, .undef, .undef, .undef, .undef, .undef, .undef, .undef, .undef, .undef, .undef, .undef, .undef, .undef, .undef, .undef, .undef, .undef, .undef, .undef, .undef, .undef, .undef, .undef, .undef, .undef, .undef, .undef, .undef, .undef, .undef, .undef, .undef, .undef, .undef, .undef, .undef, .undef, .undef]
def lb130_1 : IC :=
  .seq (.ops 0 [P 49 (.bin .lss t48 t47)] []) (.seq (.cond t49 (.skip) (.exit 2)) (.seq (.block 3 (.seq (.ops 0 [P 50 (.indexAddr 1 t46 t48), H 51 0 0 (.load none t50), P 7 (.move t51)] []) (.ops 0 [P 52 (.move t3), P 53 (.move t52), Pg 54 53 false (.move t7), Pg 55 53 false (.bin .lss t54 (.k (.int .i64 0))), P 56 (.pick t53 (.k (.bool true)) t55), P 57 (.move t56), Pg 58 57 false (.move t7), Pg 59 57 false (.bin .gtr t58 (.k (.int .i64 10000))), P 60 (.pick t57 (.k (.bool true)) t59), P 3 (.move t60)] []))) (.ops 0 [P 61 (.bin .add t48 (.k (.int .i64 1))), P 48 (.move t61)] [])))
def kl130_0 : List Nat := [0, 2, 4, 5, 6, 7, 8, 9, 10, 11, 12, 13, 14, 15, 16, 17, 18, 19, 20, 21, 22, 23, 24, 25, 26, 27, 28, 32, 33, 34, 35, 36, 37, 38, 39, 40, 41, 42, 43, 44, 45, 46, 47, 48, 49, 50, 51, 52, 53, 54, 55, 56, 57, 58, 59, 60, 61, 62]
def ko130_0 : List Nat := [0, 4, 5, 6, 7, 8, 9, 10, 11, 12, 13, 14, 15, 16, 17, 18, 19, 20, 21, 22, 23, 24, 25, 26, 27, 28, 29, 30, 31, 32, 33, 34, 35, 36, 37, 38, 39, 40, 41, 42, 43, 44, 45, 46, 47, 48, 49, 50, 51, 52, 53, 54, 55, 56, 57, 58, 59, 60, 61, 62]
/-- The slots where the loop begins, and where it ends. -/
def cs130_0 (v1 v3 v29 v30 v31 : O) : List O := [.undef, v1, .undef, v3, .undef, .undef, .undef, .undef, .undef, .undef, .undef, .undef, .undef, .undef, .undef, .undef, .undef, .undef, .undef, .undef, .undef, .undef, .undef, .undef, .undef, .undef, .undef, .undef, .undef, v29, v30, v31, .undef, .undef, .undef, .undef, .undef, .undef, .undef, .undef, .undef, .undef, .undef, .undef, .undef, .undef, .undef, .undef, .undef, .undef, .undef, .undef, .undef, .undef, .undef, .undef, .undef, .undef, .undef, .undef, .undef, .undef, .undef]
def co130_0 (v1 v2 v3 : O) : List O := [.undef, v1, v2, v3, .undef, .undef, .undef, .undef, .undef, .undef, .undef, .undef, .undef, .undef, .undef, .undef, .undef, .undef, .undef, .undef, .undef, .undef, .undef, .undef, .undef, .undef, .undef, .undef, .undef, .undef, .undef, .undef, .undef, .undef, .undef, .undef, .undef, .undef, .undef, .undef, .undef, .undef, .undef, .undef, .undef, .undef, .undef, .undef, .undef, .undef, .undef, .undef, .undef, .undef, .undef, .undef, .undef, .undef, .undef, .undef, .undef, .undef, .undef]
def lb130_0 : IC :=
  .seq (.ops 0 [P 32 (.bin .lss t31 t30)] []) (.seq (.cond t32 (.skip) (.exit 0)) (.seq (.block 1 (.seq (.ops 0 [P 33 (.indexAddr 1 t29 t31), H 34 0 0 (.load none t33), P 5 (.move t34)] []) (.ops 0 [P 35 (.move t3), P 36 (.move t35), Pg 37 36 false (.move t5), Pg 38 36 false (.bin .lss t37 (.k (.int .i64 1))), P 39 (.pick t36 (.k (.bool true)) t38), P 40 (.move t39), Pg 41 40 false (.move t5), Pg 42 40 false (.bin .gtr t41 (.k (.int .i64 1073741823))), P 43 (.pick t40 (.k (.bool true)) t42), P 3 (.move t43)] []))) (.ops 0 [P 44 (.bin .add t31 (.k (.int .i64 1))), P 31 (.move t44)] [])))
/-- tympan/note.Check -/
def ir130 : IFunc :=
  { nparams := 1, ntmps := 63, results := [.tmp 2 []], inl := false, body :=
  .seq (.ops 3 [H 1 0 3 (.box 2 pt76 t0), P 2 (.move (.k (.int .i64 0)))] []) (.seq (.ops 0 [P 8 (.fieldAddr 0 t1), H 9 0 0 (.load none t8), P 10 (.len t9), P 11 (.bin .lss t10 (.k (.int .i64 1))), P 12 (.move t11), Pg 13 12 false (.fieldAddr 0 t1), Hg 14 12 false 0 0 (.load none t13), Pg 15 12 false (.len t14), Pg 16 12 false (.bin .gtr t15 (.k (.int .i64 64))), P 17 (.pick t12 (.k (.bool true)) t16), P 18 (.move t17), Pg 19 18 false (.fieldAddr 1 t1), Hg 20 18 false 0 0 (.load none t19), Pg 21 18 false (.len t20), Pg 22 18 false (.fieldAddr 0 t1), Hg 23 18 false 0 0 (.load none t22), Pg 24 18 false (.len t23), Pg 25 18 false (.bin .sub t24 (.k (.int .i64 1))), Pg 26 18 false (.bin .neq t21 t25), P 27 (.pick t18 (.k (.bool true)) t26), P 3 (.move t27)] []) (.seq (.seq (.ops 0 [P 28 (.fieldAddr 0 t1), H 29 0 0 (.load none t28), P 30 (.len t29), P 31 (.move (.k (.int .i64 0)))] []) (.block 0 (.loop kl130_0 ko130_0 lb130_0))) (.seq (.seq (.ops 0 [P 45 (.fieldAddr 1 t1), H 46 0 0 (.load none t45), P 47 (.len t46), P 48 (.move (.k (.int .i64 0)))] []) (.block 2 (.loop kl130_1 ko130_1 lb130_1))) (.seq (.seq (.ops 0 [P 62 (.move t3)] []) (.cond t62 (.seq (.ops 0 [P 2 (.move (.k (.int .i64 9)))] []) (.ret)) (.skip))) (.seq (.ops 0 [P 2 (.move (.k (.int .i64 0)))] []) (.ret)))))) }
/-- tympan/valid.clauses$8 -/
def ir131 : IFunc :=
  { nparams := 1, ntmps := 7, results := [.tmp 2 []], inl := false, body :=
  .seq (.ops 4 [H 1 0 4 (.box 22 pt29 t0), P 2 (.move (.k (.int .i64 0)))] []) (.seq (.ops 0 [Hq 3 0 0 (.callQ (.f 132) [((.f 133), [])]), P 4 (.fieldAddr 21 t1), Hq 5 0 0 (.load none t4), H 6 0 0 (.call t3 [(t5, pt27)]), P 2 (.move t6)] []) (.ret)) }
/-- tympan/valid.first[tympan/api.Float] -/
def ir132 : IFunc :=
  { nparams := 1, ntmps := 4, results := [.tmp 2 []], inl := false, body :=
  .seq (.ops 1 [H 1 0 1 (.box 1 [] t0), P 2 (.move (.k (.nilf)))] []) (.seq (.ops 0 [P 3 (.makeFunc 154 [] [t1]), P 2 (.move t3)] []) (.ret)) }
/-- tympan/figure.Check -/
def ir133 : IFunc :=
  { nparams := 1, ntmps := 31, results := [.tmp 2 []], inl := false, body :=
  .seq (.ops 1 [H 1 0 1 (.box 3 [] t0), P 2 (.move (.k (.int .i64 0)))] []) (.seq (.seq (.ops 0 [P 3 (.fieldAddr 0 t1), H 4 0 0 (.load none t3), P 5 (.bin .lss t4 (.k (.int .i64 0))), P 6 (.move t5), Pg 7 6 false (.fieldAddr 0 t1), Hg 8 6 false 0 0 (.load none t7), Pg 9 6 false (.bin .geq t8 (.k (.int .i64 3))), P 10 (.pick t6 (.k (.bool true)) t9), P 11 (.move t10), Pg 12 11 false (.fieldAddr 1 t1), Hg 13 11 false 0 0 (.load none t12), Pg 14 11 false (.bin .lss t13 (.k (.int .i64 1))), P 15 (.pick t11 (.k (.bool true)) t14), P 16 (.move t15), Pg 17 16 false (.fieldAddr 1 t1), Hg 18 16 false 0 0 (.load none t17), Pg 19 16 false (.bin .gtr t18 (.k (.int .i64 1073741823))), P 20 (.pick t16 (.k (.bool true)) t19), P 21 (.move t20), Pg 22 21 false (.fieldAddr 2 t1), Hg 23 21 false 0 0 (.load none t22), Pg 24 21 false (.bin .lss t23 (.k (.int .i64 0))), P 25 (.pick t21 (.k (.bool true)) t24), P 26 (.move t25), Pg 27 26 false (.fieldAddr 2 t1), Hg 28 26 false 0 0 (.load none t27), Pg 29 26 false (.bin .gtr t28 (.k (.int .i64 3))), P 30 (.pick t26 (.k (.bool true)) t29)] []) (.cond t30 (.seq (.ops 0 [P 2 (.move (.k (.int .i64 10)))] []) (.ret)) (.skip))) (.seq (.ops 0 [P 2 (.move (.k (.int .i64 0)))] []) (.ret))) }
/-- tympan/valid.loose -/
def ir134 : IFunc :=
  { nparams := 1, ntmps := 29, results := [.tmp 2 []], inl := false, body :=
  .seq (.ops 4 [H 1 0 4 (.box 22 pt29 t0), P 2 (.move (.k (.int .i64 0)))] []) (.seq (.ops 0 [P 5 (.fieldAddr 19 t1), Hq 6 0 0 (.load none t5), P 7 (.fieldAddr 20 t1), Hq 8 0 0 (.load none t7), P 9 (.len t8), Hq 10 0 0 (.callQ (.f 157) [(t6, pt25), ((.k (.int .i64 5)), []), (t9, [])]), P 11 (.fieldAddr 19 t1), Hq 12 0 0 (.load none t11), P 13 (.fieldAddr 21 t1), Hq 14 0 0 (.load none t13), P 15 (.len t14), H 16 0 0 (.call (.f 157) [(t12, pt25), ((.k (.int .i64 6)), []), (t15, [])]), P 3 (.move t10), P 4 (.move t16)] []) (.seq (.seq (.ops 0 [P 17 (.move t3), P 18 (.bin .lss t17 (.k (.int .i64 0))), P 19 (.move t18), Pg 20 19 false (.move t4), Pg 21 19 false (.bin .lss t20 (.k (.int .i64 0))), P 22 (.pick t19 (.k (.bool true)) t21)] []) (.cond t22 (.seq (.ops 0 [P 23 (.move t3), P 24 (.move t4), P 25 (.minmax true t23 [t24]), P 2 (.move t25)] []) (.ret)) (.skip))) (.seq (.ops 0 [P 26 (.move t3), P 27 (.move t4), P 28 (.minmax false t26 [t27]), P 2 (.move t28)] []) (.ret)))) }
/-- tympan/valid.tall -/
def ir135 : IFunc :=
  { nparams := 1, ntmps := 10, results := [.tmp 2 []], inl := false, body :=
  .seq (.ops 4 [H 1 0 4 (.box 22 pt29 t0), P 2 (.move (.k (.int .i64 0)))] []) (.seq (.ops 7 [H 4 0 0 (.load (some 22) t1), H 5 0 0 (.call (.f 30) [(t4, pt29)]), H 3 0 4 (.alloc [.c (.int .i64 0), .c (.int .i64 0), .c (.int .i64 0), .c (.int .i64 0), .c (.int .i64 0), .c (.int .i64 0), .c (.int .i64 0), .c (.int .i64 0), .c (.int .i64 0), .c (.int .i64 0), .c (.int .i64 0), .c (.int .i64 0), .c (.int .i64 0), .c (.int .i64 0), .c (.int .i64 0), .c (.int .i64 0), .c (.int .i64 0), .c (.int .i64 0), .c (.bool false), .nils, .nils, .nils] pt29), T 4 3 (.store 22 pt29 t3 t5)] []) (.seq (.ops 0 [P 6 (.fieldAddr 21 t3), H 7 0 0 (.load none t6), P 8 (.makeFunc 158 [] [t3]), H 9 0 0 (.call (.f 155) [(t7, pt27), (t8, [])]), P 2 (.move t9)] []) (.ret))) }
/-- tympan/sp.Sub -/
def ir136 : IFunc :=
  { nparams := 2, ntmps := 21, results := [.tmp 4 [], .tmp 5 []], inl := false, body :=
  .seq (.ops 0 [P 4 (.move (.k (.int .i64 0))), P 5 (.move (.k (.bool false)))] []) (.seq (.ops 0 [P 7 (.move t0), P 8 (.move t1), P 9 (.bin .sub t7 t8), P 6 (.move t9)] []) (.seq (.seq (.ops 0 [P 10 (.move t6), P 11 (.move t0), P 12 (.bin .lss t10 t11), P 13 (.move t1), P 14 (.bin .gtr t13 (.k (.int .i64 0))), P 15 (.eqBool true t12 t14), P 16 (.move t15), Pg 17 16 true (.move t1), Pg 18 16 true (.bin .neq t17 (.k (.int .i64 0))), P 19 (.pick t16 t18 (.k (.bool false)))] []) (.cond t19 (.seq (.ops 0 [P 4 (.move (.k (.int .i64 0))), P 5 (.move (.k (.bool false)))] []) (.ret)) (.skip))) (.seq (.ops 0 [P 20 (.move t6), P 4 (.move t20), P 5 (.move (.k (.bool true)))] []) (.ret)))) }
/-- tympan/sp.above -/
def ir137 : IFunc :=
  { nparams := 2, ntmps := 15, results := [.tmp 4 []], inl := false, body :=
  .seq (.ops 0 [P 4 (.move (.k (.int .i64 0)))] []) (.seq (.ops 0 [P 6 (.move t0), P 7 (.move t1), P 8 (.bin .rem t6 t7), P 5 (.move t8)] []) (.seq (.seq (.ops 0 [P 9 (.move t5), P 10 (.bin .lss t9 (.k (.int .i64 0)))] []) (.cond t10 (.ops 0 [P 11 (.move t5), P 12 (.move t1), P 13 (.bin .add t11 t12), P 5 (.move t13)] []) (.skip))) (.seq (.ops 0 [P 14 (.move t5), P 4 (.move t14)] []) (.ret)))) }
/-- tympan/total.both$1 -/
def ir138 : IFunc :=
  { nparams := 4, ntmps := 21, results := [.tmp 6 []], inl := false, body :=
  .seq (.ops 0 [P 6 (.move (.k (.int .i64 0)))] []) (.seq (.ops 0 [H 10 0 0 (.load none t2), P 11 (.move t0), P 12 (.move t1), H 13 0 0 (.call t10 [(t11, []), (t12, [])]), P 9 (.move t13), P 14 (.extract t9 0), P 15 (.extract t9 1), P 7 (.move t14), P 8 (.move t15)] []) (.seq (.ops 0 [H 16 0 0 (.load none t3), P 17 (.move t16), Pg 18 17 true (.move t8), P 19 (.pick t17 t18 (.k (.bool false))), T 0 0 (.store 1 [] t3 t19)] []) (.seq (.ops 0 [P 20 (.move t7), P 6 (.move t20)] []) (.ret)))) }
/-- tympan/tympanref01.Sub -/
def ir139 : IFunc :=
  { nparams := 2, ntmps := 28, results := [.cell 4 (some 2) []], inl := false, body :=
  .seq (.ops 1 [H 4 0 1 (.alloc [.c (.int .i64 0), .c (.bool false)] [])] []) (.seq (.seq (.ops 0 [P 5 (.move t1), P 6 (.bin .lss t5 (.k (.int .i64 0))), P 7 (.move t6), Pg 8 7 true (.move t0), Pg 9 7 true (.move t1), Pg 10 7 true (.bin .add (.k (.int .i64 9223372036854775807)) t9), Pg 11 7 true (.bin .gtr t8 t10), P 12 (.pick t7 t11 (.k (.bool false))), P 13 (.move t12), Pg 14 13 false (.move t1), Pg 15 13 false (.bin .gtr t14 (.k (.int .i64 0))), Pg 16 13 false (.move t15), Pg 17 16 true (.move t0), Pg 18 16 true (.move t1), Pg 19 16 true (.bin .add (.k (.int .i64 (-9223372036854775808))) t18), Pg 20 16 true (.bin .lss t17 t19), Pg 21 13 false (.pick t16 t20 (.k (.bool false))), P 22 (.pick t13 (.k (.bool true)) t21)] []) (.cond t22 (.seq (.ops 0 [P 23 (.build [.c (.int .i64 0), .c (.bool false)] []), T 0 0 (.store 2 [] t4 t23)] []) (.ret)) (.skip))) (.seq (.ops 0 [P 24 (.move t0), P 25 (.move t1), P 26 (.bin .sub t24 t25), P 27 (.build [.c (.int .i64 0), .c (.bool false)] [(0, 1, t26), (1, 1, (.k (.bool true)))]), T 0 0 (.store 2 [] t4 t27)] []) (.ret))) }
/-- tympan/tympanref01.Add -/
def ir140 : IFunc :=
  { nparams := 2, ntmps := 28, results := [.cell 4 (some 2) []], inl := false, body :=
  .seq (.ops 1 [H 4 0 1 (.alloc [.c (.int .i64 0), .c (.bool false)] [])] []) (.seq (.seq (.ops 0 [P 5 (.move t1), P 6 (.bin .gtr t5 (.k (.int .i64 0))), P 7 (.move t6), Pg 8 7 true (.move t0), Pg 9 7 true (.move t1), Pg 10 7 true (.bin .sub (.k (.int .i64 9223372036854775807)) t9), Pg 11 7 true (.bin .gtr t8 t10), P 12 (.pick t7 t11 (.k (.bool false))), P 13 (.move t12), Pg 14 13 false (.move t1), Pg 15 13 false (.bin .lss t14 (.k (.int .i64 0))), Pg 16 13 false (.move t15), Pg 17 16 true (.move t0), Pg 18 16 true (.move t1), Pg 19 16 true (.bin .sub (.k (.int .i64 (-9223372036854775808))) t18), Pg 20 16 true (.bin .lss t17 t19), Pg 21 13 false (.pick t16 t20 (.k (.bool false))), P 22 (.pick t13 (.k (.bool true)) t21)] []) (.cond t22 (.seq (.ops 0 [P 23 (.build [.c (.int .i64 0), .c (.bool false)] []), T 0 0 (.store 2 [] t4 t23)] []) (.ret)) (.skip))) (.seq (.ops 0 [P 24 (.move t0), P 25 (.move t1), P 26 (.bin .add t24 t25), P 27 (.build [.c (.int .i64 0), .c (.bool false)] [(0, 1, t26), (1, 1, (.k (.bool true)))]), T 0 0 (.store 2 [] t4 t27)] []) (.ret))) }
/-- (tympan/note.places).split -/
def ir141 : IFunc :=
  { nparams := 2, ntmps := 30, results := [.tmp 4 []], inl := false, body :=
  .seq (.ops 3 [H 2 0 3 (.box 2 pt180 t0), P 4 (.move (.k (.bool false)))] []) (.seq (.ops 0 [P 5 (.move t1), P 6 (.bin .gtr t5 (.k (.int .i64 0))), P 7 (.move t6), Pg 8 7 true (.move t1), Pg 9 7 true (.fieldAddr 0 t2), Hg 10 7 true 0 0 (.load none t9), Pg 11 7 true (.len t10), Pg 12 7 true (.bin .lss t8 t11), P 13 (.pick t7 t12 (.k (.bool false))), P 14 (.move t13), Pg 15 14 true (.move t1), Pg 16 14 true (.fieldAddr 1 t2), Hg 17 14 true 0 0 (.load none t16), Pg 18 14 true (.len t17), Pg 19 14 true (.bin .leq t15 t18), P 20 (.pick t14 t19 (.k (.bool false))), P 21 (.move t20), Pg 22 21 true (.fieldAddr 1 t2), Hg 23 21 true 0 0 (.load none t22), Pg 24 21 true (.move t1), Pg 25 21 true (.bin .sub t24 (.k (.int .i64 1))), Pg 26 21 true (.indexAddr 1 t23 t25), Hg 27 21 true 0 0 (.load none t26), Pg 28 21 true (.bin .lss t27 (.k (.int .i64 10000))), P 29 (.pick t21 t28 (.k (.bool false))), P 4 (.move t29)] []) (.ret)) }
/-- tympan/valid.when$1 -/
def ir142 : IFunc :=
  { nparams := 2, ntmps := 7, results := [.tmp 3 []], inl := false, body :=
  .seq (.ops 4 [H 2 0 4 (.box 22 pt29 t0), P 3 (.move (.k (.int .i64 0)))] []) (.seq (.seq (.ops 0 [H 4 0 0 (.load none t1), H 5 0 0 (.load (some 22) t2), H 6 0 0 (.call t4 [(t5, pt29)])] []) (.cond t6 (.seq (.ops 0 [P 3 (.move (.k (.int .i64 0)))] []) (.ret)) (.skip))) (.seq (.ops 0 [P 3 (.move (.k (.int .i64 (-1))))] []) (.ret))) }
/-- tympan/geom.within[int] -/
def ir143 : IFunc :=
  { nparams := 2, ntmps := 6, results := [.tmp 4 []], inl := false, body :=
  .seq (.ops 2 [H 2 0 1 (.box 1 [] t0), H 3 1 1 (.box 1 [] t1), P 4 (.move (.k (.nilf)))] []) (.seq (.ops 0 [P 5 (.makeFunc 159 [] [t2, t3]), P 4 (.move t5)] []) (.ret)) }
/-- tympan/geom.within[tympan/api.Sp] -/
def ir144 : IFunc :=
  { nparams := 2, ntmps := 6, results := [.tmp 4 []], inl := false, body :=
  .seq (.ops 2 [H 2 0 1 (.box 1 [] t0), H 3 1 1 (.box 1 [] t1), P 4 (.move (.k (.nilf)))] []) (.seq (.ops 0 [P 5 (.makeFunc 160 [] [t2, t3]), P 4 (.move t5)] []) (.ret)) }
/-- tympan/valid.first[tympan/api.Item]$1 -/
def ir145 : IFunc :=
  { nparams := 2, ntmps := 7, results := [.tmp 3 []], inl := false, body :=
  .seq (.ops 0 [P 3 (.move (.k (.int .i64 0)))] []) (.seq (.ops 0 [P 4 (.move t0), P 5 (.makeFunc 147 [] [t1]), H 6 0 0 (.call (.f 146) [(t4, pt25), (t5, [])]), P 3 (.move t6)] []) (.ret)) }
def kl146_0 : List Nat := [2, 3, 4, 5, 6, 9, 10, 11, 12, 13, 14, 15, 16, 17, 18]
def ko146_0 : List Nat := [0, 1, 2, 3, 5, 6, 7, 8, 9, 10, 11, 12, 13, 14, 15, 16, 17, 18]
/-- The slots where the loop begins, and where it ends. -/
def cs146_0 (v0 v1 v7 v8 : O) : List O := [v0, v1, .undef, .undef, .undef, .undef, .undef, v7, v8, .undef, .undef, .undef, .undef, .undef, .undef, .undef, .undef, .undef, .undef]
def co146_0 (v4 : O) : List O := [.undef, .undef, .undef, .undef, v4, .undef, .undef, .undef, .undef, .undef, .undef, .undef, .undef, .undef, .undef, .undef, .undef, .undef, .undef]
def lb146_0 : IC :=
  .seq (.ops 0 [P 9 (.bin .lss t8 t7)] []) (.seq (.cond t9 (.skip) (.exit 0)) (.seq (.block 1 (.seq (.ops 0 [P 10 (.move t8), P 5 (.move t10)] []) (.seq (.ops 0 [P 11 (.move t1), P 12 (.move t0), P 13 (.move t5), P 14 (.indexAddr 7 t12 t13), H 15 0 0 (.load (some 7) t14), H 16 0 0 (.call t11 [(t15, [])])] []) (.cond t16 (.seq (.ops 0 [P 17 (.move t5), P 4 (.move t17)] []) (.ret)) (.skip))))) (.ops 0 [P 18 (.bin .add t8 (.k (.int .i64 1))), P 8 (.move t18)] [])))
/-- slices.IndexFunc[[]tympan/api.Item,tympan/api.Item] -/
def ir146 : IFunc :=
  { nparams := 2, ntmps := 19, results := [.tmp 4 []], inl := false, body :=
  .seq (.ops 0 [P 4 (.move (.k (.int .i64 0)))] []) (.seq (.seq (.ops 0 [P 6 (.move t0), P 7 (.len t6), P 8 (.move (.k (.int .i64 0)))] []) (.block 0 (.loop kl146_0 ko146_0 lb146_0))) (.seq (.ops 0 [P 4 (.move (.k (.int .i64 (-1))))] []) (.ret))) }
/-- tympan/valid.first[tympan/api.Item]$1$1 -/
def ir147 : IFunc :=
  { nparams := 2, ntmps := 8, results := [.tmp 3 []], inl := false, body :=
  .seq (.ops 1 [H 2 0 1 (.box 7 [] t0), P 3 (.move (.k (.bool false)))] []) (.seq (.ops 0 [H 4 0 0 (.load none t1), H 5 0 0 (.load (some 7) t2), H 6 0 0 (.call t4 [(t5, [])]), P 7 (.bin .neq t6 (.k (.int .i64 0))), P 3 (.move t7)] []) (.ret)) }
/-- tympan/item.forms -/
def ir148 : IFunc :=
  { nparams := 0, ntmps := 24, results := [.tmp 0 pt200], inl := false, body :=
  .seq (.ops 1 [H 0 0 1 (.nilArr false z199)] []) (.seq (.ops 0 [P 1 (.move (.f 161))] []) (.seq (.ops 1 [H 2 0 0 (.call (.f 149) [((.k (.int .i64 0)), [])]), P 3 (.build [.c (.nilf), .c (.nilf)] [(0, 1, (.f 163)), (1, 1, t2)]), H 4 0 0 (.call (.f 149) [((.k (.int .i64 0)), [])]), P 5 (.build [.c (.nilf), .c (.nilf)] [(0, 1, (.f 165)), (1, 1, t4)]), P 6 (.move t1), H 7 0 0 (.call t6 [((.f 167), [])]), P 8 (.build [.c (.nilf), .c (.nilf)] [(0, 1, t7), (1, 1, (.f 168))]), P 9 (.move t1), H 10 0 0 (.call t9 [((.f 169), [])]), H 11 0 0 (.call (.f 149) [((.k (.int .i64 1048576)), [])]), P 12 (.build [.c (.nilf), .c (.nilf)] [(0, 1, t10), (1, 1, t11)]), P 13 (.move t1), H 14 0 0 (.call t13 [((.f 170), [])]), H 15 0 0 (.call (.f 149) [((.k (.int .i64 511)), [])]), P 16 (.build [.c (.nilf), .c (.nilf)] [(0, 1, t14), (1, 1, t15)]), P 17 (.move t1), H 18 0 0 (.call t17 [((.f 171), [])]), H 19 0 0 (.call (.f 149) [((.k (.int .i64 255)), [])]), P 20 (.build [.c (.nilf), .c (.nilf)] [(0, 1, t18), (1, 1, t19)]), H 21 0 0 (.call (.f 149) [((.k (.int .i64 0)), [])]), P 22 (.build [.c (.nilf), .c (.nilf)] [(0, 1, (.f 172)), (1, 1, t21)]), H 23 0 1 (.buildSlice 7 2 z199 [(0, t3, []), (1, t5, []), (2, t8, []), (3, t12, []), (4, t16, []), (5, t20, []), (6, t22, [])]), P 0 (.move t23)] []) (.ret))) }
/-- tympan/item.upTo -/
def ir149 : IFunc :=
  { nparams := 1, ntmps := 4, results := [.tmp 2 []], inl := false, body :=
  .seq (.ops 1 [H 1 0 1 (.box 1 [] t0), P 2 (.move (.k (.nilf)))] []) (.seq (.ops 0 [P 3 (.makeFunc 174 [] [t1]), P 2 (.move t3)] []) (.ret)) }
/-- tympan/item.long -/
def ir150 : IFunc :=
  { nparams := 1, ntmps := 6, results := [.tmp 2 []], inl := false, body :=
  .seq (.ops 0 [P 2 (.move (.k (.bool false)))] []) (.seq (.ops 0 [P 3 (.move t0), H 4 0 0 (.call (.f 175) [(t3, pt74), ((.f 176), [])]), P 5 (.not t4), P 2 (.move t5)] []) (.ret)) }
/-- tympan/valid.first[tympan/api.Note]$1 -/
def ir151 : IFunc :=
  { nparams := 2, ntmps := 7, results := [.tmp 3 []], inl := false, body :=
  .seq (.ops 0 [P 3 (.move (.k (.int .i64 0)))] []) (.seq (.ops 0 [P 4 (.move t0), P 5 (.makeFunc 153 [] [t1]), H 6 0 0 (.call (.f 152) [(t4, pt26), (t5, [])]), P 3 (.move t6)] []) (.ret)) }
def kl152_0 : List Nat := [2, 3, 4, 5, 6, 9, 10, 11, 12, 13, 14, 15, 16, 17, 18]
def ko152_0 : List Nat := [0, 1, 2, 3, 5, 6, 7, 8, 9, 10, 11, 12, 13, 14, 15, 16, 17, 18]
/-- The slots where the loop begins, and where it ends. -/
def cs152_0 (v0 v1 v7 v8 : O) : List O := [v0, v1, .undef, .undef, .undef, .undef, .undef, v7, v8, .undef, .undef, .undef, .undef, .undef, .undef, .undef, .undef, .undef, .undef]
def co152_0 (v4 : O) : List O := [.undef, .undef, .undef, .undef, v4, .undef, .undef, .undef, .undef, .undef, .undef, .undef, .undef, .undef, .undef, .undef, .undef, .undef, .undef]
def lb152_0 : IC :=
  .seq (.ops 0 [P 9 (.bin .lss t8 t7)] []) (.seq (.cond t9 (.skip) (.exit 0)) (.seq (.block 1 (.seq (.ops 0 [P 10 (.move t8), P 5 (.move t10)] []) (.seq (.ops 0 [P 11 (.move t1), P 12 (.move t0), P 13 (.move t5), P 14 (.indexAddr 2 t12 t13), H 15 0 0 (.load (some 2) t14), H 16 0 0 (.call t11 [(t15, pt76)])] []) (.cond t16 (.seq (.ops 0 [P 17 (.move t5), P 4 (.move t17)] []) (.ret)) (.skip))))) (.ops 0 [P 18 (.bin .add t8 (.k (.int .i64 1))), P 8 (.move t18)] [])))
/-- slices.IndexFunc[[]tympan/api.Note,tympan/api.Note] -/
def ir152 : IFunc :=
  { nparams := 2, ntmps := 19, results := [.tmp 4 []], inl := false, body :=
  .seq (.ops 0 [P 4 (.move (.k (.int .i64 0)))] []) (.seq (.seq (.ops 0 [P 6 (.move t0), P 7 (.len t6), P 8 (.move (.k (.int .i64 0)))] []) (.block 0 (.loop kl152_0 ko152_0 lb152_0))) (.seq (.ops 0 [P 4 (.move (.k (.int .i64 (-1))))] []) (.ret))) }
/-- tympan/valid.first[tympan/api.Note]$1$1 -/
def ir153 : IFunc :=
  { nparams := 2, ntmps := 8, results := [.tmp 3 []], inl := false, body :=
  .seq (.ops 3 [H 2 0 3 (.box 2 pt76 t0), P 3 (.move (.k (.bool false)))] []) (.seq (.ops 0 [H 4 0 0 (.load none t1), H 5 0 0 (.load (some 2) t2), H 6 0 0 (.call t4 [(t5, pt76)]), P 7 (.bin .neq t6 (.k (.int .i64 0))), P 3 (.move t7)] []) (.ret)) }
/-- tympan/valid.first[tympan/api.Float]$1 -/
def ir154 : IFunc :=
  { nparams := 2, ntmps := 7, results := [.tmp 3 []], inl := false, body :=
  .seq (.ops 0 [P 3 (.move (.k (.int .i64 0)))] []) (.seq (.ops 0 [P 4 (.move t0), P 5 (.makeFunc 156 [] [t1]), H 6 0 0 (.call (.f 155) [(t4, pt27), (t5, [])]), P 3 (.move t6)] []) (.ret)) }
def kl155_0 : List Nat := [2, 3, 4, 5, 6, 9, 10, 11, 12, 13, 14, 15, 16, 17, 18]
def ko155_0 : List Nat := [0, 1, 2, 3, 5, 6, 7, 8, 9, 10, 11, 12, 13, 14, 15, 16, 17, 18]
/-- The slots where the loop begins, and where it ends. -/
def cs155_0 (v0 v1 v7 v8 : O) : List O := [v0, v1, .undef, .undef, .undef, .undef, .undef, v7, v8, .undef, .undef, .undef, .undef, .undef, .undef, .undef, .undef, .undef, .undef]
def co155_0 (v4 : O) : List O := [.undef, .undef, .undef, .undef, v4, .undef, .undef, .undef, .undef, .undef, .undef, .undef, .undef, .undef, .undef, .undef, .undef, .undef, .undef]
def lb155_0 : IC :=
  .seq (.ops 0 [P 9 (.bin .lss t8 t7)] []) (.seq (.cond t9 (.skip) (.exit 0)) (.seq (.block 1 (.seq (.ops 0 [P 10 (.move t8), P 5 (.move t10)] []) (.seq (.ops 0 [P 11 (.move t1), P 12 (.move t0), P 13 (.move t5), P 14 (.indexAddr 3 t12 t13), H 15 0 0 (.load (some 3) t14), H 16 0 0 (.call t11 [(t15, [])])] []) (.cond t16 (.seq (.ops 0 [P 17 (.move t5), P 4 (.move t17)] []) (.ret)) (.skip))))) (.ops 0 [P 18 (.bin .add t8 (.k (.int .i64 1))), P 8 (.move t18)] [])))
/-- slices.IndexFunc[[]tympan/api.Float,tympan/api.Float] -/
def ir155 : IFunc :=
  { nparams := 2, ntmps := 19, results := [.tmp 4 []], inl := false, body :=
  .seq (.ops 0 [P 4 (.move (.k (.int .i64 0)))] []) (.seq (.seq (.ops 0 [P 6 (.move t0), P 7 (.len t6), P 8 (.move (.k (.int .i64 0)))] []) (.block 0 (.loop kl155_0 ko155_0 lb155_0))) (.seq (.ops 0 [P 4 (.move (.k (.int .i64 (-1))))] []) (.ret))) }
/-- tympan/valid.first[tympan/api.Float]$1$1 -/
def ir156 : IFunc :=
  { nparams := 2, ntmps := 8, results := [.tmp 3 []], inl := false, body :=
  .seq (.ops 1 [H 2 0 1 (.box 3 [] t0), P 3 (.move (.k (.bool false)))] []) (.seq (.ops 0 [H 4 0 0 (.load none t1), H 5 0 0 (.load (some 3) t2), H 6 0 0 (.call t4 [(t5, [])]), P 7 (.bin .neq t6 (.k (.int .i64 0))), P 3 (.move t7)] []) (.ret)) }
def kl157_0 : List Nat := [3, 4, 5, 6, 9, 10, 11, 12, 13, 17, 18, 19, 20, 21, 22, 23, 24, 25, 26, 27, 28, 29, 30, 31, 32, 33, 34, 35, 36, 37, 38, 39, 40, 41, 42, 43, 44, 45, 46, 47]
def ko157_0 : List Nat := [1, 3, 4, 5, 7, 9, 10, 11, 12, 13, 14, 15, 16, 17, 18, 19, 20, 21, 22, 23, 24, 25, 26, 27, 28, 29, 30, 31, 32, 33, 34, 35, 36, 37, 38, 39, 40, 41, 42, 43, 44, 45, 46, 47]
/-- The slots where the loop begins, and where it ends. -/
def cs157_0 (v0 v1 v2 v7 v8 v14 v15 v16 : O) : List O := [v0, v1, v2, .undef, .undef, .undef, .undef, v7, v8, .undef, .undef, .undef, .undef, .undef, v14, v15, v16, .undef, .undef, .undef, .undef, .undef, .undef, .undef, .undef, .undef, .undef, .undef, .undef, .undef, .undef, .undef, .undef, .undef, .undef, .undef, .undef, .undef, .undef, .undef, .undef, .undef, .undef, .undef, .undef, .undef, .undef, .undef]
def co157_0 (v0 v2 v6 v8 : O) : List O := [v0, .undef, v2, .undef, .undef, .undef, v6, .undef, v8, .undef, .undef, .undef, .undef, .undef, .undef, .undef, .undef, .undef, .undef, .undef, .undef, .undef, .undef, .undef, .undef, .undef, .undef, .undef, .undef, .undef, .undef, .undef, .undef, .undef, .undef, .undef, .undef, .undef, .undef, .undef, .undef, .undef, .undef, .undef, .undef, .undef, .undef, .undef]
def lb157_0 : IC :=
  .seq (.ops 0 [P 17 (.bin .lss t16 t15)] []) (.seq (.cond t17 (.skip) (.exit 0)) (.seq (.block 1 (.seq (.ops 1 [P 18 (.move t16), P 19 (.indexAddr 7 t14 t16), H 20 0 0 (.load (some 7) t19), H 10 0 1 (.alloc [.c (.int .i64 0), .c (.int .i64 0), .c (.int .i64 0), .c (.int .i64 0), .c (.int .i64 0), .c (.int .i64 0), .c (.int .i64 0)] []), P 9 (.move t18), T 1 0 (.store 7 [] t10 t20)] []) (.seq (.seq (.ops 0 [P 21 (.move t9), P 22 (.move t7), P 23 (.bin .eql t21 t22), P 24 (.move t23), Pg 25 24 false (.fieldAddr 0 t10), Hg 26 24 false 0 0 (.load none t25), Pg 27 24 false (.move t1), Pg 28 24 false (.bin .eql t26 t27), Pg 29 24 false (.move t28), Pg 30 29 true (.move t8), Pg 31 29 true (.move t2), Pg 32 29 true (.bin .eql t30 t31), Pg 33 24 false (.pick t29 t32 (.k (.bool false))), P 34 (.pick t24 (.k (.bool true)) t33)] []) (.cond t34 (.seq (.ops 0 [P 35 (.move t9), P 6 (.move t35)] []) (.ret)) (.skip))) (.seq (.ops 0 [P 36 (.fieldAddr 0 t10), H 37 0 0 (.load none t36), P 38 (.move t1), P 39 (.bin .eql t37 t38)] []) (.cond t39 (.ops 0 [P 40 (.move t8), P 41 (.bin .add t40 (.k (.int .i64 1))), P 8 (.move t41)] []) (.skip)))))) (.ops 0 [P 42 (.bin .add t16 (.k (.int .i64 1))), P 16 (.move t42)] [])))
/-- tympan/valid.refs -/
def ir157 : IFunc :=
  { nparams := 3, ntmps := 48, results := [.tmp 6 []], inl := false, body :=
  .seq (.ops 0 [P 6 (.move (.k (.int .i64 0)))] []) (.seq (.ops 0 [P 11 (.move t0), P 12 (.move t1), H 13 0 0 (.call (.f 177) [(t11, pt25), (t12, [])]), P 7 (.move t13)] []) (.seq (.ops 0 [P 8 (.move (.k (.int .i64 0)))] []) (.seq (.seq (.ops 0 [P 14 (.move t0), P 15 (.len t14), P 16 (.move (.k (.int .i64 0)))] []) (.block 0 (.loop kl157_0 ko157_0 lb157_0))) (.seq (.seq (.ops 0 [P 43 (.move t8), P 44 (.move t2), P 45 (.bin .lss t43 t44)] []) (.cond t45 (.seq (.ops 0 [P 46 (.move t0), P 47 (.len t46), P 6 (.move t47)] []) (.ret)) (.skip))) (.seq (.ops 0 [P 6 (.move (.k (.int .i64 (-1))))] []) (.ret)))))) }
/-- tympan/valid.tall$1 -/
def ir158 : IFunc :=
  { nparams := 2, ntmps := 10, results := [.tmp 3 []], inl := false, body :=
  .seq (.ops 1 [H 2 0 1 (.box 3 [] t0), P 3 (.move (.k (.bool false)))] []) (.seq (.ops 0 [P 4 (.fieldAddr 1 t2), H 5 0 0 (.load none t4), P 6 (.fieldAddr 0 t1), P 7 (.fieldAddr 4 t6), H 8 0 0 (.load none t7), P 9 (.bin .gtr t5 t8), P 3 (.move t9)] []) (.ret)) }
def kl159_0 : List Nat := [0, 3, 4, 5, 6, 10, 11, 12, 13, 14, 15, 16, 17, 18, 19, 20, 21]
def ko159_0 : List Nat := [0, 1, 2, 3, 5, 6, 7, 8, 9, 10, 11, 12, 13, 14, 15, 16, 17, 18, 19, 20, 21]
/-- The slots where the loop begins, and where it ends. -/
def cs159_0 (v1 v2 v7 v8 v9 : O) : List O := [.undef, v1, v2, .undef, .undef, .undef, .undef, v7, v8, v9, .undef, .undef, .undef, .undef, .undef, .undef, .undef, .undef, .undef, .undef, .undef, .undef]
def co159_0 (v4 : O) : List O := [.undef, .undef, .undef, .undef, v4, .undef, .undef, .undef, .undef, .undef, .undef, .undef, .undef, .undef, .undef, .undef, .undef, .undef, .undef, .undef, .undef, .undef]
def lb159_0 : IC :=
  .seq (.ops 0 [P 10 (.bin .lss t9 t8)] []) (.seq (.cond t10 (.skip) (.exit 0)) (.seq (.block 1 (.seq (.ops 0 [P 11 (.indexAddr 1 t7 t9), H 12 0 0 (.load none t11), P 6 (.move t12)] []) (.seq (.ops 0 [P 13 (.move t6), H 14 0 0 (.load none t1), P 15 (.bin .lss t13 t14), P 16 (.move t15), Pg 17 16 false (.move t6), Hg 18 16 false 0 0 (.load none t2), Pg 19 16 false (.bin .gtr t17 t18), P 20 (.pick t16 (.k (.bool true)) t19)] []) (.cond t20 (.seq (.ops 0 [P 4 (.move (.k (.bool false)))] []) (.ret)) (.skip))))) (.ops 0 [P 21 (.bin .add t9 (.k (.int .i64 1))), P 9 (.move t21)] [])))
/-- tympan/geom.within[int]$1 -/
def ir159 : IFunc :=
  { nparams := 3, ntmps := 22, results := [.tmp 4 []], inl := false, body :=
  .seq (.ops 0 [P 4 (.move (.k (.bool false)))] []) (.seq (.seq (.ops 0 [P 7 (.move t0), P 8 (.len t7), P 9 (.move (.k (.int .i64 0)))] []) (.block 0 (.loop kl159_0 ko159_0 lb159_0))) (.seq (.ops 0 [P 4 (.move (.k (.bool true)))] []) (.ret))) }
def kl160_0 : List Nat := [0, 3, 4, 5, 6, 10, 11, 12, 13, 14, 15, 16, 17, 18, 19, 20, 21]
def ko160_0 : List Nat := [0, 1, 2, 3, 5, 6, 7, 8, 9, 10, 11, 12, 13, 14, 15, 16, 17, 18, 19, 20, 21]
/-- The slots where the loop begins, and where it ends. -/
def cs160_0 (v1 v2 v7 v8 v9 : O) : List O := [.undef, v1, v2, .undef, .undef, .undef, .undef, v7, v8, v9, .undef, .undef, .undef, .undef, .undef, .undef, .undef, .undef, .undef, .undef, .undef, .undef]
def co160_0 (v4 : O) : List O := [.undef, .undef, .undef, .undef, v4, .undef, .undef, .undef, .undef, .undef, .undef, .undef, .undef, .undef, .undef, .undef, .undef, .undef, .undef, .undef, .undef, .undef]
def lb160_0 : IC :=
  .seq (.ops 0 [P 10 (.bin .lss t9 t8)] []) (.seq (.cond t10 (.skip) (.exit 0)) (.seq (.block 1 (.seq (.ops 0 [P 11 (.indexAddr 1 t7 t9), H 12 0 0 (.load none t11), P 6 (.move t12)] []) (.seq (.ops 0 [P 13 (.move t6), H 14 0 0 (.load none t1), P 15 (.bin .lss t13 t14), P 16 (.move t15), Pg 17 16 false (.move t6), Hg 18 16 false 0 0 (.load none t2), Pg 19 16 false (.bin .gtr t17 t18), P 20 (.pick t16 (.k (.bool true)) t19)] []) (.cond t20 (.seq (.ops 0 [P 4 (.move (.k (.bool false)))] []) (.ret)) (.skip))))) (.ops 0 [P 21 (.bin .add t9 (.k (.int .i64 1))), P 9 (.move t21)] [])))
/-- tympan/geom.within[tympan/api.Sp]$1 -/
def ir160 : IFunc :=
  { nparams := 3, ntmps := 22, results := [.tmp 4 []], inl := false, body :=
  .seq (.ops 0 [P 4 (.move (.k (.bool false)))] []) (.seq (.seq (.ops 0 [P 7 (.move t0), P 8 (.len t7), P 9 (.move (.k (.int .i64 0)))] []) (.block 0 (.loop kl160_0 ko160_0 lb160_0))) (.seq (.ops 0 [P 4 (.move (.k (.bool true)))] []) (.ret))) }
/-- tympan/item.forms$1 -/
def ir161 : IFunc :=
  { nparams := 1, ntmps := 4, results := [.tmp 2 []], inl := false, body :=
  .seq (.ops 1 [H 1 0 1 (.box 1 [] t0), P 2 (.move (.k (.nilf)))] []) (.seq (.ops 0 [P 3 (.makeFunc 162 [] [t1]), P 2 (.move t3)] []) (.ret)) }
/-- tympan/item.forms$1$1 -/
def ir162 : IFunc :=
  { nparams := 2, ntmps := 8, results := [.cell 3 (some 7) []], inl := false, body :=
  .seq (.ops 2 [H 2 0 1 (.box 7 [] t0), H 3 1 1 (.alloc [.c (.int .i64 0), .c (.int .i64 0), .c (.int .i64 0), .c (.int .i64 0), .c (.int .i64 0), .c (.int .i64 0), .c (.int .i64 0)] [])] []) (.seq (.ops 0 [H 4 0 0 (.load none t1), P 5 (.fieldAddr 6 t2), H 6 0 0 (.load none t5), H 7 0 0 (.call t4 [(t6, [])]), T 0 0 (.store 7 [] t3 t7)] []) (.ret)) }
/-- tympan/item.forms$2 -/
def ir163 : IFunc :=
  { nparams := 1, ntmps := 8, results := [.cell 2 (some 7) []], inl := false, body :=
  .seq (.ops 2 [H 1 0 1 (.box 7 [] t0), H 2 1 1 (.alloc [.c (.int .i64 0), .c (.int .i64 0), .c (.int .i64 0), .c (.int .i64 0), .c (.int .i64 0), .c (.int .i64 0), .c (.int .i64 0)] [])] []) (.seq (.ops 0 [P 3 (.fieldAddr 1 t1), H 4 0 0 (.load none t3), P 5 (.fieldAddr 2 t1), H 6 0 0 (.load none t5), H 7 0 0 (.call (.f 164) [(t4, []), (t6, [])]), T 0 0 (.store 7 [] t2 t7)] []) (.ret)) }
/-- tympan/item.Box -/
def ir164 : IFunc :=
  { nparams := 2, ntmps := 8, results := [.cell 4 (some 7) []], inl := false, body :=
  .seq (.ops 1 [H 4 0 1 (.alloc [.c (.int .i64 0), .c (.int .i64 0), .c (.int .i64 0), .c (.int .i64 0), .c (.int .i64 0), .c (.int .i64 0), .c (.int .i64 0)] [])] []) (.seq (.ops 0 [P 5 (.move t0), P 6 (.move t1), P 7 (.build [.c (.int .i64 0), .c (.int .i64 0), .c (.int .i64 0), .c (.int .i64 0), .c (.int .i64 0), .c (.int .i64 0), .c (.int .i64 0)] [(0, 1, (.k (.int .i64 1))), (1, 1, t5), (2, 1, t6)]), T 0 0 (.store 7 [] t4 t7)] []) (.ret)) }
/-- tympan/item.forms$3 -/
def ir165 : IFunc :=
  { nparams := 1, ntmps := 12, results := [.cell 2 (some 7) []], inl := false, body :=
  .seq (.ops 2 [H 1 0 1 (.box 7 [] t0), H 2 1 1 (.alloc [.c (.int .i64 0), .c (.int .i64 0), .c (.int .i64 0), .c (.int .i64 0), .c (.int .i64 0), .c (.int .i64 0), .c (.int .i64 0)] [])] []) (.seq (.ops 0 [P 3 (.fieldAddr 1 t1), H 4 0 0 (.load none t3), P 5 (.fieldAddr 3 t1), H 6 0 0 (.load none t5), P 7 (.fieldAddr 4 t1), H 8 0 0 (.load none t7), P 9 (.fieldAddr 5 t1), H 10 0 0 (.load none t9), H 11 0 0 (.call (.f 166) [(t4, []), (t6, []), (t8, []), (t10, [])]), T 0 0 (.store 7 [] t2 t11)] []) (.ret)) }
/-- tympan/item.Glue -/
def ir166 : IFunc :=
  { nparams := 4, ntmps := 14, results := [.cell 8 (some 7) []], inl := false, body :=
  .seq (.ops 1 [H 8 0 1 (.alloc [.c (.int .i64 0), .c (.int .i64 0), .c (.int .i64 0), .c (.int .i64 0), .c (.int .i64 0), .c (.int .i64 0), .c (.int .i64 0)] [])] []) (.seq (.ops 0 [P 9 (.move t0), P 10 (.move t1), P 11 (.move t2), P 12 (.move t3), P 13 (.build [.c (.int .i64 0), .c (.int .i64 0), .c (.int .i64 0), .c (.int .i64 0), .c (.int .i64 0), .c (.int .i64 0), .c (.int .i64 0)] [(0, 1, (.k (.int .i64 2))), (1, 1, t9), (3, 1, t10), (4, 1, t11), (5, 1, t12)]), T 0 0 (.store 7 [] t8 t13)] []) (.ret)) }
/-- tympan/item.Pen -/
def ir167 : IFunc :=
  { nparams := 1, ntmps := 5, results := [.cell 2 (some 7) []], inl := false, body :=
  .seq (.ops 1 [H 2 0 1 (.alloc [.c (.int .i64 0), .c (.int .i64 0), .c (.int .i64 0), .c (.int .i64 0), .c (.int .i64 0), .c (.int .i64 0), .c (.int .i64 0)] [])] []) (.seq (.ops 0 [P 3 (.move t0), P 4 (.build [.c (.int .i64 0), .c (.int .i64 0), .c (.int .i64 0), .c (.int .i64 0), .c (.int .i64 0), .c (.int .i64 0), .c (.int .i64 0)] [(0, 1, (.k (.int .i64 3))), (6, 1, t3)]), T 0 0 (.store 7 [] t2 t4)] []) (.ret)) }
/-- tympan/item.forms$4 -/
def ir168 : IFunc :=
  { nparams := 1, ntmps := 10, results := [.tmp 2 []], inl := false, body :=
  .seq (.ops 0 [P 2 (.move (.k (.bool false)))] []) (.seq (.ops 0 [P 3 (.move t0), P 4 (.bin .eql t3 (.k (.int .i64 (-10000)))), P 5 (.move t4), Hg 6 5 false 0 0 (.call (.f 149) [((.k (.int .i64 10000)), [])]), Pg 7 5 false (.move t0), Hg 8 5 false 0 0 (.call t6 [(t7, [])]), P 9 (.pick t5 (.k (.bool true)) t8), P 2 (.move t9)] []) (.ret)) }
/-- tympan/item.Mark -/
def ir169 : IFunc :=
  { nparams := 1, ntmps := 5, results := [.cell 2 (some 7) []], inl := false, body :=
  .seq (.ops 1 [H 2 0 1 (.alloc [.c (.int .i64 0), .c (.int .i64 0), .c (.int .i64 0), .c (.int .i64 0), .c (.int .i64 0), .c (.int .i64 0), .c (.int .i64 0)] [])] []) (.seq (.ops 0 [P 3 (.move t0), P 4 (.build [.c (.int .i64 0), .c (.int .i64 0), .c (.int .i64 0), .c (.int .i64 0), .c (.int .i64 0), .c (.int .i64 0), .c (.int .i64 0)] [(0, 1, (.k (.int .i64 4))), (6, 1, t3)]), T 0 0 (.store 7 [] t2 t4)] []) (.ret)) }
/-- tympan/item.Note -/
def ir170 : IFunc :=
  { nparams := 1, ntmps := 5, results := [.cell 2 (some 7) []], inl := false, body :=
  .seq (.ops 1 [H 2 0 1 (.alloc [.c (.int .i64 0), .c (.int .i64 0), .c (.int .i64 0), .c (.int .i64 0), .c (.int .i64 0), .c (.int .i64 0), .c (.int .i64 0)] [])] []) (.seq (.ops 0 [P 3 (.move t0), P 4 (.build [.c (.int .i64 0), .c (.int .i64 0), .c (.int .i64 0), .c (.int .i64 0), .c (.int .i64 0), .c (.int .i64 0), .c (.int .i64 0)] [(0, 1, (.k (.int .i64 5))), (6, 1, t3)]), T 0 0 (.store 7 [] t2 t4)] []) (.ret)) }
/-- tympan/item.Float -/
def ir171 : IFunc :=
  { nparams := 1, ntmps := 5, results := [.cell 2 (some 7) []], inl := false, body :=
  .seq (.ops 1 [H 2 0 1 (.alloc [.c (.int .i64 0), .c (.int .i64 0), .c (.int .i64 0), .c (.int .i64 0), .c (.int .i64 0), .c (.int .i64 0), .c (.int .i64 0)] [])] []) (.seq (.ops 0 [P 3 (.move t0), P 4 (.build [.c (.int .i64 0), .c (.int .i64 0), .c (.int .i64 0), .c (.int .i64 0), .c (.int .i64 0), .c (.int .i64 0), .c (.int .i64 0)] [(0, 1, (.k (.int .i64 6))), (6, 1, t3)]), T 0 0 (.store 7 [] t2 t4)] []) (.ret)) }
/-- tympan/item.forms$5 -/
def ir172 : IFunc :=
  { nparams := 1, ntmps := 4, results := [.cell 2 (some 7) []], inl := false, body :=
  .seq (.ops 2 [H 1 0 1 (.box 7 [] t0), H 2 1 1 (.alloc [.c (.int .i64 0), .c (.int .i64 0), .c (.int .i64 0), .c (.int .i64 0), .c (.int .i64 0), .c (.int .i64 0), .c (.int .i64 0)] [])] []) (.seq (.ops 0 [H 3 0 0 (.call (.f 173) []), T 0 0 (.store 7 [] t2 t3)] []) (.ret)) }
/-- tympan/item.Barrier -/
def ir173 : IFunc :=
  { nparams := 0, ntmps := 2, results := [.cell 0 (some 7) []], inl := false, body :=
  .seq (.ops 1 [H 0 0 1 (.alloc [.c (.int .i64 0), .c (.int .i64 0), .c (.int .i64 0), .c (.int .i64 0), .c (.int .i64 0), .c (.int .i64 0), .c (.int .i64 0)] [])] []) (.seq (.ops 0 [P 1 (.build [.c (.int .i64 0), .c (.int .i64 0), .c (.int .i64 0), .c (.int .i64 0), .c (.int .i64 0), .c (.int .i64 0), .c (.int .i64 0)] [(0, 1, (.k (.int .i64 7)))]), T 0 0 (.store 7 [] t0 t1)] []) (.ret)) }
/-- tympan/item.upTo$1 -/
def ir174 : IFunc :=
  { nparams := 2, ntmps := 11, results := [.tmp 3 []], inl := false, body :=
  .seq (.ops 0 [P 3 (.move (.k (.bool false)))] []) (.seq (.ops 0 [P 4 (.move t0), P 5 (.bin .geq t4 (.k (.int .i64 0))), P 6 (.move t5), Pg 7 6 true (.move t0), Hg 8 6 true 0 0 (.load none t1), Pg 9 6 true (.bin .leq t7 t8), P 10 (.pick t6 t9 (.k (.bool false))), P 3 (.move t10)] []) (.ret)) }
/-- slices.ContainsFunc[[]tympan/api.Sp,tympan/api.Sp] -/
def ir175 : IFunc :=
  { nparams := 2, ntmps := 9, results := [.tmp 4 []], inl := false, body :=
  .seq (.ops 0 [P 4 (.move (.k (.bool false)))] []) (.seq (.ops 0 [P 5 (.move t0), P 6 (.move t1), H 7 0 0 (.call (.f 178) [(t5, pt74), (t6, [])]), P 8 (.bin .geq t7 (.k (.int .i64 0))), P 4 (.move t8)] []) (.ret)) }
/-- tympan/item.long$1 -/
def ir176 : IFunc :=
  { nparams := 1, ntmps := 9, results := [.tmp 2 []], inl := false, body :=
  .seq (.ops 0 [P 2 (.move (.k (.bool false)))] []) (.seq (.ops 0 [P 3 (.move t0), P 4 (.bin .lss t3 (.k (.int .i64 0))), P 5 (.move t4), Pg 6 5 false (.move t0), Pg 7 5 false (.bin .gtr t6 (.k (.int .i64 1073741823))), P 8 (.pick t5 (.k (.bool true)) t7), P 2 (.move t8)] []) (.ret)) }
/-- tympan/valid.Anchors -/
def ir177 : IFunc :=
  { nparams := 2, ntmps := 9, results := [.tmp 4 []], inl := false, body :=
  .seq (.ops 1 [H 3 0 1 (.box 1 [] t1), P 4 (.move (.k (.int .i64 0)))] []) (.seq (.ops 1 [H 5 0 1 (.alloc [.c (.int .i64 0)] []), T 1 0 (.store 1 [] t5 (.k (.int .i64 0)))] []) (.seq (.ops 0 [P 6 (.move t0), P 7 (.makeFunc 179 [] [t3, t5]), H 8 0 0 (.call (.f 146) [(t6, pt25), (t7, [])]), P 4 (.move t8)] []) (.ret))) }
def kl178_0 : List Nat := [2, 3, 4, 5, 6, 9, 10, 11, 12, 13, 14, 15, 16, 17, 18]
def ko178_0 : List Nat := [0, 1, 2, 3, 5, 6, 7, 8, 9, 10, 11, 12, 13, 14, 15, 16, 17, 18]
/-- The slots where the loop begins, and where it ends. -/
def cs178_0 (v0 v1 v7 v8 : O) : List O := [v0, v1, .undef, .undef, .undef, .undef, .undef, v7, v8, .undef, .undef, .undef, .undef, .undef, .undef, .undef, .undef, .undef, .undef]
def co178_0 (v4 : O) : List O := [.undef, .undef, .undef, .undef, v4, .undef, .undef, .undef, .undef, .undef, .undef, .undef, .undef, .undef, .undef, .undef, .undef, .undef, .undef]
def lb178_0 : IC :=
  .seq (.ops 0 [P 9 (.bin .lss t8 t7)] []) (.seq (.cond t9 (.skip) (.exit 0)) (.seq (.block 1 (.seq (.ops 0 [P 10 (.move t8), P 5 (.move t10)] []) (.seq (.ops 0 [P 11 (.move t1), P 12 (.move t0), P 13 (.move t5), P 14 (.indexAddr 1 t12 t13), H 15 0 0 (.load none t14), H 16 0 0 (.call t11 [(t15, [])])] []) (.cond t16 (.seq (.ops 0 [P 17 (.move t5), P 4 (.move t17)] []) (.ret)) (.skip))))) (.ops 0 [P 18 (.bin .add t8 (.k (.int .i64 1))), P 8 (.move t18)] [])))
/-- slices.IndexFunc[[]tympan/api.Sp,tympan/api.Sp] -/
def ir178 : IFunc :=
  { nparams := 2, ntmps := 19, results := [.tmp 4 []], inl := false, body :=
  .seq (.ops 0 [P 4 (.move (.k (.int .i64 0)))] []) (.seq (.seq (.ops 0 [P 6 (.move t0), P 7 (.len t6), P 8 (.move (.k (.int .i64 0)))] []) (.block 0 (.loop kl178_0 ko178_0 lb178_0))) (.seq (.ops 0 [P 4 (.move (.k (.int .i64 (-1))))] []) (.ret))) }
/-- tympan/valid.Anchors$1 -/
def ir179 : IFunc :=
  { nparams := 3, ntmps := 16, results := [.tmp 4 []], inl := false, body :=
  .seq (.ops 1 [H 3 0 1 (.box 7 [] t0), P 4 (.move (.k (.bool false)))] []) (.seq (.seq (.ops 0 [P 5 (.fieldAddr 0 t3), H 6 0 0 (.load none t5), H 7 0 0 (.load none t1), P 8 (.bin .neq t6 t7)] []) (.cond t8 (.seq (.ops 0 [P 4 (.move (.k (.bool false)))] []) (.ret)) (.skip))) (.seq (.ops 0 [H 9 0 0 (.load none t2), P 10 (.bin .add t9 (.k (.int .i64 1))), T 0 0 (.store 1 [] t2 t10)] []) (.seq (.ops 0 [P 11 (.fieldAddr 6 t3), H 12 0 0 (.load none t11), H 13 0 0 (.load none t2), P 14 (.bin .sub t13 (.k (.int .i64 1))), P 15 (.bin .neq t12 t14), P 4 (.move t15)] []) (.ret)))) }
end Go.Ab

/-! ## Ir -/
namespace Go.Ab
def irT : Tree := (.node 93 (.node 46 (.node 24 (.node 13 (.node 8 (.node 5 (.node 4 (.leaf 3 ir3) (.leaf 4 ir4)) (.node 6 (.leaf 5 ir5) (.node 7 (.leaf 6 ir6) (.leaf 7 ir7)))) (.node 10 (.node 9 (.leaf 8 ir8) (.leaf 9 ir9)) (.node 11 (.leaf 10 ir10) (.node 12 (.leaf 11 ir11) (.leaf 12 ir12))))) (.node 18 (.node 15 (.node 14 (.leaf 13 ir13) (.leaf 14 ir14)) (.node 16 (.leaf 15 ir15) (.node 17 (.leaf 16 ir16) (.leaf 17 ir17)))) (.node 21 (.node 19 (.leaf 18 ir18) (.node 20 (.leaf 19 ir19) (.leaf 20 ir20))) (.node 22 (.leaf 21 ir21) (.node 23 (.leaf 22 ir22) (.leaf 23 ir23)))))) (.node 35 (.node 29 (.node 26 (.node 25 (.leaf 24 ir24) (.leaf 25 ir25)) (.node 27 (.leaf 26 ir26) (.node 28 (.leaf 27 ir27) (.leaf 28 ir28)))) (.node 32 (.node 30 (.leaf 29 ir29) (.node 31 (.leaf 30 ir30) (.leaf 31 ir31))) (.node 33 (.leaf 32 ir32) (.node 34 (.leaf 33 ir33) (.leaf 34 ir34))))) (.node 40 (.node 37 (.node 36 (.leaf 35 ir35) (.leaf 36 ir36)) (.node 38 (.leaf 37 ir37) (.node 39 (.leaf 38 ir38) (.leaf 39 ir39)))) (.node 43 (.node 41 (.leaf 40 ir40) (.node 42 (.leaf 41 ir41) (.leaf 42 ir42))) (.node 44 (.leaf 43 ir43) (.node 45 (.leaf 44 ir44) (.leaf 45 ir45))))))) (.node 71 (.node 56 (.node 51 (.node 48 (.node 47 (.leaf 46 ir46) (.leaf 47 ir47)) (.node 49 (.leaf 48 ir48) (.node 50 (.leaf 49 ir49) (.leaf 50 ir50)))) (.node 53 (.node 52 (.leaf 51 ir51) (.leaf 52 ir52)) (.node 54 (.leaf 53 ir53) (.node 55 (.leaf 54 ir54) (.leaf 55 ir55))))) (.node 61 (.node 58 (.node 57 (.leaf 56 ir56) (.leaf 57 ir57)) (.node 59 (.leaf 58 ir58) (.node 60 (.leaf 59 ir59) (.leaf 60 ir60)))) (.node 64 (.node 62 (.leaf 61 ir61) (.node 63 (.leaf 62 ir62) (.leaf 63 ir63))) (.node 65 (.leaf 64 ir64) (.node 66 (.leaf 65 ir65) (.leaf 66 ir66)))))) (.node 82 (.node 76 (.node 73 (.node 72 (.leaf 71 ir71) (.leaf 72 ir72)) (.node 74 (.leaf 73 ir73) (.node 75 (.leaf 74 ir74) (.leaf 75 ir75)))) (.node 79 (.node 77 (.leaf 76 ir76) (.node 78 (.leaf 77 ir77) (.leaf 78 ir78))) (.node 80 (.leaf 79 ir79) (.node 81 (.leaf 80 ir80) (.leaf 81 ir81))))) (.node 87 (.node 84 (.node 83 (.leaf 82 ir82) (.leaf 83 ir83)) (.node 85 (.leaf 84 ir84) (.node 86 (.leaf 85 ir85) (.leaf 86 ir86)))) (.node 90 (.node 88 (.leaf 87 ir87) (.node 89 (.leaf 88 ir88) (.leaf 89 ir89))) (.node 91 (.leaf 90 ir90) (.node 92 (.leaf 91 ir91) (.leaf 92 ir92)))))))) (.node 136 (.node 114 (.node 103 (.node 98 (.node 95 (.node 94 (.leaf 93 ir93) (.leaf 94 ir94)) (.node 96 (.leaf 95 ir95) (.node 97 (.leaf 96 ir96) (.leaf 97 ir97)))) (.node 100 (.node 99 (.leaf 98 ir98) (.leaf 99 ir99)) (.node 101 (.leaf 100 ir100) (.node 102 (.leaf 101 ir101) (.leaf 102 ir102))))) (.node 108 (.node 105 (.node 104 (.leaf 103 ir103) (.leaf 104 ir104)) (.node 106 (.leaf 105 ir105) (.node 107 (.leaf 106 ir106) (.leaf 107 ir107)))) (.node 111 (.node 109 (.leaf 108 ir108) (.node 110 (.leaf 109 ir109) (.leaf 110 ir110))) (.node 112 (.leaf 111 ir111) (.node 113 (.leaf 112 ir112) (.leaf 113 ir113)))))) (.node 125 (.node 119 (.node 116 (.node 115 (.leaf 114 ir114) (.leaf 115 ir115)) (.node 117 (.leaf 116 ir116) (.node 118 (.leaf 117 ir117) (.leaf 118 ir118)))) (.node 122 (.node 120 (.leaf 119 ir119) (.node 121 (.leaf 120 ir120) (.leaf 121 ir121))) (.node 123 (.leaf 122 ir122) (.node 124 (.leaf 123 ir123) (.leaf 124 ir124))))) (.node 130 (.node 127 (.node 126 (.leaf 125 ir125) (.leaf 126 ir126)) (.node 128 (.leaf 127 ir127) (.node 129 (.leaf 128 ir128) (.leaf 129 ir129)))) (.node 133 (.node 131 (.leaf 130 ir130) (.node 132 (.leaf 131 ir131) (.leaf 132 ir132))) (.node 134 (.leaf 133 ir133) (.node 135 (.leaf 134 ir134) (.leaf 135 ir135))))))) (.node 158 (.node 147 (.node 141 (.node 138 (.node 137 (.leaf 136 ir136) (.leaf 137 ir137)) (.node 139 (.leaf 138 ir138) (.node 140 (.leaf 139 ir139) (.leaf 140 ir140)))) (.node 144 (.node 142 (.leaf 141 ir141) (.node 143 (.leaf 142 ir142) (.leaf 143 ir143))) (.node 145 (.leaf 144 ir144) (.node 146 (.leaf 145 ir145) (.leaf 146 ir146))))) (.node 152 (.node 149 (.node 148 (.leaf 147 ir147) (.leaf 148 ir148)) (.node 150 (.leaf 149 ir149) (.node 151 (.leaf 150 ir150) (.leaf 151 ir151)))) (.node 155 (.node 153 (.leaf 152 ir152) (.node 154 (.leaf 153 ir153) (.leaf 154 ir154))) (.node 156 (.leaf 155 ir155) (.node 157 (.leaf 156 ir156) (.leaf 157 ir157)))))) (.node 169 (.node 163 (.node 160 (.node 159 (.leaf 158 ir158) (.leaf 159 ir159)) (.node 161 (.leaf 160 ir160) (.node 162 (.leaf 161 ir161) (.leaf 162 ir162)))) (.node 166 (.node 164 (.leaf 163 ir163) (.node 165 (.leaf 164 ir164) (.leaf 165 ir165))) (.node 167 (.leaf 166 ir166) (.node 168 (.leaf 167 ir167) (.leaf 168 ir168))))) (.node 174 (.node 171 (.node 170 (.leaf 169 ir169) (.leaf 170 ir170)) (.node 172 (.leaf 171 ir171) (.node 173 (.leaf 172 ir172) (.leaf 173 ir173)))) (.node 177 (.node 175 (.leaf 174 ir174) (.node 176 (.leaf 175 ir175) (.leaf 176 ir176))) (.node 178 (.leaf 177 ir177) (.node 179 (.leaf 178 ir178) (.leaf 179 ir179)))))))))
end Go.Ab
