/- Comparing: the contracts of the functions that order states. No statement of the seat is proved here. -/
import Derived.Test.YtjbipegbpeefkaaGreatAq0
set_option linter.unusedSimpArgs false
set_option linter.unusedVariables false
namespace Go.Ab
set_option maxRecDepth 100000
theorem get94 : irT.get 94 = some ir94 := by kernel_rfl
theorem get48 : irT.get 48 = some ir48 := by kernel_rfl
theorem get47 : irT.get 47 = some ir47 := by kernel_rfl
theorem get49 : irT.get 49 = some ir49 := by kernel_rfl
theorem get12 : irT.get 12 = some ir12 := by kernel_rfl
theorem get13 : irT.get 13 = some ir13 := by kernel_rfl
def cmpI (a b : Int) : Int := if a < b then -1 else if b < a then 1 else 0
def cmpL : List Int → List Int → Int
  | a :: l, b :: m => if a < b then -1 else if b < a then 1 else cmpL l m
  | _, _ => 0
theorem c94 (a : Int) : M.pure 94 [.int .i64 a] = some (.bool false) := by
  rw [pure_eq get94 _ rfl rfl]
  simp [ir94, den, opsSem, opSem, pureSem, heapSem, rd, putO, initTs, cmpInt, ofBool, K.o, disOk, isRet, readWith, readRV, toC, pushB, frameLen, splitO, restArgs, restO, restCells, allC, O.cells, oneO, oneC, depthOk, nilFix, fresh, setB, getB, loadAt, storeAt, appendAt, bound, fillCells, mkAgg, ofCells, ofCellsC, O.isU, okOpen, handle, apart, freeB, retC, killTs, cut, lowOk, lowBlk, skipO, keep, RV.pt, sbound, sliceA, sliceP, arrC, noNils, mkTuple, minmaxF, ptAt, eqCells, toCarr, content, partsS]
theorem c48 (a b : Int) : M.pure 48 [.int .i64 a, .int .i64 b] = some (.int .i64 (cmpI a b)) := by
  rw [pure_eq get48 _ rfl rfl]
  simp [ir48, c94, inl_M, cmpI, den, opsSem, opSem, pureSem, heapSem, rd, putO, initTs, cmpInt, ofBool, K.o, disOk, isRet, readWith, readRV, toC, pushB, frameLen, splitO, restArgs, restO, restCells, allC, O.cells, oneO, oneC, depthOk, nilFix, fresh, setB, getB, loadAt, storeAt, appendAt, bound, fillCells, mkAgg, ofCells, ofCellsC, O.isU, okOpen, handle, apart, freeB, retC, killTs, cut, lowOk, lowBlk, skipO, keep, RV.pt, sbound, sliceA, sliceP, arrC, noNils, mkTuple, minmaxF, ptAt, eqCells, toCarr, content, partsS]
  split
  · rfl
  · split <;> rfl
def p48 : List C → Option C
  | [.int .i64 a, .int .i64 b] => some (.int .i64 (cmpI a b))
  | _ => none
theorem p48_ok (l : List C) (v : C) (h : p48 l = some v) : M.pure 48 l = some v := by
  unfold p48 at h
  split at h
  · cases h; exact c48 _ _
  · cases h
noncomputable def S48 : Env := withP 48 p48 M
theorem S48_le : Le S48 := Le.refl.p p48_ok
/-! ### the document's order -/
noncomputable def fin13 : Ex → List O → St → Option C := kBlk 0 (kSeq M 0 ((IC.ops 0 [P 4 (POp.move (Arg.k (K.int IntKind.i64 0)))] []).seq IC.ret) (retC ir13))
noncomputable def P13 (A B : List Int) (i : Int) : Option C := handle fin13 (M.code 0 (.loopAt 4 kl13_0 ko13_0 lb13_0) (cs13_0 (.ref 0 2 0) (.ref 0 3 0) (Io i)) ⟨[[V A, V B, V A, V B]], []⟩)
def tree2 (a b : Int) (X : Option C) : Option C := if decide (a < b) = true then some (Ic (-1)) else if decide (a > b) = true then some (Ic 1) else X
theorem tree2_some (a b x : Int) : tree2 a b (some (Ic x)) = some (Ic (if a < b then -1 else if b < a then 1 else x)) := by
  simp only [tree2, decide_eq_true_eq, gt_iff_lt]
  split
  · rfl
  · split <;> rfl
section
variable (a0 a1 a2 a3 a4 a5 a6 b0 b1 b2 b3 b4 b5 b6 : Int)
noncomputable abbrev PP13 (i : Int) : Option C := P13 [a0, a1, a2, a3, a4, a5, a6] [b0, b1, b2, b3, b4, b5, b6] i
theorem s13_0 : PP13 a0 a1 a2 a3 a4 a5 a6 b0 b1 b2 b3 b4 b5 b6 0 = tree2 a0 b0 (PP13 a0 a1 a2 a3 a4 a5 a6 b0 b1 b2 b3 b4 b5 b6 1) := by unfold PP13 P13; rw [loop_step]; kernel_rfl
theorem s13_1 : PP13 a0 a1 a2 a3 a4 a5 a6 b0 b1 b2 b3 b4 b5 b6 1 = tree2 a1 b1 (PP13 a0 a1 a2 a3 a4 a5 a6 b0 b1 b2 b3 b4 b5 b6 2) := by unfold PP13 P13; rw [loop_step]; kernel_rfl
theorem s13_2 : PP13 a0 a1 a2 a3 a4 a5 a6 b0 b1 b2 b3 b4 b5 b6 2 = tree2 a2 b2 (PP13 a0 a1 a2 a3 a4 a5 a6 b0 b1 b2 b3 b4 b5 b6 3) := by unfold PP13 P13; rw [loop_step]; kernel_rfl
theorem s13_3 : PP13 a0 a1 a2 a3 a4 a5 a6 b0 b1 b2 b3 b4 b5 b6 3 = tree2 a3 b3 (PP13 a0 a1 a2 a3 a4 a5 a6 b0 b1 b2 b3 b4 b5 b6 4) := by unfold PP13 P13; rw [loop_step]; kernel_rfl
theorem s13_4 : PP13 a0 a1 a2 a3 a4 a5 a6 b0 b1 b2 b3 b4 b5 b6 4 = tree2 a4 b4 (PP13 a0 a1 a2 a3 a4 a5 a6 b0 b1 b2 b3 b4 b5 b6 5) := by unfold PP13 P13; rw [loop_step]; kernel_rfl
theorem s13_5 : PP13 a0 a1 a2 a3 a4 a5 a6 b0 b1 b2 b3 b4 b5 b6 5 = tree2 a5 b5 (PP13 a0 a1 a2 a3 a4 a5 a6 b0 b1 b2 b3 b4 b5 b6 6) := by unfold PP13 P13; rw [loop_step]; kernel_rfl
theorem s13_6 : PP13 a0 a1 a2 a3 a4 a5 a6 b0 b1 b2 b3 b4 b5 b6 6 = tree2 a6 b6 (PP13 a0 a1 a2 a3 a4 a5 a6 b0 b1 b2 b3 b4 b5 b6 7) := by unfold PP13 P13; rw [loop_step]; kernel_rfl
theorem s13_7 : PP13 a0 a1 a2 a3 a4 a5 a6 b0 b1 b2 b3 b4 b5 b6 7 = some (Ic 0) := by unfold PP13 P13; rw [loop_step]; kernel_rfl
theorem c13 : M.pure 13 [.agg [Ic a0, Ic a1, Ic a2, Ic a3, Ic a4, Ic a5, Ic a6], .agg [Ic b0, Ic b1, Ic b2, Ic b3, Ic b4, Ic b5, Ic b6]] = some (Ic (cmpL [a0, a1, a2, a3, a4, a5, a6] [b0, b1, b2, b3, b4, b5, b6])) := by
  rw [pure_eq get13 _ rfl rfl]
  have : den M 0 ir13.body (initTs ir13 ([.agg [Ic a0, Ic a1, Ic a2, Ic a3, Ic a4, Ic a5, Ic a6], .agg [Ic b0, Ic b1, Ic b2, Ic b3, Ic b4, Ic b5, Ic b6]].map .c)) { fr := [[]] } (retC ir13) = PP13 a0 a1 a2 a3 a4 a5 a6 b0 b1 b2 b3 b4 b5 b6 0 := by kernel_rfl
  rw [this, s13_0, s13_1, s13_2, s13_3, s13_4, s13_5, s13_6, s13_7]
  simp only [tree2_some]
  rfl
end

/-! ### cmp.Or of five -/
def orL : List Int → Int
  | a :: l => if a = 0 then orL l else a
  | [] => 0
noncomputable def fin47 : Ex → List O → St → Option C := kBlk 0 (kSeq M 0 ((IC.ops 0 [P 17 (.move t3), P 2 (.move t17)] []).seq IC.ret) (retC ir47))
noncomputable def P47 (L : List Int) (i : Int) : Option C := handle fin47 (M.code 0 (.loopAt 0 kl47_0 ko47_0 lb47_0) (cs47_0 (Io 0) (.c (.slice L.length (sList z3 (L.map fun x => [Ic x])))) (Io L.length) (Io i)) ⟨[[]], []⟩)
section
variable (x0 x1 x2 x3 x4 : Int)
theorem s47_0 : P47 [x0, x1, x2, x3, x4] 0 = if (x0 != 0) = true then some (Ic x0) else P47 [x0, x1, x2, x3, x4] 1 := by unfold P47; rw [loop_step]; kernel_rfl
theorem s47_1 : P47 [x0, x1, x2, x3, x4] 1 = if (x1 != 0) = true then some (Ic x1) else P47 [x0, x1, x2, x3, x4] 2 := by unfold P47; rw [loop_step]; kernel_rfl
theorem s47_2 : P47 [x0, x1, x2, x3, x4] 2 = if (x2 != 0) = true then some (Ic x2) else P47 [x0, x1, x2, x3, x4] 3 := by unfold P47; rw [loop_step]; kernel_rfl
theorem s47_3 : P47 [x0, x1, x2, x3, x4] 3 = if (x3 != 0) = true then some (Ic x3) else P47 [x0, x1, x2, x3, x4] 4 := by unfold P47; rw [loop_step]; kernel_rfl
theorem s47_4 : P47 [x0, x1, x2, x3, x4] 4 = if (x4 != 0) = true then some (Ic x4) else P47 [x0, x1, x2, x3, x4] 5 := by unfold P47; rw [loop_step]; kernel_rfl
theorem s47_5 : P47 [x0, x1, x2, x3, x4] 5 = some (Ic 0) := by unfold P47; rw [loop_step]; kernel_rfl
theorem or_some (a x : Int) : (if (a != 0) = true then some (Ic a) else some (Ic x)) = some (Ic (if a = 0 then x else a)) := by
  by_cases h : a = 0 <;> simp [h]
theorem c47 : M.pure 47 [.slice 5 (sList z3 [[Ic x0], [Ic x1], [Ic x2], [Ic x3], [Ic x4]])] = some (Ic (orL [x0, x1, x2, x3, x4])) := by
  rw [pure_eq get47 _ rfl rfl]
  have : den M 0 ir47.body (initTs ir47 ([.slice 5 (sList z3 [[Ic x0], [Ic x1], [Ic x2], [Ic x3], [Ic x4]])].map .c)) { fr := [[]] } (retC ir47) = P47 [x0, x1, x2, x3, x4] 0 := by kernel_rfl
  rw [this, s47_0, s47_1, s47_2, s47_3, s47_4, s47_5]
  simp only [or_some]
  rfl
end

/-! ### slices.Compare of two arrays of three -/
noncomputable def fin49 : Ex → List O → St → Option (O × St) := kBlk 0 (kSeq S48 1 (.seq (.seq (.ops 0 [P 31 (.move t0), P 32 (.len t31), P 33 (.move t1), P 34 (.len t33), P 35 (.bin .lss t32 t34)] []) (.cond t35 (.seq (.ops 0 [P 4 (.move (.k (.int .i64 (-1))))] []) (.ret)) (.skip))) (.seq (.ops 0 [P 4 (.move (.k (.int .i64 0)))] []) (.ret))) (retRich ir49 1 1))
noncomputable def P49 (A B : List Int) (i : Int) : Option (O × St) := handle fin49 (M.code 1 (.loopAt 0 kl49_0 ko49_0 lb49_0) (cs49_0 (.vsl 0 0 4 3 1) (.vsl 0 1 4 3 1) (.vsl 0 0 4 3 1) (Io 3) (Io i)) ⟨[[V A, V B, .none], []], []⟩)
def O49 (A B : List Int) (x : Int) : Option (O × St) := some (Io x, ⟨[[V A, V B, .none]], []⟩)
section
variable (a0 a1 a2 a3 a4 a5 a6 b0 b1 b2 b3 b4 b5 b6 : Int)
noncomputable abbrev PP49 (i : Int) : Option (O × St) := P49 [a0, a1, a2, a3, a4, a5, a6] [b0, b1, b2, b3, b4, b5, b6] i
abbrev OO49 (x : Int) : Option (O × St) := O49 [a0, a1, a2, a3, a4, a5, a6] [b0, b1, b2, b3, b4, b5, b6] x
theorem or49 (A B : List Int) (c x : Int) : (if (c != 0) = true then O49 A B c else O49 A B x) = O49 A B (if c = 0 then x else c) := by
  by_cases h : c = 0 <;> simp [h]
theorem s49_3 : PP49 a0 a1 a2 a3 a4 a5 a6 b0 b1 b2 b3 b4 b5 b6 3 = OO49 a0 a1 a2 a3 a4 a5 a6 b0 b1 b2 b3 b4 b5 b6 0 := by unfold PP49 P49; refine loop_le S48_le rfl ?_; kernel_rfl
theorem s49_2 : PP49 a0 a1 a2 a3 a4 a5 a6 b0 b1 b2 b3 b4 b5 b6 2 = OO49 a0 a1 a2 a3 a4 a5 a6 b0 b1 b2 b3 b4 b5 b6 (if cmpI a6 b6 = 0 then 0 else cmpI a6 b6) := by
  unfold PP49 P49; refine loop_le S48_le rfl ?_
  refine Eq.trans (b := if (cmpI a6 b6 != 0) = true then OO49 a0 a1 a2 a3 a4 a5 a6 b0 b1 b2 b3 b4 b5 b6 (cmpI a6 b6) else PP49 a0 a1 a2 a3 a4 a5 a6 b0 b1 b2 b3 b4 b5 b6 3) (by kernel_rfl) ?_
  rw [s49_3]; exact or49 _ _ _ _
theorem s49_1 : PP49 a0 a1 a2 a3 a4 a5 a6 b0 b1 b2 b3 b4 b5 b6 1 = OO49 a0 a1 a2 a3 a4 a5 a6 b0 b1 b2 b3 b4 b5 b6 (if cmpI a5 b5 = 0 then (if cmpI a6 b6 = 0 then 0 else cmpI a6 b6) else cmpI a5 b5) := by
  unfold PP49 P49; refine loop_le S48_le rfl ?_
  refine Eq.trans (b := if (cmpI a5 b5 != 0) = true then OO49 a0 a1 a2 a3 a4 a5 a6 b0 b1 b2 b3 b4 b5 b6 (cmpI a5 b5) else PP49 a0 a1 a2 a3 a4 a5 a6 b0 b1 b2 b3 b4 b5 b6 2) (by kernel_rfl) ?_
  rw [s49_2]; exact or49 _ _ _ _
theorem s49_0 : PP49 a0 a1 a2 a3 a4 a5 a6 b0 b1 b2 b3 b4 b5 b6 0 = OO49 a0 a1 a2 a3 a4 a5 a6 b0 b1 b2 b3 b4 b5 b6 (orL [cmpI a4 b4, cmpI a5 b5, cmpI a6 b6]) := by
  unfold PP49 P49; refine loop_le S48_le rfl ?_
  refine Eq.trans (b := if (cmpI a4 b4 != 0) = true then OO49 a0 a1 a2 a3 a4 a5 a6 b0 b1 b2 b3 b4 b5 b6 (cmpI a4 b4) else PP49 a0 a1 a2 a3 a4 a5 a6 b0 b1 b2 b3 b4 b5 b6 1) (by kernel_rfl) ?_
  rw [s49_1]; exact or49 _ _ _ _
theorem r49 : M.rich 0 49 [.vsl 0 0 4 3 1, .vsl 0 1 4 3 1] ⟨[[V [a0, a1, a2, a3, a4, a5, a6], V [b0, b1, b2, b3, b4, b5, b6], .none]], []⟩ = OO49 a0 a1 a2 a3 a4 a5 a6 b0 b1 b2 b3 b4 b5 b6 (orL [cmpI a4 b4, cmpI a5 b5, cmpI a6 b6]) := by
  rw [rich_eq get49 _ _ _ rfl rfl]
  refine den_le S48_le ?_
  exact Eq.trans (by kernel_rfl) (s49_0 a0 a1 a2 a3 a4 a5 a6 b0 b1 b2 b3 b4 b5 b6)
end
/-! ### the program's order -/
def gI : O → Option Int
  | .c (.int .i64 x) => some x
  | _ => none
def pr49 (d : Nat) (l : List O) (s : St) : Option (O × St) :=
  match d, l, s with
  | 0, [.vsl 0 0 4 3 1, .vsl 0 1 4 3 1], ⟨[[.vars [.c (.int .i64 a0), .c (.int .i64 a1), .c (.int .i64 a2), .c (.int .i64 a3), .c (.int .i64 a4), .c (.int .i64 a5), .c (.int .i64 a6)], .vars [.c (.int .i64 b0), .c (.int .i64 b1), .c (.int .i64 b2), .c (.int .i64 b3), .c (.int .i64 b4), .c (.int .i64 b5), .c (.int .i64 b6)], .none]], []⟩ =>
    OO49 a0 a1 a2 a3 a4 a5 a6 b0 b1 b2 b3 b4 b5 b6 (orL [cmpI a4 b4, cmpI a5 b5, cmpI a6 b6])
  | _, _, _ => none
theorem pr49_ok (d : Nat) (l : List O) (s : St) (v : O × St) (h : pr49 d l s = some v) : M.rich d 49 l s = some v := by
  unfold pr49 at h
  split at h
  · rw [← h]; exact r49 _ _ _ _ _ _ _ _ _ _ _ _ _ _
  · cases h
noncomputable def S12 : Env := withR 49 pr49 S48
theorem S12_le : Le S12 := S48_le.r pr49_ok
section
variable (a0 a1 a2 a3 a4 a5 a6 b0 b1 b2 b3 b4 b5 b6 : Int)
theorem c12 : M.pure 12 [.agg [Ic a0, Ic a1, Ic a2, Ic a3, Ic a4, Ic a5, Ic a6], .agg [Ic b0, Ic b1, Ic b2, Ic b3, Ic b4, Ic b5, Ic b6]] = some (Ic (orL [cmpI a0 b0, cmpI a1 b1, cmpI a2 b2, cmpI a3 b3, orL [cmpI a4 b4, cmpI a5 b5, cmpI a6 b6]])) := by
  refine pure_le S12_le get12 rfl rfl ?_
  refine Eq.trans (b := (M.pure 47 [.slice 5 (sList z3 [[Ic (cmpI a0 b0)], [Ic (cmpI a1 b1)], [Ic (cmpI a2 b2)], [Ic (cmpI a3 b3)], [Ic (orL [cmpI a4 b4, cmpI a5 b5, cmpI a6 b6])]])]).bind some) (by kernel_rfl) ?_
  rw [c47]
  rfl
end
end Go.Ab
