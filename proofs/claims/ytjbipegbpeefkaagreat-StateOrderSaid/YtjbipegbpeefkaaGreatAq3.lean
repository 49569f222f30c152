/- Three states in order: the law, in the machine. No statement of the seat is proved here. -/
import Derived.Test.YtjbipegbpeefkaaGreatAq1
import Derived.Test.YtjbipegbpeefkaaGreatAq2
set_option linter.unusedSimpArgs false
set_option linter.unusedVariables false
namespace Go.Ab
set_option maxRecDepth 100000
/-! ### The plain order -/
theorem cmpL_range : ∀ (l m : List Int), cmpL l m = -1 ∨ cmpL l m = 0 ∨ cmpL l m = 1 := by
  intro l
  induction l with
  | nil => intro m; cases m <;> simp [cmpL]
  | cons a l ih =>
    intro m
    cases m with
    | nil => simp [cmpL]
    | cons b m =>
      simp only [cmpL]
      split
      · exact .inl rfl
      · split
        · exact .inr (.inr rfl)
        · exact ih m
theorem cmpL_swap : ∀ (l m : List Int), cmpL m l = -cmpL l m := by
  intro l
  induction l with
  | nil => intro m; cases m <;> simp [cmpL]
  | cons a l ih =>
    intro m
    cases m with
    | nil => simp [cmpL]
    | cons b m =>
      simp only [cmpL]
      by_cases h1 : a < b
      · rw [if_neg (by omega), if_pos h1, if_pos h1]; rfl
      · by_cases h2 : b < a
        · rw [if_pos h2, if_neg h1, if_pos h2]
        · rw [if_neg h2, if_neg h1, if_neg h1, if_neg h2]; exact ih m
theorem cmpL_zero : ∀ (l m : List Int), l.length = m.length → (cmpL l m = 0 ↔ l = m) := by
  intro l
  induction l with
  | nil => intro m h; cases m with | nil => simp [cmpL] | cons _ _ => simp at h
  | cons a l ih =>
    intro m h
    cases m with
    | nil => simp at h
    | cons b m =>
      simp only [cmpL, List.cons.injEq]
      by_cases h1 : a < b
      · rw [if_pos h1]; constructor <;> intro h <;> omega
      · by_cases h2 : b < a
        · rw [if_neg h1, if_pos h2]; constructor <;> intro h <;> omega
        · rw [if_neg h1, if_neg h2, ih m (by simpa using h)]
          constructor
          · intro q; exact ⟨by omega, q⟩
          · exact fun q => q.2
theorem cmpL_trans : ∀ (l m n : List Int), l.length = m.length → m.length = n.length → cmpL l m ≤ 0 → cmpL m n ≤ 0 → cmpL l n ≤ 0 := by
  intro l
  induction l with
  | nil => intro m n _ _ _ _; cases n <;> simp [cmpL]
  | cons a l ih =>
    intro m n h1 h2 h3 h4
    cases m with
    | nil => simp at h1
    | cons b m =>
      cases n with
      | nil => simp at h2
      | cons c n =>
        simp only [cmpL] at h3 h4 ⊢
        by_cases q1 : a < b
        · by_cases q2 : b < c
          · rw [if_pos (by omega)]; omega
          · rw [if_neg q2] at h4
            by_cases q3 : c < b
            · rw [if_pos q3] at h4; omega
            · rw [if_pos (by omega)]; omega
        · rw [if_neg q1] at h3
          by_cases q3 : b < a
          · rw [if_pos q3] at h3; omega
          · rw [if_neg q3] at h3
            have : a = b := by omega
            subst this
            by_cases q2 : a < c
            · rw [if_pos q2]; omega
            · rw [if_neg q2] at h4 ⊢
              by_cases q4 : c < a
              · rw [if_pos q4] at h4; omega
              · rw [if_neg q4] at h4 ⊢
                exact ih m n (by simpa using h1) (by simpa using h2) h3 h4
theorem or_cmp (a b : Int) (x : Int) : (if cmpI a b = 0 then x else cmpI a b) = (if a < b then -1 else if b < a then 1 else x) := by
  unfold cmpI
  by_cases h1 : a < b
  · simp [h1]
  · by_cases h2 : b < a
    · simp [h1, h2]
    · simp [h1, h2]
theorem or_flat (x : Int) : (if x = 0 then 0 else x) = x := by by_cases h : x = 0 <;> simp [h]
theorem or_is (a0 a1 a2 a3 a4 a5 a6 b0 b1 b2 b3 b4 b5 b6 : Int) : orL [cmpI a0 b0, cmpI a1 b1, cmpI a2 b2, cmpI a3 b3, orL [cmpI a4 b4, cmpI a5 b5, cmpI a6 b6]] = cmpL [a0, a1, a2, a3, a4, a5, a6] [b0, b1, b2, b3, b4, b5, b6] := by
  simp only [orL, or_cmp, or_flat, cmpL]
  simp only [cmpI]
/-! ### The law -/
theorem get4 : irT.get 4 = some ir4 := by kernel_rfl
def st7 (a0 a1 a2 a3 a4 a5 a6 : Int) : C := .agg [Ic a0, Ic a1, Ic a2, Ic a3, Ic a4, Ic a5, Ic a6]
def p12 : List C → Option C
  | [.agg [.int .i64 a0, .int .i64 a1, .int .i64 a2, .int .i64 a3, .int .i64 a4, .int .i64 a5, .int .i64 a6], .agg [.int .i64 b0, .int .i64 b1, .int .i64 b2, .int .i64 b3, .int .i64 b4, .int .i64 b5, .int .i64 b6]] => some (.int .i64 (cmpL [a0, a1, a2, a3, a4, a5, a6] [b0, b1, b2, b3, b4, b5, b6]))
  | _ => none
theorem p12_ok (l : List C) (v : C) (h : p12 l = some v) : M.pure 12 l = some v := by
  unfold p12 at h
  split at h
  · cases h; rw [c12, or_is]
  · cases h
theorem p13_ok (l : List C) (v : C) (h : p12 l = some v) : M.pure 13 l = some v := by
  unfold p12 at h
  split at h
  · cases h; exact c13 _ _ _ _ _ _ _ _ _ _ _ _ _ _
  · cases h
noncomputable def S4 : Env := withP 7 p7 (withP 13 p12 (withP 12 p12 M))
theorem S4_le : Le S4 := ((Le.refl.p p12_ok).p p13_ok).p p7_ok
theorem c4 (a0 a1 a2 a3 a4 a5 a6 b0 b1 b2 b3 b4 b5 b6 c0 c1 c2 c3 c4 c5 c6 : Int) : M.pure 4 [st7 a0 a1 a2 a3 a4 a5 a6, st7 b0 b1 b2 b3 b4 b5 b6, st7 c0 c1 c2 c3 c4 c5 c6] = some (.bool true) := by
  refine pure_le S4_le get4 rfl rfl ?_
  refine Eq.trans (b :=
    if (cmpL [a0, a1, a2, a3, a4, a5, a6] [b0, b1, b2, b3, b4, b5, b6] != cmpL [a0, a1, a2, a3, a4, a5, a6] [b0, b1, b2, b3, b4, b5, b6]) = true then some (.bool false)
    else if (cmpL [a0, a1, a2, a3, a4, a5, a6] [b0, b1, b2, b3, b4, b5, b6] != IntKind.i64.wrap (0 - cmpL [b0, b1, b2, b3, b4, b5, b6] [a0, a1, a2, a3, a4, a5, a6])) = true then some (.bool false)
    else if (!((cmpL [a0, a1, a2, a3, a4, a5, a6] [b0, b1, b2, b3, b4, b5, b6] == 0) == ((a0 == b0) && ((a1 == b1) && ((a2 == b2) && ((a3 == b3) && ((a4 == b4) && ((a5 == b5) && ((a6 == b6) && true))))))))) = true then some (.bool false)
    else if decide (cmpL [a0, a1, a2, a3, a4, a5, a6] [b0, b1, b2, b3, b4, b5, b6] > 0) = true then some (.bool true)
    else if decide (cmpL [b0, b1, b2, b3, b4, b5, b6] [c0, c1, c2, c3, c4, c5, c6] > 0) = true then some (.bool true)
    else if decide (cmpL [a0, a1, a2, a3, a4, a5, a6] [c0, c1, c2, c3, c4, c5, c6] ≤ 0) = true then some (.bool true) else some (.bool false)) (by kernel_rfl) ?_
  have h1 := cmpL_range [a0, a1, a2, a3, a4, a5, a6] [b0, b1, b2, b3, b4, b5, b6]
  have h2 := cmpL_swap [a0, a1, a2, a3, a4, a5, a6] [b0, b1, b2, b3, b4, b5, b6]
  have h3 := cmpL_zero [a0, a1, a2, a3, a4, a5, a6] [b0, b1, b2, b3, b4, b5, b6] rfl
  have h4 := cmpL_trans [a0, a1, a2, a3, a4, a5, a6] [b0, b1, b2, b3, b4, b5, b6] [c0, c1, c2, c3, c4, c5, c6] rfl rfl
  rw [h2]
  generalize cmpL [a0, a1, a2, a3, a4, a5, a6] [b0, b1, b2, b3, b4, b5, b6] = x at h1 h2 h3 h4 ⊢
  generalize cmpL [b0, b1, b2, b3, b4, b5, b6] [c0, c1, c2, c3, c4, c5, c6] = y at h4 ⊢
  generalize cmpL [a0, a1, a2, a3, a4, a5, a6] [c0, c1, c2, c3, c4, c5, c6] = z at h4 ⊢
  have hw : IntKind.i64.wrap (0 - -x) = x := by rw [wrap64] <;> omega
  rw [hw]
  have he : ((a0 == b0) && ((a1 == b1) && ((a2 == b2) && ((a3 == b3) && ((a4 == b4) && ((a5 == b5) && ((a6 == b6) && true))))))) = (x == 0) := by
    rw [Bool.eq_iff_iff]
    simp only [Bool.and_eq_true, beq_iff_eq, and_true]
    rw [h3]
    simp only [List.cons.injEq, and_true]
  rw [he]
  simp only [bne_self_eq_false, BEq.rfl, Bool.not_true, Bool.false_eq_true, if_false, decide_eq_true_eq, gt_iff_lt]
  split
  · rfl
  · split
    · rfl
    · rw [if_pos (h4 (by omega) (by omega))]
end Go.Ab
