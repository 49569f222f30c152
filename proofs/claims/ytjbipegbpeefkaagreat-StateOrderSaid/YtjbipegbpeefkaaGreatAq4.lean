/- Types of the program, and the values of the parameters. No statement of the seat is proved here. -/
import Derived.Test.YtjbipegbpeefkaaGreatMd
import Derived.Test.YtjbipegbpeefkaaGreatAq0
set_option linter.unusedSimpArgs false
set_option linter.unusedVariables false
set_option maxRecDepth 100000
namespace Go.Ab
open Go.Proofs
/-- Whole numbers of 64 bits. -/
def I64 (x : Int) : Prop := -9223372036854775808 ≤ x ∧ x ≤ 9223372036854775807
section
variable {P : Program} {Z : TypeId → List C} {n : Nat} {t : TypeId} {cs : List C} {c : C}
theorem hasT_int (ht : P.underlying t = some (.int .i64)) (h : HasT P Z (n + 1) t cs) : ∃ x, cs = [Ic x] ∧ I64 x := by
  simp only [HasT, ht] at h
  obtain ⟨v, rfl, h1, h2⟩ := h
  exact ⟨v, rfl, by simpa [IntKind.min, IntKind.signed, IntKind.bits] using h1, by simpa [IntKind.max, IntKind.signed, IntKind.bits] using h2⟩
theorem hasT_bool (ht : P.underlying t = some .bool) (h : HasT P Z (n + 1) t cs) : ∃ x, cs = [.bool x] := by
  simp only [HasT, ht] at h; exact h
theorem hasT_struct {fs : Array Field} (ht : P.underlying t = some (.struct fs)) (h : HasT P Z (n + 1) t cs) : ∃ parts : List (List C), cs = parts.flatten ∧ All2 (fun (f : Field) p => HasT P Z n f.type p) fs.toList parts := by
  simp only [HasT, ht] at h; exact h
theorem hasT_array {len : Nat} {e : TypeId} (ht : P.underlying t = some (.array len e)) (h : HasT P Z (n + 1) t cs) : ∃ parts : List (List C), parts.length = len ∧ cs = parts.flatten ∧ ∀ p ∈ parts, HasT P Z n e p := by
  simp only [HasT, ht] at h; exact h
theorem hasT_slice {e : TypeId} (ht : P.underlying t = some (.slice e)) (h : HasT P Z (n + 1) t cs) : ∃ m get, cs = [.slice m get] ∧ m ≤ maxLen ∧ (∀ i, i < m → HasT P Z n e (get i)) ∧ (∀ i, m ≤ i → get i = Z e) := by
  simp only [HasT, ht] at h; exact h
theorem argT_struct {fs : Array Field} (ht : P.underlying t = some (.struct fs)) (h : ArgT P Z n t c) : ∃ cs, c = .agg cs ∧ HasT P Z n t cs := by
  unfold ArgT at h; rw [ht] at h; exact h
theorem argT_int {k : IntKind} (ht : P.underlying t = some (.int k)) (h : ArgT P Z n t c) : HasT P Z n t [c] := by
  unfold ArgT at h; rw [ht] at h; exact h
theorem argT_slice {e : TypeId} (ht : P.underlying t = some (.slice e)) (h : ArgT P Z n t c) : HasT P Z n t [c] := by
  unfold ArgT at h; rw [ht] at h; exact h
end
theorem all2_cons {α β : Type} {R : α → β → Prop} {a : α} {l : List α} {m : List β} (h : All2 R (a :: l) m) : ∃ b m', m = b :: m' ∧ R a b ∧ All2 R l m' := by
  cases h with | cons h t => exact ⟨_, _, rfl, h, t⟩
theorem all2_nil {α β : Type} {R : α → β → Prop} {m : List β} (h : All2 R [] m) : m = [] := by cases h; rfl
theorem hasT_heads {Z : TypeId → List C} {n : Nat} {cs : List C} (h : HasT Tryz.prog Z (n + 2) 30 cs) : ∃ x y z, cs = [Ic x, Ic y, Ic z] ∧ I64 x ∧ I64 y ∧ I64 z := by
  obtain ⟨parts, h1, rfl, h2⟩ := hasT_array Tryz.underlying30 h
  match parts, h1 with
  | [p, q, r], _ =>
    obtain ⟨x, rfl, hx⟩ := hasT_int Tryz.underlying3 (h2 p (by simp))
    obtain ⟨y, rfl, hy⟩ := hasT_int Tryz.underlying3 (h2 q (by simp))
    obtain ⟨z, rfl, hz⟩ := hasT_int Tryz.underlying3 (h2 r (by simp))
    exact ⟨x, y, z, rfl, hx, hy, hz⟩
theorem hasT_state {Z : TypeId → List C} {n : Nat} {c : C} (h : ArgT Tryz.prog Z (n + 3) 32 c) : ∃ a0 a1 a2 a3 a4 a5 a6, c = .agg [Ic a0, Ic a1, Ic a2, Ic a3, Ic a4, Ic a5, Ic a6] ∧ I64 a0 ∧ I64 a1 ∧ I64 a2 ∧ I64 a3 ∧ I64 a4 ∧ I64 a5 ∧ I64 a6 := by
  obtain ⟨cs, hc, h0⟩ := argT_struct Tryz.underlying32 h
  obtain ⟨parts, hp, h1⟩ := hasT_struct Tryz.underlying32 h0
  obtain ⟨p0, m0, e0, k0, h2⟩ := all2_cons h1
  obtain ⟨p1, m1, e1, k1, h3⟩ := all2_cons h2
  obtain ⟨p2, m2, e2, k2, h4⟩ := all2_cons h3
  obtain ⟨p3, m3, e3, k3, h5⟩ := all2_cons h4
  obtain ⟨p4, m4, e4, k4, h6⟩ := all2_cons h5
  have e5 := all2_nil h6
  subst e5; subst e4; subst e3; subst e2; subst e1; subst e0; subst hp; subst hc
  obtain ⟨a0, rfl, q0⟩ := hasT_int Tryz.underlying3 k0
  obtain ⟨a1, rfl, q1⟩ := hasT_int Tryz.underlying3 k1
  obtain ⟨a2, rfl, q2⟩ := hasT_int Tryz.underlying3 k2
  obtain ⟨a3, rfl, q3⟩ := hasT_int Tryz.underlying3 k3
  obtain ⟨a4, a5, a6, rfl, q4, q5, q6⟩ := hasT_heads k4
  exact ⟨a0, a1, a2, a3, a4, a5, a6, rfl, q0, q1, q2, q3, q4, q5, q6⟩
theorem own_knob : ownKnob Tryz.prog.godebug = none := by kernel_rfl
theorem laid_out : laidOutB Tryz.prog = true := by kernel_rfl
end Go.Ab
