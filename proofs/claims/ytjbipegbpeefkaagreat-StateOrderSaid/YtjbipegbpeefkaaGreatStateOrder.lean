/- Any three states are totally ordered, by their fields: the program's order of states is the document's, it turns when its arguments turn, it is 0 for equal states alone, and it is transitive; no condition. -/
import Derived.Test.YtjbipegbpeefkaaGreatRows
import Derived.Test.YtjbipegbpeefkaaGreatAq3
import Derived.Test.YtjbipegbpeefkaaGreatAq4
set_option linter.unusedVariables false
namespace Go.Proofs.YtjbipegbpeefkaaGreat
open Go.ChangeShapes Go.WideShapes Go.ChangeAt Go.RowKit Go.Ab
set_option maxRecDepth 100000 in
theorem stateOrder_lifted (os : Os) (started : os.Started) (H : Type) (enc : TypeId × Value → H) :
    ReturnsInHanded {} Tryz.checked os 4 .any (Rows.stateOrderSpec.pre6 enc Tryz.prog Tryz.f4 Rows.stateOrderRow.domain false) (Rows.stateOrderSpec.post enc Tryz.prog Tryz.f4 false true false false) := by
  refine returnsInHanded_of_change (C := Tryz.checked) own_knob started (by kernel_rfl) Tryz.func4
    (ChangeSpec.witness6 (enc := enc) (C := Tryz.checked) false ⟨#[], #[.agg #[.int .i64 0, .int .i64 0, .int .i64 0, .int .i64 0, .int .i64 0, .int .i64 0, .int .i64 0], .agg #[.int .i64 0, .int .i64 0, .int .i64 0, .int .i64 0, .int .i64 0, .int .i64 0, .int .i64 0], .agg #[.int .i64 0, .int .i64 0, .int .i64 0, .int .i64 0, .int .i64 0, .int .i64 0, .int .i64 0]], []⟩ 8 (by kernel_rfl) (by kernel_rfl) (by kernel_rfl) (by kernel_rfl)) ?_
  intro W base args ds gs before hval hW hcnd _
  have hW' := hW
  obtain ⟨p, q, hA, hV, rfl, hfz, hnd⟩ := hW
  have hlaw : ∀ cs, All2 (ArgT Tryz.prog (fun _ => []) 9) Tryz.f4.params.toList cs → M.pure 4 cs = some (.bool true) := by
    intro cs h
    rw [Tryz.params4] at h
    obtain ⟨c0, m0, e0, k0, h1⟩ := all2_cons h
    obtain ⟨c1, m1, e1, k1, h2⟩ := all2_cons h1
    obtain ⟨c2, m2, e2, k2, h3⟩ := all2_cons h2
    have e3 := all2_nil h3
    subst e3; subst e2; subst e1; subst e0
    obtain ⟨a0, a1, a2, a3, a4, a5, a6, rfl, _⟩ := hasT_state k0
    obtain ⟨b0, b1, b2, b3, b4, b5, b6, rfl, _⟩ := hasT_state k1
    obtain ⟨e0, e1, e2, e3, e4, e5, e6, rfl, _⟩ := hasT_state k2
    exact c4 _ _ _ _ _ _ _ _ _ _ _ _ _ _ _ _ _ _ _ _ _
  have hok : Tryz.f4.params.toList.all (argOk Tryz.prog 9) = true := by kernel_rfl
  refine (law_calls soundM hlaw hok (fun j t v ht hv => hval j t v (by simpa using ht) (by simpa using hv)) hA).mono fun e W' ⟨he, hb⟩ => ?_
  exact ⟨_, he, law_post (tb := 4) laid_out hok rfl Tryz.underlying4 rfl (fun H ds hl => by
    rw [Tryz.params4] at hl
    match ds, hl with
    | [d1, d2, d3], _ => rfl) hW' hb⟩
theorem stateOrder_holds : Rows.StateOrderSaid :=
  OpenClaim.holds_of_wide 4 Tryz.f4 rfl rfl rfl rfl rfl rfl rfl ⟨rfl, rfl, rfl, rfl, rfl⟩ rfl rfl rfl rfl rfl (by kernel_rfl) Tryz.func4 (by kernel_rfl)
    (of_decide_eq_true (by kernel_rfl)) (by unfold Func.isWrapper; first | (rw [if_pos (by decide +kernel)]; kernel_rfl) | (rw [if_neg (by decide +kernel)]; exact ⟨rfl, rfl⟩))
    (fun os started H enc _ => stateOrder_lifted os started H enc)
#print axioms stateOrder_holds
end Go.Proofs.YtjbipegbpeefkaaGreat
