/- The program makes worlds: the law's own sample, computed. No statement of the seat is proved here. -/
import Derived.Test.YtjbipegbpeefkaaGreatAq0
namespace Go.Ab
set_option maxRecDepth 100000
theorem c7 : M.pure 7 [] = some (.bool true) := (mach_pure_iff X0 7 [] _).2 ⟨60, by kernel_rfl⟩
def p7 : List C → Option C
  | [] => some (.bool true)
  | _ => none
theorem p7_ok (l : List C) (v : C) (h : p7 l = some v) : M.pure 7 l = some v := by
  unfold p7 at h
  split at h
  · cases h; exact c7
  · cases h
end Go.Ab
