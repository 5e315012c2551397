/- A closed function of the program, run by the kernel. -/
import Derived.Test.YtloboklomhlkhaaGreatDoorKL
import Derived.Test.YtloboklomhlkhaaGreatDoorKD
set_option linter.unusedVariables false
set_option linter.unusedSimpArgs false
/- awake, run by the kernel. -/
namespace Go.Kev.Tryz
open Go.RowKit Go.Proofs
set_option maxRecDepth 100000
theorem run_Aw : Option.map (fun p : Env × S => p.1.getP .h) (callN fns 2999 0 8 [] ⟨.l, 9, []⟩ fun v s => some (.n .l (some v) .l, s)) = some (some (.bool true)) := by kernel_rfl
/-- awake's call ends with true, in every world. -/
theorem Aw_calls (W : World) : Calls Tryz.prog 8 #[] W fun e W' => e = .returned (.bool true) ∧ Below W.heap.size W W' :=
  closed_calls fnsOk at8 (by kernel_rfl) (show Tryz.f8.body = some _ from rfl) run_Aw (fun _ => rfl) W
end Go.Kev.Tryz
