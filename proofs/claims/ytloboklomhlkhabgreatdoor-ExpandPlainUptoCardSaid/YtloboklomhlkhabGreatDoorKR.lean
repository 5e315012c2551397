/- A closed function of the program, run by the kernel. -/
import Derived.Test.YtloboklomhlkhabGreatDoorKL
import Derived.Test.YtloboklomhlkhabGreatDoorKD
set_option linter.unusedVariables false
set_option linter.unusedSimpArgs false
/- bastion/bastionlaw13.works, run by the kernel. -/
namespace Go.Kev.Tryz
open Go.RowKit Go.Proofs
set_option maxRecDepth 100000
theorem run_Wk : Option.map (fun p : Env × S => p.1.getP .h) (callN fns 2999 0 4 [] ⟨.l, 9, []⟩ fun v s => some (.n .l (some v) .l, s)) = some (some (.bool true)) := by kernel_rfl
/-- The call ends with true, in every world. -/
theorem Wk_calls (W : World) : Calls Tryz.prog 4 #[] W fun e W' => e = .returned (.bool true) ∧ Below W.heap.size W W' :=
  closed_calls fnsOk at4 (by kernel_rfl) (show Tryz.f4.body = some _ from rfl) run_Wk (fun _ => rfl) W
end Go.Kev.Tryz
