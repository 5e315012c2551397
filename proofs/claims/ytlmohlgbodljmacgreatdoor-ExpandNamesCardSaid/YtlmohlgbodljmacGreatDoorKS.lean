/- The memory with which the law's run begins. -/
import Derived.Test.YtlmohlgbodljmacGreatDoorKP
set_option linter.unusedVariables false
set_option linter.unusedSimpArgs false
namespace Go.Kev.Tryz
noncomputable section
def h0 (u : Nat → Nat) : T Ob := .l
def s0 (u : Nat → Nat) : S := ⟨h0 u, 11, []⟩
end
end Go.Kev.Tryz
