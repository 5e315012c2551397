/- The memory with which the law's run begins. -/
import Derived.Test.YtlmohlgbodljmaaGreatDoorKP
set_option linter.unusedVariables false
set_option linter.unusedSimpArgs false
namespace Go.Kev.Tryz
noncomputable section
def g3 (u : Nat → Nat) : Row := ⟨[.int .u64 (.ofNat 1), .int .u64 (.ofNat 10), .int .u64 (.ofNat 100), .int .u64 (.ofNat 1000), .int .u64 (.ofNat 10000), .int .u64 (.ofNat 100000), .int .u64 (.ofNat 1000000), .int .u64 (.ofNat 10000000), .int .u64 (.ofNat 100000000), .int .u64 (.ofNat 1000000000), .int .u64 (.ofNat 10000000000), .int .u64 (.ofNat 100000000000), .int .u64 (.ofNat 1000000000000), .int .u64 (.ofNat 10000000000000), .int .u64 (.ofNat 100000000000000), .int .u64 (.ofNat 1000000000000000), .int .u64 (.ofNat 10000000000000000), .int .u64 (.ofNat 100000000000000000), .int .u64 (.ofNat 1000000000000000000), .int .u64 (.ofNat 10000000000000000000)], 20, true, 20, (u 103), 0, 0, true⟩
def g4 (u : Nat → Nat) : Row := ⟨[.ifc (u 4) (.ptr 8 0)], 1, true, 1, (u 104), 0, 0, true⟩
def h0 (u : Nat → Nat) : T Ob := (.n (.n (.n .l (some (.row (g3 u))) .l) none .l) none (.n (.n .l (some (.row (g4 u))) .l) none .l))
def s0 (u : Nat → Nat) : S := ⟨h0 u, 10, []⟩
end
end Go.Kev.Tryz
