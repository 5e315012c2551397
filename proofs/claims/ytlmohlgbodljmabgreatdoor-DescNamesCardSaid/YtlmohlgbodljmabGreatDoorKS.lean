/- The memory with which the law's run begins. -/
import Derived.Test.YtlmohlgbodljmabGreatDoorKP
set_option linter.unusedVariables false
set_option linter.unusedSimpArgs false
namespace Go.Kev.Tryz
noncomputable section
def g6 (u : Nat → Nat) : Row := ⟨[.int .u64 (.ofNat 1), .int .u64 (.ofNat 10), .int .u64 (.ofNat 100), .int .u64 (.ofNat 1000), .int .u64 (.ofNat 10000), .int .u64 (.ofNat 100000), .int .u64 (.ofNat 1000000), .int .u64 (.ofNat 10000000), .int .u64 (.ofNat 100000000), .int .u64 (.ofNat 1000000000), .int .u64 (.ofNat 10000000000), .int .u64 (.ofNat 100000000000), .int .u64 (.ofNat 1000000000000), .int .u64 (.ofNat 10000000000000), .int .u64 (.ofNat 100000000000000), .int .u64 (.ofNat 1000000000000000), .int .u64 (.ofNat 10000000000000000), .int .u64 (.ofNat 100000000000000000), .int .u64 (.ofNat 1000000000000000000), .int .u64 (.ofNat 10000000000000000000)], 20, true, 20, (u 106), 0, 0, true⟩
def h0 (u : Nat → Nat) : T Ob := (.n .l none (.n .l none (.n .l (some (.row (g6 u))) .l)))
def s0 (u : Nat → Nat) : S := ⟨h0 u, 11, []⟩
end
end Go.Kev.Tryz
