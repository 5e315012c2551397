/- Plain lemmas on bytes, words and rounds. -/
import Derived.Test.YtloboklomhlkhaaGreatDoorDx3
namespace Go.Proofs.YtloboklomhlkhaaGreatDoor.Pure
open Go.RowKit Go.Proofs.YtloboklomhlkhaaGreatDoor.D Go.Proofs.YtloboklomhlkhaaGreatDoorW.PrintWords Go.Proofs.YtloboklomhlkhaaGreatDoorW.PrintLast

theorem wr (n d : Nat) (h : n + d < 4611686018427387904) : wrap64 ((n : Int) + (d : Int)) = ((n + d : Nat) : Int) := by
  unfold wrap64
  omega
theorem wr1 (n : Nat) (h : n < 4611686018427387903) : wrap64 ((n : Int) + 1) = ((n + 1 : Nat) : Int) := wr n 1 (by omega)

theorem bt_drop {s : ByteArray} {i : Nat} {c : Int} {r : List Int} (h : (bytesOf s).drop i = c :: r) : i < s.size ∧ bt s i = c ∧ (bytesOf s).drop (i + 1) = r := by
  have hlt : i < (bytesOf s).length := by
    by_cases hh : i < (bytesOf s).length
    · exact hh
    · rw [List.drop_eq_nil_of_le (by omega)] at h; cases h
  have hs : i < s.size := by rw [bytesOf_length] at hlt; exact hlt
  refine ⟨hs, ?_, ?_⟩
  · rw [bytes_drop s i hs] at h
    have := (List.cons.inj h).1
    rw [← this]
    simp [bt, hs]
  · rw [bytes_drop s i hs] at h
    exact (List.cons.inj h).2
end Go.Proofs.YtloboklomhlkhaaGreatDoor.Pure
