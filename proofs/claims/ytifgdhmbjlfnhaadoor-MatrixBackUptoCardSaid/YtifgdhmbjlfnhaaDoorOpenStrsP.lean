/- A []string among the arguments: read as a row of strings, of so many bytes as the bulk allows. -/
import Derived.Test.YtifgdhmbjlfnhaaDoorBaseP
import Derived.Test.YtifgdhmbjlfnhaaDoorRows
import Derived.SliceStrings
import Derived.OpenShut
import Derived.ProofKit
namespace Go.Proofs.YtifgdhmbjlfnhaaDoor.Pure
open Go.RowKit Go.Proofs.YtifgdhmbjlfnhaaDoor.M Go.Proofs.YtifgdhmbjlfnhaaDoorW.PrintWords Go.Proofs.YtifgdhmbjlfnhaaDoorW.PrintLast
open Go.ChangeShapes Go.WideShapes Go.ChangeAt

theorem bulk_strs {H : Type} : ∀ zs : List ByteArray, Rows.uptoBulkAll (strs (H := H) zs) = tot zs
  | [] => by simp [strs, tot, Rows.uptoBulkAll]
  | z :: zs => by
    have ih := bulk_strs (H := H) zs
    have e : strs (H := H) (z :: zs) = .lit (.string z.data.toList) :: strs zs := rfl
    rw [e, Rows.uptoBulkAll, ih, tot_cons, Rows.uptoBulk, data_length]
theorem open_strs {H : Type} {enc : TypeId × Value → H} {P : Program} {W : World} {base : Nat} {spare : Nat → Bool} {held : Bool} {t e : TypeId} {fuel : Nat} {a : Option Addr} {len cap : Nat} {x : DataW H × List MemPlace}
    (ht : P.underlying t = some (.slice e)) (he : P.underlying e = some .string) (hc : P.cellsOf e = 1) (h : DataW.trod enc P W base spare held fuel t [.slice a len cap] = some x) :
    ∃ zs : List ByteArray, zs.length = len ∧ len ≤ cap ∧ Kd.C Kd.string W a zs.length zs ∧ tot zs ≤ Rows.uptoBulk x.1 := by
  rcases open_strings ht he hc h with ⟨hcs, hx⟩ | ⟨ad, l, c, ss, hcs, _, hl, hm, hz, hx, hcell, _⟩
  · obtain ⟨rfl, rfl, rfl⟩ : a = none ∧ len = 0 ∧ cap = 0 := by simpa using hcs
    refine ⟨[], rfl, Nat.le_refl _, Kd.C_of_reads (d := ByteArray.empty) ⟨rfl, by simp, fun h => absurd h (by simp)⟩, by simp [tot]⟩
  · obtain ⟨rfl, rfl, rfl⟩ : a = some ad ∧ len = l ∧ cap = c := by simpa using hcs
    have hlen : (ss.take len).length = len := by
      rw [List.length_take, hz]
      split <;> omega
    refine ⟨ss.take len, hlen, hl, ?_, ?_⟩
    · refine Kd.C_of_reads (d := ByteArray.empty) ⟨rfl, by rw [hlen]; unfold maxLen at hm; omega, fun _ => ⟨ad, rfl, fun j hj => ?_⟩⟩
      rw [hlen] at hj
      have hjs : j < ss.length := by
        rw [List.length_take] at hlen
        omega
      rw [hcell j hjs]
      congr 2
      rw [List.getD_eq_getElem?_getD, List.getD_eq_getElem?_getD, List.getElem?_take, if_pos hj]
    · rw [hx]
      simp only [Rows.uptoBulk, bulk_strs]
      omega
end Go.Proofs.YtifgdhmbjlfnhaaDoor.Pure
