/- WordsSplit, without the program: both splittings are the same, before and behind the spoiling. -/
import Derived.Test.YtckfpbkckffjjaaDoorSpecB
namespace Go.Proofs.YtckfpbkckffjjaaDoor.Pure
open Go.RowKit Go.Proofs.YtckfpbkckffjjaaDoor.X Go.Proofs.YtckfpbkckffjjaaDoorW.PrintWords Go.Proofs.YtckfpbkckffjjaaDoorW.PrintLast

theorem spoilA (K : Nat) (a : ByteArray) (ys : List ByteArray) : ∀ (m i k : Nat) (xs : List ByteArray), xs.length - i ≤ m → i ≤ xs.length → xs.length ≤ 1000000 → K + m + 1 ≤ k → ∃ k', K ≤ k' ∧
    bastionlaw02_WordsSplit.l0 k a xs ys i = (words_Split.f k' a).bind fun b => (bastionref02_Same.f k' b.1 ys).bind fun t => if t = true then (bastionlaw02_awake.f k').bind fun t2 => some t2 else some false := by
  intro m
  induction m with
  | zero =>
    intro i k xs hm hi hx hk
    obtain ⟨k, rfl⟩ : ∃ k2, k = k2 + 1 := ⟨k - 1, by omega⟩
    refine ⟨k, by omega, ?_⟩
    simp only [bastionlaw02_WordsSplit.l0]
    rw [if_neg (by omega)]
  | succ m ih =>
    intro i k xs hm hi hx hk
    obtain ⟨k, rfl⟩ : ∃ k2, k = k2 + 1 := ⟨k - 1, by omega⟩
    simp only [bastionlaw02_WordsSplit.l0]
    by_cases hlt : i < xs.length
    case neg =>
      refine ⟨k, by omega, ?_⟩
      rw [if_neg (by omega)]
    rw [if_pos (by omega), if_pos (by omega), wr1 i (by omega)]
    exact ih (i + 1) k _ (by rw [List.length_set]; omega) (by rw [List.length_set]; omega) (by rw [List.length_set]; omega) (by omega)

theorem WordsSplit : bastionlaw02_WordsSplit.Pure := by
  intro a _
  by_cases hbig : (a.size : Int) > 5000
  · refine ⟨100, ?_⟩
    unfold bastionlaw02_WordsSplit.f
    rw [if_pos hbig, awakeAt 100 (Nat.le_refl _)]
    rfl
  obtain ⟨r, c, hr, hs⟩ := splitBoth a
  refine ⟨500000, ?_⟩
  unfold bastionlaw02_WordsSplit.f
  rw [if_neg hbig, (hs 500000 (by omega)).1, (hs 500000 (by omega)).2]
  simp only [Option.bind_some]
  rw [if_pos trivial, sameAll r 500000 (by omega) (by omega)]
  simp only [Option.bind_some]
  obtain ⟨k', hk', e⟩ := spoilA 400000 a r r.length 0 499999 r (by omega) (by omega) (by omega) (by omega)
  show bastionlaw02_WordsSplit.j0 (499999 + 1) a r r (!true) = some true
  simp only [bastionlaw02_WordsSplit.j0]
  rw [if_neg (by decide)]
  rw [show ((0 : Nat) : Int) = 0 from rfl] at e
  rw [e, (hs k' hk').1]
  simp only [Option.bind_some]
  rw [sameAll r k' (by omega) (by omega)]
  simp only [Option.bind_some]
  rw [if_pos trivial, awakeAt k' (by omega)]
  rfl
end Go.Proofs.YtckfpbkckffjjaaDoor.Pure
