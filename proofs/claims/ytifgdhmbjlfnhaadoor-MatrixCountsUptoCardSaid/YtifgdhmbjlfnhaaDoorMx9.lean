-- Written by wip/xprint.py: the kit's print with functions proved by hand in their places. Not trusted: Lean checks it.
import Derived.Test.YtifgdhmbjlfnhaaDoorMx0
import Derived.Test.YtifgdhmbjlfnhaaDoorMx2
import Derived.Test.YtifgdhmbjlfnhaaDoorMx3
import Derived.Test.YtifgdhmbjlfnhaaDoorMx5
import Derived.Test.YtifgdhmbjlfnhaaDoorMx6
namespace Go.Proofs.YtifgdhmbjlfnhaaDoor.M
open Go.RowKit Go.Proofs.YtifgdhmbjlfnhaaDoorW.PrintWords Go.Proofs.YtifgdhmbjlfnhaaDoorW.PrintLast Go.Proofs.YtifgdhmbjlfnhaaDoorW.PrintMore
attribute [local go_sem] max2_int min2_int max_two min_two max_three min_three max_four min_four   -- for this text's walks alone
set_option linter.unusedVariables false
set_option linter.unusedSimpArgs false

/-! ### bastionlaw14_MatrixCounts: function 4 -/
mutual
def bastionlaw14_MatrixCounts.j0 : Nat → List (S42) → ByteArray → Bool → Option (Bool)
  | 0, _, _, _ => none
  | k + 1, x0, x1, x24 => if x24 = true then ((bastionlaw14_awake.f k).bind fun t209 => (some t209)) else ((bastionlaw14_given.f k x0).bind fun t210 => ((matrix_Rows.f t210).bind fun bt213 => (if bt213.2 = 0 then (bastionlaw14_MatrixCounts.l0 k x0 x1 bt213.1 1 true 0) else (some ((bt213.1.length : Int) == 0)))))
def bastionlaw14_MatrixCounts.l0 : Nat → List (S42) → ByteArray → List (List ByteArray) → Int → Bool → Int → Option (Bool)
  | 0, _, _, _, _, _, _ => none
  | k + 1, x0, x1, x5, x7, x8, x9 => if x9 < (x0.length : Int) then (if 0 ≤ x9 then (bastionlaw14_MatrixCounts.l1 k x0 x1 x5 (wrap64 (x7 * (((rd_T42 x0 x9).f1).length : Int))) x8 x9 0) else (none)) else (if (x5.length : Int) = x7 then (bastionlaw14_MatrixCounts.l3 k x0 x1 x5 x8 0) else (some false))
def bastionlaw14_MatrixCounts.l1 : Nat → List (S42) → ByteArray → List (List ByteArray) → Int → Bool → Int → Int → Option (Bool)
  | 0, _, _, _, _, _, _, _ => none
  | k + 1, x0, x1, x5, x7, x8, x9, x10 => if 0 ≤ x9 then (if x9 < (x0.length : Int) then (if x10 < (((rd_T42 x0 x9).f1).length : Int) then (bastionlaw14_MatrixCounts.l2 k x0 x1 x5 x7 x8 x9 x10 0) else (bastionlaw14_MatrixCounts.l0 k x0 x1 x5 x7 x8 (wrap64 (x9 + 1)))) else (none)) else (none)
def bastionlaw14_MatrixCounts.l2 : Nat → List (S42) → ByteArray → List (List ByteArray) → Int → Bool → Int → Int → Int → Option (Bool)
  | 0, _, _, _, _, _, _, _, _ => none
  | k + 1, x0, x1, x5, x7, x8, x9, x10, x11 => if x11 < x10 then (if x8 = true then (if 0 ≤ x9 then (if x9 < (x0.length : Int) then (if 0 ≤ x11 then (if x11 < (((rd_T42 x0 x9).f1).length : Int) then (if 0 ≤ x10 then (if x10 < (((rd_T42 x0 x9).f1).length : Int) then (bastionlaw14_MatrixCounts.l2 k x0 x1 x5 x7 ((rdOf ByteArray.empty ((rd_T42 x0 x9).f1) x11).toList != (rdOf ByteArray.empty ((rd_T42 x0 x9).f1) x10).toList) x9 x10 (wrap64 (x11 + 1))) else (none)) else (none)) else (none)) else (none)) else (none)) else (none)) else (bastionlaw14_MatrixCounts.l2 k x0 x1 x5 x7 false x9 x10 (wrap64 (x11 + 1)))) else (bastionlaw14_MatrixCounts.l1 k x0 x1 x5 x7 x8 x9 (wrap64 (x10 + 1)))
def bastionlaw14_MatrixCounts.l3 : Nat → List (S42) → ByteArray → List (List ByteArray) → Bool → Int → Option (Bool)
  | 0, _, _, _, _, _ => none
  | k + 1, x0, x1, x5, x8, x12 => if x12 < (x5.length : Int) then (if 0 ≤ x12 then (if ((rd_L1 x5 x12).length : Int) = (x0.length : Int) then (bastionlaw14_MatrixCounts.l4 k x0 x1 x5 x8 x12 0) else (some false)) else (none)) else (some true)
def bastionlaw14_MatrixCounts.l4 : Nat → List (S42) → ByteArray → List (List ByteArray) → Bool → Int → Int → Option (Bool)
  | 0, _, _, _, _, _, _ => none
  | k + 1, x0, x1, x5, x8, x12, x13 => if x13 < x12 then (bastionlaw14_MatrixCounts.j6 k x0 x1 x5 x8 x12 x13 x8) else (bastionlaw14_MatrixCounts.j6 k x0 x1 x5 x8 x12 x13 false)
def bastionlaw14_MatrixCounts.j6 : Nat → List (S42) → ByteArray → List (List ByteArray) → Bool → Int → Int → Bool → Option (Bool)
  | 0, _, _, _, _, _, _, _ => none
  | k + 1, x0, x1, x5, x8, x12, x13, x109 => if x109 = true then (if 0 ≤ x12 then (if x12 < (x5.length : Int) then ((matrix_Label.f k x1 (rd_L1 x5 x12)).bind fun t225 => (if 0 ≤ x13 then (if x13 < (x5.length : Int) then ((matrix_Label.f k x1 (rd_L1 x5 x13)).bind fun t227 => (if t225.toList = t227.toList then (some false) else (bastionlaw14_MatrixCounts.l4 k x0 x1 x5 x8 x12 (wrap64 (x13 + 1))))) else (none)) else (none))) else (none)) else (none)) else (bastionlaw14_MatrixCounts.l3 k x0 x1 x5 x8 (wrap64 (x12 + 1)))
end
def bastionlaw14_MatrixCounts.f (k : Nat) (l0 : List (S42)) (a1 : ByteArray) : Option (Bool) := (bastionlaw14_large.f k l0).bind fun t207 => (if t207 = true then (bastionlaw14_MatrixCounts.j0 k l0 a1 true) else (if (a1.size : Int) > 300 then (bastionlaw14_MatrixCounts.j0 k l0 a1 true) else ((bastionlaw14_awake.f k).bind fun t208 => (bastionlaw14_MatrixCounts.j0 k l0 a1 (!t208)))))
theorem bastionlaw14_MatrixCounts.mono_l : ∀ k, (∀ y0 y1 y2, LeO (bastionlaw14_MatrixCounts.j0 k y0 y1 y2) (bastionlaw14_MatrixCounts.j0 (k + 1) y0 y1 y2)) ∧ (∀ y0 y1 y2 y3 y4 y5, LeO (bastionlaw14_MatrixCounts.l0 k y0 y1 y2 y3 y4 y5) (bastionlaw14_MatrixCounts.l0 (k + 1) y0 y1 y2 y3 y4 y5)) ∧ (∀ y0 y1 y2 y3 y4 y5 y6, LeO (bastionlaw14_MatrixCounts.l1 k y0 y1 y2 y3 y4 y5 y6) (bastionlaw14_MatrixCounts.l1 (k + 1) y0 y1 y2 y3 y4 y5 y6)) ∧ (∀ y0 y1 y2 y3 y4 y5 y6 y7, LeO (bastionlaw14_MatrixCounts.l2 k y0 y1 y2 y3 y4 y5 y6 y7) (bastionlaw14_MatrixCounts.l2 (k + 1) y0 y1 y2 y3 y4 y5 y6 y7)) ∧ (∀ y0 y1 y2 y3 y4, LeO (bastionlaw14_MatrixCounts.l3 k y0 y1 y2 y3 y4) (bastionlaw14_MatrixCounts.l3 (k + 1) y0 y1 y2 y3 y4)) ∧ (∀ y0 y1 y2 y3 y4 y5, LeO (bastionlaw14_MatrixCounts.l4 k y0 y1 y2 y3 y4 y5) (bastionlaw14_MatrixCounts.l4 (k + 1) y0 y1 y2 y3 y4 y5)) ∧ (∀ y0 y1 y2 y3 y4 y5 y6, LeO (bastionlaw14_MatrixCounts.j6 k y0 y1 y2 y3 y4 y5 y6) (bastionlaw14_MatrixCounts.j6 (k + 1) y0 y1 y2 y3 y4 y5 y6))
  | 0 => ⟨fun _ _ _ r h => by simp [bastionlaw14_MatrixCounts.j0] at h, fun _ _ _ _ _ _ r h => by simp [bastionlaw14_MatrixCounts.l0] at h, fun _ _ _ _ _ _ _ r h => by simp [bastionlaw14_MatrixCounts.l1] at h, fun _ _ _ _ _ _ _ _ r h => by simp [bastionlaw14_MatrixCounts.l2] at h, fun _ _ _ _ _ r h => by simp [bastionlaw14_MatrixCounts.l3] at h, fun _ _ _ _ _ _ r h => by simp [bastionlaw14_MatrixCounts.l4] at h, fun _ _ _ _ _ _ _ r h => by simp [bastionlaw14_MatrixCounts.j6] at h⟩
  | k + 1 => by
    obtain ⟨ih0, ih1, ih2, ih3, ih4, ih5, ih6⟩ := bastionlaw14_MatrixCounts.mono_l k
    refine ⟨?_, ?_, ?_, ?_, ?_, ?_, ?_⟩
    · intro y0 y1 y2
      unfold bastionlaw14_MatrixCounts.j0
      repeat' first
      | (with_reducible exact ih0 _ _ _)
      | (with_reducible exact ih1 _ _ _ _ _ _)
      | (with_reducible exact ih2 _ _ _ _ _ _ _)
      | (with_reducible exact ih3 _ _ _ _ _ _ _ _)
      | (with_reducible exact ih4 _ _ _ _ _)
      | (with_reducible exact ih5 _ _ _ _ _ _)
      | (with_reducible exact ih6 _ _ _ _ _ _ _)
      | (with_reducible exact bastionlaw14_awake.mono _)
      | (with_reducible exact bastionlaw14_given.mono _ _)
      | (with_reducible exact bastionlaw14_large.mono _ _)
      | (with_reducible exact matrix_Label.mono _ _ _)
      | (with_reducible exact LeO.refl _)
      | (with_reducible exact LeO.none _)
      | (with_reducible refine LeO.ite ?_ ?_)
      | (with_reducible refine LeO.bind ?_ (fun _ => ?_))
      | exact ih0 _ _ _
      | exact ih1 _ _ _ _ _ _
      | exact ih2 _ _ _ _ _ _ _
      | exact ih3 _ _ _ _ _ _ _ _
      | exact ih4 _ _ _ _ _
      | exact ih5 _ _ _ _ _ _
      | exact ih6 _ _ _ _ _ _ _
      | exact bastionlaw14_awake.mono _
      | exact bastionlaw14_given.mono _ _
      | exact bastionlaw14_large.mono _ _
      | exact matrix_Label.mono _ _ _
      | exact LeO.none _
      | refine LeO.ite ?_ ?_
      | refine LeO.bind ?_ (fun _ => ?_)
    · intro y0 y1 y2 y3 y4 y5
      unfold bastionlaw14_MatrixCounts.l0
      repeat' first
      | (with_reducible exact ih0 _ _ _)
      | (with_reducible exact ih1 _ _ _ _ _ _)
      | (with_reducible exact ih2 _ _ _ _ _ _ _)
      | (with_reducible exact ih3 _ _ _ _ _ _ _ _)
      | (with_reducible exact ih4 _ _ _ _ _)
      | (with_reducible exact ih5 _ _ _ _ _ _)
      | (with_reducible exact ih6 _ _ _ _ _ _ _)
      | (with_reducible exact bastionlaw14_awake.mono _)
      | (with_reducible exact bastionlaw14_given.mono _ _)
      | (with_reducible exact bastionlaw14_large.mono _ _)
      | (with_reducible exact matrix_Label.mono _ _ _)
      | (with_reducible exact LeO.refl _)
      | (with_reducible exact LeO.none _)
      | (with_reducible refine LeO.ite ?_ ?_)
      | (with_reducible refine LeO.bind ?_ (fun _ => ?_))
      | exact ih0 _ _ _
      | exact ih1 _ _ _ _ _ _
      | exact ih2 _ _ _ _ _ _ _
      | exact ih3 _ _ _ _ _ _ _ _
      | exact ih4 _ _ _ _ _
      | exact ih5 _ _ _ _ _ _
      | exact ih6 _ _ _ _ _ _ _
      | exact bastionlaw14_awake.mono _
      | exact bastionlaw14_given.mono _ _
      | exact bastionlaw14_large.mono _ _
      | exact matrix_Label.mono _ _ _
      | exact LeO.none _
      | refine LeO.ite ?_ ?_
      | refine LeO.bind ?_ (fun _ => ?_)
    · intro y0 y1 y2 y3 y4 y5 y6
      unfold bastionlaw14_MatrixCounts.l1
      repeat' first
      | (with_reducible exact ih0 _ _ _)
      | (with_reducible exact ih1 _ _ _ _ _ _)
      | (with_reducible exact ih2 _ _ _ _ _ _ _)
      | (with_reducible exact ih3 _ _ _ _ _ _ _ _)
      | (with_reducible exact ih4 _ _ _ _ _)
      | (with_reducible exact ih5 _ _ _ _ _ _)
      | (with_reducible exact ih6 _ _ _ _ _ _ _)
      | (with_reducible exact bastionlaw14_awake.mono _)
      | (with_reducible exact bastionlaw14_given.mono _ _)
      | (with_reducible exact bastionlaw14_large.mono _ _)
      | (with_reducible exact matrix_Label.mono _ _ _)
      | (with_reducible exact LeO.refl _)
      | (with_reducible exact LeO.none _)
      | (with_reducible refine LeO.ite ?_ ?_)
      | (with_reducible refine LeO.bind ?_ (fun _ => ?_))
      | exact ih0 _ _ _
      | exact ih1 _ _ _ _ _ _
      | exact ih2 _ _ _ _ _ _ _
      | exact ih3 _ _ _ _ _ _ _ _
      | exact ih4 _ _ _ _ _
      | exact ih5 _ _ _ _ _ _
      | exact ih6 _ _ _ _ _ _ _
      | exact bastionlaw14_awake.mono _
      | exact bastionlaw14_given.mono _ _
      | exact bastionlaw14_large.mono _ _
      | exact matrix_Label.mono _ _ _
      | exact LeO.none _
      | refine LeO.ite ?_ ?_
      | refine LeO.bind ?_ (fun _ => ?_)
    · intro y0 y1 y2 y3 y4 y5 y6 y7
      unfold bastionlaw14_MatrixCounts.l2
      repeat' first
      | (with_reducible exact ih0 _ _ _)
      | (with_reducible exact ih1 _ _ _ _ _ _)
      | (with_reducible exact ih2 _ _ _ _ _ _ _)
      | (with_reducible exact ih3 _ _ _ _ _ _ _ _)
      | (with_reducible exact ih4 _ _ _ _ _)
      | (with_reducible exact ih5 _ _ _ _ _ _)
      | (with_reducible exact ih6 _ _ _ _ _ _ _)
      | (with_reducible exact bastionlaw14_awake.mono _)
      | (with_reducible exact bastionlaw14_given.mono _ _)
      | (with_reducible exact bastionlaw14_large.mono _ _)
      | (with_reducible exact matrix_Label.mono _ _ _)
      | (with_reducible exact LeO.refl _)
      | (with_reducible exact LeO.none _)
      | (with_reducible refine LeO.ite ?_ ?_)
      | (with_reducible refine LeO.bind ?_ (fun _ => ?_))
      | exact ih0 _ _ _
      | exact ih1 _ _ _ _ _ _
      | exact ih2 _ _ _ _ _ _ _
      | exact ih3 _ _ _ _ _ _ _ _
      | exact ih4 _ _ _ _ _
      | exact ih5 _ _ _ _ _ _
      | exact ih6 _ _ _ _ _ _ _
      | exact bastionlaw14_awake.mono _
      | exact bastionlaw14_given.mono _ _
      | exact bastionlaw14_large.mono _ _
      | exact matrix_Label.mono _ _ _
      | exact LeO.none _
      | refine LeO.ite ?_ ?_
      | refine LeO.bind ?_ (fun _ => ?_)
    · intro y0 y1 y2 y3 y4
      unfold bastionlaw14_MatrixCounts.l3
      repeat' first
      | (with_reducible exact ih0 _ _ _)
      | (with_reducible exact ih1 _ _ _ _ _ _)
      | (with_reducible exact ih2 _ _ _ _ _ _ _)
      | (with_reducible exact ih3 _ _ _ _ _ _ _ _)
      | (with_reducible exact ih4 _ _ _ _ _)
      | (with_reducible exact ih5 _ _ _ _ _ _)
      | (with_reducible exact ih6 _ _ _ _ _ _ _)
      | (with_reducible exact bastionlaw14_awake.mono _)
      | (with_reducible exact bastionlaw14_given.mono _ _)
      | (with_reducible exact bastionlaw14_large.mono _ _)
      | (with_reducible exact matrix_Label.mono _ _ _)
      | (with_reducible exact LeO.refl _)
      | (with_reducible exact LeO.none _)
      | (with_reducible refine LeO.ite ?_ ?_)
      | (with_reducible refine LeO.bind ?_ (fun _ => ?_))
      | exact ih0 _ _ _
      | exact ih1 _ _ _ _ _ _
      | exact ih2 _ _ _ _ _ _ _
      | exact ih3 _ _ _ _ _ _ _ _
      | exact ih4 _ _ _ _ _
      | exact ih5 _ _ _ _ _ _
      | exact ih6 _ _ _ _ _ _ _
      | exact bastionlaw14_awake.mono _
      | exact bastionlaw14_given.mono _ _
      | exact bastionlaw14_large.mono _ _
      | exact matrix_Label.mono _ _ _
      | exact LeO.none _
      | refine LeO.ite ?_ ?_
      | refine LeO.bind ?_ (fun _ => ?_)
    · intro y0 y1 y2 y3 y4 y5
      unfold bastionlaw14_MatrixCounts.l4
      repeat' first
      | (with_reducible exact ih0 _ _ _)
      | (with_reducible exact ih1 _ _ _ _ _ _)
      | (with_reducible exact ih2 _ _ _ _ _ _ _)
      | (with_reducible exact ih3 _ _ _ _ _ _ _ _)
      | (with_reducible exact ih4 _ _ _ _ _)
      | (with_reducible exact ih5 _ _ _ _ _ _)
      | (with_reducible exact ih6 _ _ _ _ _ _ _)
      | (with_reducible exact bastionlaw14_awake.mono _)
      | (with_reducible exact bastionlaw14_given.mono _ _)
      | (with_reducible exact bastionlaw14_large.mono _ _)
      | (with_reducible exact matrix_Label.mono _ _ _)
      | (with_reducible exact LeO.refl _)
      | (with_reducible exact LeO.none _)
      | (with_reducible refine LeO.ite ?_ ?_)
      | (with_reducible refine LeO.bind ?_ (fun _ => ?_))
      | exact ih0 _ _ _
      | exact ih1 _ _ _ _ _ _
      | exact ih2 _ _ _ _ _ _ _
      | exact ih3 _ _ _ _ _ _ _ _
      | exact ih4 _ _ _ _ _
      | exact ih5 _ _ _ _ _ _
      | exact ih6 _ _ _ _ _ _ _
      | exact bastionlaw14_awake.mono _
      | exact bastionlaw14_given.mono _ _
      | exact bastionlaw14_large.mono _ _
      | exact matrix_Label.mono _ _ _
      | exact LeO.none _
      | refine LeO.ite ?_ ?_
      | refine LeO.bind ?_ (fun _ => ?_)
    · intro y0 y1 y2 y3 y4 y5 y6
      unfold bastionlaw14_MatrixCounts.j6
      repeat' first
      | (with_reducible exact ih0 _ _ _)
      | (with_reducible exact ih1 _ _ _ _ _ _)
      | (with_reducible exact ih2 _ _ _ _ _ _ _)
      | (with_reducible exact ih3 _ _ _ _ _ _ _ _)
      | (with_reducible exact ih4 _ _ _ _ _)
      | (with_reducible exact ih5 _ _ _ _ _ _)
      | (with_reducible exact ih6 _ _ _ _ _ _ _)
      | (with_reducible exact bastionlaw14_awake.mono _)
      | (with_reducible exact bastionlaw14_given.mono _ _)
      | (with_reducible exact bastionlaw14_large.mono _ _)
      | (with_reducible exact matrix_Label.mono _ _ _)
      | (with_reducible exact LeO.refl _)
      | (with_reducible exact LeO.none _)
      | (with_reducible refine LeO.ite ?_ ?_)
      | (with_reducible refine LeO.bind ?_ (fun _ => ?_))
      | exact ih0 _ _ _
      | exact ih1 _ _ _ _ _ _
      | exact ih2 _ _ _ _ _ _ _
      | exact ih3 _ _ _ _ _ _ _ _
      | exact ih4 _ _ _ _ _
      | exact ih5 _ _ _ _ _ _
      | exact ih6 _ _ _ _ _ _ _
      | exact bastionlaw14_awake.mono _
      | exact bastionlaw14_given.mono _ _
      | exact bastionlaw14_large.mono _ _
      | exact matrix_Label.mono _ _ _
      | exact LeO.none _
      | refine LeO.ite ?_ ?_
      | refine LeO.bind ?_ (fun _ => ?_)
theorem bastionlaw14_MatrixCounts.mono : ∀ a0 a1 k, LeO (bastionlaw14_MatrixCounts.f k a0 a1) (bastionlaw14_MatrixCounts.f (k + 1) a0 a1) := by
  intro a0 a1 k
  obtain ⟨ih0, ih1, ih2, ih3, ih4, ih5, ih6⟩ := bastionlaw14_MatrixCounts.mono_l k
  unfold bastionlaw14_MatrixCounts.f
  repeat' first
      | (with_reducible exact ih0 _ _ _)
      | (with_reducible exact ih1 _ _ _ _ _ _)
      | (with_reducible exact ih2 _ _ _ _ _ _ _)
      | (with_reducible exact ih3 _ _ _ _ _ _ _ _)
      | (with_reducible exact ih4 _ _ _ _ _)
      | (with_reducible exact ih5 _ _ _ _ _ _)
      | (with_reducible exact ih6 _ _ _ _ _ _ _)
      | (with_reducible exact bastionlaw14_awake.mono _)
      | (with_reducible exact bastionlaw14_given.mono _ _)
      | (with_reducible exact bastionlaw14_large.mono _ _)
      | (with_reducible exact matrix_Label.mono _ _ _)
      | (with_reducible exact LeO.refl _)
      | (with_reducible exact LeO.none _)
      | (with_reducible refine LeO.ite ?_ ?_)
      | (with_reducible refine LeO.bind ?_ (fun _ => ?_))
      | exact ih0 _ _ _
      | exact ih1 _ _ _ _ _ _
      | exact ih2 _ _ _ _ _ _ _
      | exact ih3 _ _ _ _ _ _ _ _
      | exact ih4 _ _ _ _ _
      | exact ih5 _ _ _ _ _ _
      | exact ih6 _ _ _ _ _ _ _
      | exact bastionlaw14_awake.mono _
      | exact bastionlaw14_given.mono _ _
      | exact bastionlaw14_large.mono _ _
      | exact matrix_Label.mono _ _ _
      | exact LeO.none _
      | refine LeO.ite ?_ ?_
      | refine LeO.bind ?_ (fun _ => ?_)
def bastionlaw14_MatrixCounts.T18 : Bool × List (List Nat × List Nat) := (true, [([], []), ([0], [0]), ([1], [1]), ([1], [1]), ([2, 3, 1], [1, 2, 3]), ([4, 1], [1, 4]), ([5, 1], [1, 5]), ([1], [1]), ([6, 7, 1], [1, 6, 7]), ([8, 1], [1, 8]), ([1], [1]), ([1], [1]), ([10, 11, 1], [1, 10, 11]), ([12, 1], [1, 12]), ([13, 1], [1, 13]), ([1], [1]), ([14, 15, 1], [1, 14, 15]), ([16, 1], [1, 16]), ([9, 17, 1], [1, 9, 17]), ([1, 18], [1, 18]), ([19, 1, 0, 1, 2, 3, 4, 5, 6, 7, 8, 9, 10, 11, 12, 13, 14, 15, 16, 17, 18, 19], [0, 19])])
def bastionlaw14_MatrixCounts.B18 : List Nat := [0, 1, 3, 3, 15, 31, 63, 3, 255, 511, 3, 3, 3075, 7171, 15363, 3, 64515, 130051, 262143, 524287, 1048575]
theorem bastionlaw14_MatrixCounts.tab18 : rtab .any (opsOf Tryd.f4 18) = bastionlaw14_MatrixCounts.T18 := by kernel_rfl
theorem bastionlaw14_MatrixCounts.bits18 : waitsOk bastionlaw14_MatrixCounts.T18.2 bastionlaw14_MatrixCounts.B18 = true := by kernel_rfl
def bastionlaw14_MatrixCounts.T29 : Bool × List (List Nat × List Nat) := (true, [([], []), ([], []), ([], []), ([1, 2], [1, 2]), ([3], [3]), ([0, 4], [0, 4]), ([], []), ([], []), ([], []), ([7, 8], [7, 8]), ([9], [9]), ([6, 10, 5], [6, 10]), ([5, 11], [5, 11])])
def bastionlaw14_MatrixCounts.B29 : List Nat := [0, 0, 0, 6, 14, 31, 0, 0, 0, 384, 896, 2047, 4095]
theorem bastionlaw14_MatrixCounts.tab29 : rtab .any (opsOf Tryd.f4 29) = bastionlaw14_MatrixCounts.T29 := by kernel_rfl
theorem bastionlaw14_MatrixCounts.bits29 : waitsOk bastionlaw14_MatrixCounts.T29.2 bastionlaw14_MatrixCounts.B29 = true := by kernel_rfl
set_option maxHeartbeats 8000000 in
set_option maxRecDepth 100000 in
theorem bastionlaw14_MatrixCounts.calls (k : Nat) (A0 : Option Addr) (c0 : Nat) (l0 : List (S42)) (a1 : ByteArray) (r : Bool) (w : World) (hr0 : Kd.C k42 w A0 l0.length l0) (hc0 : l0.length ≤ c0) (h : bastionlaw14_MatrixCounts.f k l0 a1 = some r) :
    Calls Tryd.prog 4 #[.slice A0 l0.length c0, .string a1] w fun e w' => e = .returned (.bool r) ∧ Below w.heap.size w w' := by
  have HR0 := Aside0.mk hr0
  have HC0 := Aside0.mk hc0
  clear hr0 hc0
  have HB := Aside0.mk (Below.refl w.heap.size w)
  have H : ((bastionlaw14_large.f k l0).bind fun t207 => (if t207 = true then (bastionlaw14_MatrixCounts.j0 k l0 a1 true) else (if (a1.size : Int) > 300 then (bastionlaw14_MatrixCounts.j0 k l0 a1 true) else ((bastionlaw14_awake.f k).bind fun t208 => (bastionlaw14_MatrixCounts.j0 k l0 a1 (!t208)))))) = some r := h
  clear h
  have HC3 := Aside0.mk H
  clear H
  go_enter Tryd.func4, Tryd.ntmps4
  go_upto_region 1 with (fail)
  go_cut [24] (fun v24 wc => ∃ (kq : Nat) (x24_2 : Bool), v24 = .bool x24_2 ∧ Aside0 (bastionlaw14_MatrixCounts.j0 kq l0 a1 x24_2 = some r) ∧ Aside0 (kq ≤ k) ∧ Aside0 (Below w.heap.size w wc))
  case first =>
    have H := HC3.out
    clear HC3
    replace H := Option.bind_eq_some_iff.mp H
    obtain ⟨t207, A40, H⟩ := H
    replace H : (if t207 = true then (bastionlaw14_MatrixCounts.j0 k l0 a1 true) else (if (a1.size : Int) > 300 then (bastionlaw14_MatrixCounts.j0 k l0 a1 true) else ((bastionlaw14_awake.f k).bind fun t208 => (bastionlaw14_MatrixCounts.j0 k l0 a1 (!t208))))) = some r := H
    have A4 := Aside0.mk A40
    clear A40
    by_cases c5 : t207 = true
    · subst c5
      have H1 : (bastionlaw14_MatrixCounts.j0 k l0 a1 true) = some r := by rw [if_pos rfl] at H; exact H
      clear H
      have H := H1
      clear H1
      have H' := Aside0.mk H
      clear H
      go_wp2_with (first | ((with_reducible refine gate_callee (f := 8) rfl ?_); refine goesL_ (some 15) rfl rfl Tryd.func8 (by kernel_rfl) rfl #[.slice A0 l0.length c0] rfl (by (try simp only [List.map_toArray, List.map_cons, List.map_nil]); first | done | rfl | (simp only [List.length_drop, List.length_take]; rfl)) ?_; (with_reducible refine (bastionlaw14_large.calls k _ _ l0 true _ ?side1 ?side2 A4.out).mono ?_); (case side1 => repeat (first | exact (Kd.C_below HR0.out HB.out) | (with_reducible refine Kd.C_alloc ?_ _) | (with_reducible refine Kd.C_drewN ?_ _) | (with_reducible refine Kd.C_drew ?_))); (case side2 => exact HC0.out); rintro e w' ⟨rfl, ⟨nd, rfl⟩⟩; refine ⟨_, rfl, ?_⟩))
      go_meet
      case rel => exact ⟨_, (true), (by first | rfl | (simp; done) | (simp [*]; done)), H', ⟨by first | omega | exact Nat.le_refl _⟩, ⟨by repeat (first | (with_reducible first | exact HB.out | apply below_alloc | apply pw_below_drewN | apply below_drew1) | exact HB.out)⟩⟩
    · replace c5 := Bool.eq_false_iff.mpr c5
      subst c5
      have H1 : (if (a1.size : Int) > 300 then (bastionlaw14_MatrixCounts.j0 k l0 a1 true) else ((bastionlaw14_awake.f k).bind fun t208 => (bastionlaw14_MatrixCounts.j0 k l0 a1 (!t208)))) = some r := by rw [if_neg (show ¬ (false = true) by decide)] at H; exact H
      clear H
      have H := H1
      clear H1
      by_cases c6 : (a1.size : Int) > 300
      · rw [if_pos c6] at H
        have c6b0 : decide (300 < (a1.size : Int)) = true := decide_eq_true c6
        have c6b1 : decide (300 < a1.size) = true := decide_eq_true (by omega)
        clear c6
        (first | rw [c6b0] | (simp only [i64_w, i32_w]; rw [c6b0]) | skip)
        have H' := Aside0.mk H
        clear H
        go_wp2_with (first | ((with_reducible refine gate_callee (f := 8) rfl ?_); refine goesL_ (some 15) rfl rfl Tryd.func8 (by kernel_rfl) rfl #[.slice A0 l0.length c0] rfl (by (try simp only [List.map_toArray, List.map_cons, List.map_nil]); first | done | rfl | (simp only [List.length_drop, List.length_take]; rfl)) ?_; (with_reducible refine (bastionlaw14_large.calls k _ _ l0 false _ ?side1 ?side2 A4.out).mono ?_); (case side1 => repeat (first | exact (Kd.C_below HR0.out HB.out) | (with_reducible refine Kd.C_alloc ?_ _) | (with_reducible refine Kd.C_drewN ?_ _) | (with_reducible refine Kd.C_drew ?_))); (case side2 => exact HC0.out); rintro e w' ⟨rfl, ⟨nd, rfl⟩⟩; refine ⟨_, rfl, ?_⟩))
        go_meet
        case rel => exact ⟨_, (true), (by first | rfl | (simp; done) | (simp [*]; done)), H', ⟨by first | omega | exact Nat.le_refl _⟩, ⟨by repeat (first | (with_reducible first | exact HB.out | apply below_alloc | apply pw_below_drewN | apply below_drew1) | exact HB.out)⟩⟩
      · rw [if_neg c6] at H
        have c6b0 : decide (300 < (a1.size : Int)) = false := decide_eq_false c6
        have c6b1 : decide (300 < a1.size) = false := decide_eq_false (by omega)
        clear c6
        (first | rw [c6b0] | (simp only [i64_w, i32_w]; rw [c6b0]) | skip)
        replace H := Option.bind_eq_some_iff.mp H
        obtain ⟨t208, A70, H⟩ := H
        replace H : (bastionlaw14_MatrixCounts.j0 k l0 a1 (!t208)) = some r := H
        have A7 := Aside0.mk A70
        clear A70
        have H' := Aside0.mk H
        clear H
        go_wp2_with (first | ((with_reducible refine gate_callee (f := 8) rfl ?_); refine goesL_ (some 15) rfl rfl Tryd.func8 (by kernel_rfl) rfl #[.slice A0 l0.length c0] rfl (by (try simp only [List.map_toArray, List.map_cons, List.map_nil]); first | done | rfl | (simp only [List.length_drop, List.length_take]; rfl)) ?_; (with_reducible refine (bastionlaw14_large.calls k _ _ l0 false _ ?side1 ?side2 A4.out).mono ?_); (case side1 => repeat (first | exact (Kd.C_below HR0.out HB.out) | (with_reducible refine Kd.C_alloc ?_ _) | (with_reducible refine Kd.C_drewN ?_ _) | (with_reducible refine Kd.C_drew ?_))); (case side2 => exact HC0.out); rintro e w' ⟨rfl, ⟨nd, rfl⟩⟩; refine ⟨_, rfl, ?_⟩) | (go_at_call 10; (with_reducible refine (bastionlaw14_awake.calls k  t208 _ A7.out).mono ?_); rintro e w8 ⟨rfl, hb⟩; have n0_ := Aside0.mk (below_step (by repeat (first | (with_reducible first | exact HB.out | apply below_alloc | apply pw_below_drewN | apply below_drew1) | exact HB.out)) hb); clear HB; have HB := n0_; clear n0_; (try clear hb); (try clear hb2); (try clear hk); (try clear hi)))
        go_meet
        case rel => exact ⟨_, (!t208), (by first | rfl | (simp; done) | (simp [*]; done)), H', ⟨by first | omega | exact Nat.le_refl _⟩, ⟨by repeat (first | (with_reducible first | exact HB.out | apply below_alloc | apply pw_below_drewN | apply below_drew1) | exact HB.out)⟩⟩
  case rest =>
    clear HC3
    try clear p2
    try clear c4
    try clear c5
    try clear c6
    try clear c6b0
    try clear c6b1
    try clear c8
    obtain ⟨kq, x24_2, rfl, HA, HJ2, HB⟩ := hcut
    cases kq with
    | zero => exact absurd HA.out (by simp [bastionlaw14_MatrixCounts.j0])
    | succ kj2 =>
      have H := HA.out
      clear HA
      simp only [bastionlaw14_MatrixCounts.j0] at H
      by_cases c9 : x24_2 = true
      · subst c9
        have H1 : ((bastionlaw14_awake.f kj2).bind fun t209 => (some t209)) = some r := by rw [if_pos rfl] at H; exact H
        clear H
        have H := H1
        clear H1
        replace H := Option.bind_eq_some_iff.mp H
        obtain ⟨t209, A100, H⟩ := H
        replace H : (some t209) = some r := H
        have A10 := Aside0.mk A100
        clear A100
        obtain rfl := Option.some.inj H
        go_wp2_with (first | ((with_reducible refine gate_callee (f := 10) rfl ?_); refine goesL_ (some 25) rfl rfl Tryd.func10 (by kernel_rfl) rfl #[] rfl (by (try simp only [List.map_toArray, List.map_cons, List.map_nil]); first | done | rfl | (simp only [List.length_drop, List.length_take]; rfl)) ?_; (with_reducible refine (bastionlaw14_awake.calls kj2  t209 _ A10.out).mono ?_); rintro e w11 ⟨rfl, hb⟩; refine ⟨_, rfl, ?_⟩; have n0_ := Aside0.mk (below_step (by repeat (first | (with_reducible first | exact HB.out | apply below_alloc | apply pw_below_drewN | apply below_drew1) | exact HB.out)) hb); clear HB; have HB := n0_; clear n0_; (try clear hb); (try clear hb2); (try clear hk); (try clear hi)))
        go_ret
        exact ⟨by first | rfl | (simp [errW_none, errW_some] <;> rfl) | (simp [*, errW_none, errW_some] <;> rfl), by repeat (first | (with_reducible first | exact HB.out | apply below_alloc | apply pw_below_drewN | apply below_drew1) | exact HB.out)⟩
      · replace c9 := Bool.eq_false_iff.mpr c9
        subst c9
        have H1 : ((bastionlaw14_given.f kj2 l0).bind fun t210 => ((matrix_Rows.f t210).bind fun bt213 => (if bt213.2 = 0 then (bastionlaw14_MatrixCounts.l0 kj2 l0 a1 bt213.1 1 true 0) else (some ((bt213.1.length : Int) == 0))))) = some r := by rw [if_neg (show ¬ (false = true) by decide)] at H; exact H
        clear H
        have H := H1
        clear H1
        replace H := Option.bind_eq_some_iff.mp H
        obtain ⟨t210, A120, H⟩ := H
        replace H : ((matrix_Rows.f t210).bind fun bt213 => (if bt213.2 = 0 then (bastionlaw14_MatrixCounts.l0 kj2 l0 a1 bt213.1 1 true 0) else (some ((bt213.1.length : Int) == 0)))) = some r := H
        have A12 := Aside0.mk A120
        clear A120
        replace H := Option.bind_eq_some_iff.mp H
        obtain ⟨⟨t213, t214⟩, A130, H⟩ := H
        replace H : (if t214 = 0 then (bastionlaw14_MatrixCounts.l0 kj2 l0 a1 t213 1 true 0) else (some ((t213.length : Int) == 0))) = some r := H
        have A13 := Aside0.mk A130
        clear A130
        by_cases c14 : t214 = 0
        · rw [if_pos c14] at H
          have c14b0 : (t214 == 0) = true := beq_iff_eq.mpr c14
          have c14b1 : (t214 != 0) = false := bne_eq_false_iff_eq.mpr c14
          clear c14
          have H' := Aside0.mk H
          clear H
          go_wp2_with (first | ((with_reducible refine gate_callee (f := 11) rfl ?_); refine goesL_ (some 28) rfl rfl Tryd.func11 (by kernel_rfl) rfl #[.slice A0 l0.length c0] rfl (by (try simp only [List.map_toArray, List.map_cons, List.map_nil]); first | done | rfl | (simp only [List.length_drop, List.length_take]; rfl)) ?_; (with_reducible refine (bastionlaw14_given.calls kj2 _ _ l0 t210 _ ?side1 ?side2 A12.out).mono ?_); (case side1 => repeat (first | exact (Kd.C_below HR0.out HB.out) | (with_reducible refine Kd.C_alloc ?_ _) | (with_reducible refine Kd.C_drewN ?_ _) | (with_reducible refine Kd.C_drew ?_))); (case side2 => exact HC0.out); rintro e w15 ⟨v211, rfl, ho0, hb⟩; refine ⟨_, rfl, ?_⟩; have n0_ := Aside0.mk (Kd.S_lower ho0 (below_size (by repeat (first | (with_reducible first | exact HB.out | apply below_alloc | apply pw_below_drewN | apply below_drew1) | exact HB.out)))); have n1_ := Aside0.mk (below_step (by repeat (first | (with_reducible first | exact HB.out | apply below_alloc | apply pw_below_drewN | apply below_drew1) | exact HB.out)) hb); clear HB; have HO212 := n0_; have HB := n1_; clear n0_ n1_; (try clear hb); (try clear hb2); (try clear hk); (try clear hi); (try clear ho0); obtain ⟨Ao16, co16, eo16⟩ := Kd.S_slice HO212.out; subst eo16) | ((with_reducible refine gate_callee (f := 12) rfl ?_); refine goesL_ (some 29) rfl rfl Tryd.func12 (by kernel_rfl) rfl #[.slice Ao16 t210.length co16] rfl (by (try simp only [List.map_toArray, List.map_cons, List.map_nil]); first | done | rfl | (simp only [List.length_drop, List.length_take]; rfl)) ?_; (with_reducible refine (matrix_Rows.calls _ _ t210 t213 t214 _ ?side1 ?side2 A13.out).mono ?_); (case side1 => repeat (first | exact (Kd.S_reads' HO212.out).2.2 | (with_reducible refine Kd.C_alloc ?_ _) | (with_reducible refine Kd.C_drewN ?_ _) | (with_reducible refine Kd.C_drew ?_))); (case side2 => exact (Kd.S_reads' HO212.out).2.1); rintro e w17 ⟨v215, rfl, ho0, hb⟩; refine ⟨_, rfl, ?_⟩; have n0_ := Aside0.mk (Kd.S_below (by (with_reducible repeat (first | apply Kd.S_alloc | apply Kd.S_drewN | apply Kd.S_drew)); exact HO212.out) hb); have n1_ := Aside0.mk (Kd.S_lower ho0 (below_size (by repeat (first | (with_reducible first | exact HB.out | apply below_alloc | apply pw_below_drewN | apply below_drew1) | exact HB.out)))); have n2_ := Aside0.mk (below_step (by repeat (first | (with_reducible first | exact HB.out | apply below_alloc | apply pw_below_drewN | apply below_drew1) | exact HB.out)) hb); clear HO212; clear HB; have HO212 := n0_; have HO216 := n1_; have HB := n2_; clear n0_ n1_ n2_; (try clear hb); (try clear hb2); (try clear hk); (try clear hi); (try clear ho0)))
          go_loopg [7, 8, 9] kj2 (fun kq v7 v8 v9 w' => ∃ (x7_2 : Int) (x8_2 : Bool) (x9_2 : Int), v7 = .int .i64 x7_2 ∧ v8 = .bool x8_2 ∧ v9 = .int .i64 x9_2 ∧ Aside0 (bastionlaw14_MatrixCounts.l0 kq l0 a1 t213 x7_2 x8_2 x9_2 = some r) ∧ Aside0 (kq ≤ kj2) ∧ Aside0 (Kd.S (Kd.slice 9 Kd.string) 23 w' w.heap.size (fun _ => True) v215 t213) ∧ Aside0 (Below w.heap.size w w'))
          case atStart => exact ⟨(1), (true), (0), (by first | rfl | (simp; done) | (simp [*]; done)), (by first | rfl | (simp; done) | (simp [*]; done)), (by first | rfl | (simp; done) | (simp [*]; done)), H', ⟨Nat.le_refl _⟩, ⟨by (with_reducible repeat (first | apply Kd.S_alloc | apply Kd.S_drewN | apply Kd.S_drew)); exact HO216.out⟩, ⟨by repeat (first | (with_reducible first | exact HB.out | apply below_alloc | apply pw_below_drewN | apply below_drew1) | exact HB.out)⟩⟩
          case round =>
            clear H'
            try clear c1
            try clear p2
            try clear c4
            try clear c5
            try clear c6
            try clear c6b0
            try clear c6b1
            try clear c8
            try clear c9
            try clear c10
            try clear c11
            try clear c12
            try clear c14
            try clear c14b0
            try clear c14b1
            try clear p2
            obtain ⟨x7_2, x8_2, x9_2, rfl, rfl, rfl, HA, HK2, HO_5, HB⟩ := hrel
            cases gk with
            | zero => exact absurd HA.out (by simp [bastionlaw14_MatrixCounts.l0])
            | succ k2 =>
              have H := HA.out
              clear HA
              simp only [bastionlaw14_MatrixCounts.l0] at H
              by_cases c18 : x9_2 < (l0.length : Int)
              · rw [if_pos c18] at H
                have c18b0 : decide (x9_2 < (l0.length : Int)) = true := decide_eq_true c18
                clear c18
                by_cases c19 : 0 ≤ x9_2
                · rw [if_pos c19] at H
                  have c19b0 : decide (0 ≤ x9_2) = true := decide_eq_true c19
                  clear c19
                  have H' := Aside0.mk H
                  clear H
                  have p217 : 0 ≤ (x9_2 : Int) := of_decide_eq_true (by first | (with_reducible assumption) | assumption)
                  have q217 : x9_2 < (l0.length : Int) := of_decide_eq_true (by first | (with_reducible assumption) | assumption)
                  obtain ⟨ad217, A217_1, c217_1, e217, hx217_0, hx217_1, hl217_1, hi217_1⟩ := at_T42 HR0.out x9_2 p217 q217
                  cases e217
                  replace hx217_0 := (HB.out.cell (World.block_lt_of_cell? w _ hx217_0)).trans hx217_0
                  replace hx217_1 := (HB.out.cell (World.block_lt_of_cell? w _ hx217_1)).trans hx217_1
                  have HR217_1 := Aside0.mk hi217_1
                  have HC217_1 := Aside0.mk hl217_1
                  clear hi217_1 hl217_1
                  replace p217 := eq_true p217
                  replace q217 := eq_true q217
                  go_wp2
                  go_loopg [8, 10] k2 (fun kq v8 v10 w' => ∃ (x8_3 : Bool) (x10_3 : Int), v8 = .bool x8_3 ∧ v10 = .int .i64 x10_3 ∧ Aside0 (bastionlaw14_MatrixCounts.l1 kq l0 a1 t213 (wrap64 (x7_2 * (((rd_T42 l0 x9_2).f1).length : Int))) x8_3 x9_2 x10_3 = some r) ∧ Aside0 (kq ≤ k2) ∧ Aside0 (Kd.S (Kd.slice 9 Kd.string) 23 w' w.heap.size (fun _ => True) v215 t213) ∧ Aside0 (Below w.heap.size w w'))
                  case atStart => exact ⟨(x8_2), (0), (by first | rfl | (simp; done) | (simp [*]; done)), (by first | rfl | (simp; done) | (simp [*]; done)), H', ⟨Nat.le_refl _⟩, ⟨by (with_reducible repeat (first | apply Kd.S_alloc | apply Kd.S_drewN | apply Kd.S_drew)); exact HO_5.out⟩, ⟨by repeat (first | (with_reducible first | exact HB.out | apply below_alloc | apply pw_below_drewN | apply below_drew1) | exact HB.out)⟩⟩
                  case round =>
                    clear H'
                    try clear c1
                    try clear c2
                    try clear p2
                    try clear q2
                    try clear hx2
                    try clear c4
                    try clear c5
                    try clear c6
                    try clear c6b0
                    try clear c6b1
                    try clear p6
                    try clear c8
                    try clear c9
                    try clear c10
                    try clear c11
                    try clear c12
                    try clear c14
                    try clear c14b0
                    try clear c14b1
                    try clear c18
                    try clear c18b0
                    try clear c19
                    try clear c19b0
                    try clear hx217_0
                    try clear hx217_1
                    try clear p2
                    try clear p217
                    try clear q217
                    obtain ⟨x8_3, x10_3, rfl, rfl, HA, HK3, HO_5, HB⟩ := hrel
                    cases gk with
                    | zero => exact absurd HA.out (by simp [bastionlaw14_MatrixCounts.l1])
                    | succ k3 =>
                      have H := HA.out
                      clear HA
                      simp only [bastionlaw14_MatrixCounts.l1] at H
                      by_cases c20 : 0 ≤ x9_2
                      · rw [if_pos c20] at H
                        have c20b0 : decide (0 ≤ x9_2) = true := decide_eq_true c20
                        clear c20
                        by_cases c21 : x9_2 < (l0.length : Int)
                        · rw [if_pos c21] at H
                          have c21b0 : decide (x9_2 < (l0.length : Int)) = true := decide_eq_true c21
                          clear c21
                          by_cases c22 : x10_3 < (((rd_T42 l0 x9_2).f1).length : Int)
                          · rw [if_pos c22] at H
                            have c22b0 : decide (x10_3 < (((rd_T42 l0 x9_2).f1).length : Int)) = true := decide_eq_true c22
                            clear c22
                            have H' := Aside0.mk H
                            clear H
                            have p218 : 0 ≤ (x9_2 : Int) := of_decide_eq_true (by first | (with_reducible assumption) | assumption)
                            have q218 : x9_2 < (l0.length : Int) := of_decide_eq_true (by first | (with_reducible assumption) | assumption)
                            obtain ⟨ad218, A218_1, c218_1, e218, hx218_0, hx218_1, hl218_1, hi218_1⟩ := at_T42 HR0.out x9_2 p218 q218
                            obtain rfl : ad217 = ad218 := (by injection e218)
                            replace hx218_0 := (HB.out.cell (World.block_lt_of_cell? w _ hx218_0)).trans hx218_0
                            replace hx218_1 := (HB.out.cell (World.block_lt_of_cell? w _ hx218_1)).trans hx218_1
                            have HR218_1 := Aside0.mk hi218_1
                            have HC218_1 := Aside0.mk hl218_1
                            clear hi218_1 hl218_1
                            replace p218 := eq_true p218
                            replace q218 := eq_true q218
                            go_wp2
                            go_loopg [8, 11] k3 (fun kq v8 v11 w' => ∃ (x8_4 : Bool) (x11_4 : Int), v8 = .bool x8_4 ∧ v11 = .int .i64 x11_4 ∧ Aside0 (bastionlaw14_MatrixCounts.l2 kq l0 a1 t213 (wrap64 (x7_2 * (((rd_T42 l0 x9_2).f1).length : Int))) x8_4 x9_2 x10_3 x11_4 = some r) ∧ Aside0 (kq ≤ k3) ∧ Aside0 (Kd.S (Kd.slice 9 Kd.string) 23 w' w.heap.size (fun _ => True) v215 t213) ∧ Aside0 (Below w.heap.size w w'))
                            case atStart => exact ⟨(x8_3), (0), (by first | rfl | (simp; done) | (simp [*]; done)), (by first | rfl | (simp; done) | (simp [*]; done)), H', ⟨Nat.le_refl _⟩, ⟨by (with_reducible repeat (first | apply Kd.S_alloc | apply Kd.S_drewN | apply Kd.S_drew)); exact HO_5.out⟩, ⟨by repeat (first | (with_reducible first | exact HB.out | apply below_alloc | apply pw_below_drewN | apply below_drew1) | exact HB.out)⟩⟩
                            case round =>
                              clear H'
                              try clear c1
                              try clear c2
                              try clear p2
                              try clear q2
                              try clear hx2
                              try clear c4
                              try clear c5
                              try clear c6
                              try clear c6b0
                              try clear c6b1
                              try clear p6
                              try clear c8
                              try clear c9
                              try clear c10
                              try clear c11
                              try clear c12
                              try clear c14
                              try clear c14b0
                              try clear c14b1
                              try clear c18
                              try clear c18b0
                              try clear c19
                              try clear c19b0
                              try clear c20
                              try clear c20b0
                              try clear c21
                              try clear c21b0
                              try clear p21
                              try clear q21
                              try clear hx21
                              try clear c22
                              try clear c22b0
                              try clear hx217_0
                              try clear hx217_1
                              try clear hx218_0
                              try clear hx218_1
                              try clear p2
                              try clear p217
                              try clear p218
                              try clear p6
                              try clear q2
                              try clear q217
                              try clear q218
                              obtain ⟨x8_4, x11_4, rfl, rfl, HA, HK4, HO_5, HB⟩ := hrel
                              cases gk with
                              | zero => exact absurd HA.out (by simp [bastionlaw14_MatrixCounts.l2])
                              | succ k4 =>
                                have H := HA.out
                                clear HA
                                simp only [bastionlaw14_MatrixCounts.l2] at H
                                by_cases c23 : x11_4 < x10_3
                                · rw [if_pos c23] at H
                                  have c23b0 : decide (x11_4 < x10_3) = true := decide_eq_true c23
                                  clear c23
                                  by_cases c24 : x8_4 = true
                                  · subst c24
                                    have H1 : (if 0 ≤ x9_2 then (if x9_2 < (l0.length : Int) then (if 0 ≤ x11_4 then (if x11_4 < (((rd_T42 l0 x9_2).f1).length : Int) then (if 0 ≤ x10_3 then (if x10_3 < (((rd_T42 l0 x9_2).f1).length : Int) then (bastionlaw14_MatrixCounts.l2 k4 l0 a1 t213 (wrap64 (x7_2 * (((rd_T42 l0 x9_2).f1).length : Int))) ((rdOf ByteArray.empty ((rd_T42 l0 x9_2).f1) x11_4).toList != (rdOf ByteArray.empty ((rd_T42 l0 x9_2).f1) x10_3).toList) x9_2 x10_3 (wrap64 (x11_4 + 1))) else (none)) else (none)) else (none)) else (none)) else (none)) else (none)) = some r := by rw [if_pos rfl] at H; exact H
                                    clear H
                                    have H := H1
                                    clear H1
                                    by_cases c25 : 0 ≤ x9_2
                                    · rw [if_pos c25] at H
                                      have c25b0 : decide (0 ≤ x9_2) = true := decide_eq_true c25
                                      clear c25
                                      by_cases c26 : x9_2 < (l0.length : Int)
                                      · rw [if_pos c26] at H
                                        have c26b0 : decide (x9_2 < (l0.length : Int)) = true := decide_eq_true c26
                                        clear c26
                                        by_cases c27 : 0 ≤ x11_4
                                        · rw [if_pos c27] at H
                                          have c27b0 : decide (0 ≤ x11_4) = true := decide_eq_true c27
                                          clear c27
                                          by_cases c28 : x11_4 < (((rd_T42 l0 x9_2).f1).length : Int)
                                          · rw [if_pos c28] at H
                                            have c28b0 : decide (x11_4 < (((rd_T42 l0 x9_2).f1).length : Int)) = true := decide_eq_true c28
                                            clear c28
                                            by_cases c29 : 0 ≤ x10_3
                                            · rw [if_pos c29] at H
                                              have c29b0 : decide (0 ≤ x10_3) = true := decide_eq_true c29
                                              clear c29
                                              by_cases c30 : x10_3 < (((rd_T42 l0 x9_2).f1).length : Int)
                                              · rw [if_pos c30] at H
                                                have c30b0 : decide (x10_3 < (((rd_T42 l0 x9_2).f1).length : Int)) = true := decide_eq_true c30
                                                clear c30
                                                have H' := Aside0.mk H
                                                clear H
                                                try go_wp2
                                                have p219 : 0 ≤ (x9_2 : Int) := of_decide_eq_true (by first | (with_reducible assumption) | assumption)
                                                have q219 : x9_2 < (l0.length : Int) := of_decide_eq_true (by first | (with_reducible assumption) | assumption)
                                                obtain ⟨ad219, A219_1, c219_1, e219, hx219_0, hx219_1, hl219_1, hi219_1⟩ := at_T42 HR0.out x9_2 p219 q219
                                                have hw219_1 := hx219_1
                                                have hw219_0 := hx219_0
                                                obtain rfl : ad217 = ad219 := (by injection e219)
                                                replace hx219_0 := (HB.out.cell (World.block_lt_of_cell? w _ hx219_0)).trans hx219_0
                                                replace hx219_1 := (HB.out.cell (World.block_lt_of_cell? w _ hx219_1)).trans hx219_1
                                                have HR219_1 := Aside0.mk hi219_1
                                                have HC219_1 := Aside0.mk hl219_1
                                                clear hi219_1 hl219_1
                                                replace p219 := eq_true p219
                                                replace q219 := eq_true q219
                                                have p220 : 0 ≤ (x11_4 : Int) := of_decide_eq_true (by first | (with_reducible assumption) | assumption)
                                                have q220 : x11_4 < (((rd_T42 l0 x9_2).f1).length : Int) := of_decide_eq_true (by first | (with_reducible assumption) | assumption)
                                                obtain ⟨ad220, e220, hx220_0⟩ := Kd.at_string HR219_1.out x11_4 p220 q220
                                                have hw220_0 := hx220_0
                                                cases e220
                                                replace hx220_0 := (HB.out.cell (World.block_lt_of_cell? w _ hx220_0)).trans hx220_0
                                                replace p220 := eq_true p220
                                                replace q220 := eq_true q220
                                                have p221 : 0 ≤ (x9_2 : Int) := of_decide_eq_true (by first | (with_reducible assumption) | assumption)
                                                have q221 : x9_2 < (l0.length : Int) := of_decide_eq_true (by first | (with_reducible assumption) | assumption)
                                                obtain ⟨ad221, A221_1, c221_1, e221, hx221_0, hx221_1, hl221_1, hi221_1⟩ := at_T42 HR0.out x9_2 p221 q221
                                                have hw221_1 := hx221_1
                                                have hw221_0 := hx221_0
                                                obtain rfl : ad217 = ad221 := (by injection e221)
                                                replace hx221_0 := (HB.out.cell (World.block_lt_of_cell? w _ hx221_0)).trans hx221_0
                                                replace hx221_1 := (HB.out.cell (World.block_lt_of_cell? w _ hx221_1)).trans hx221_1
                                                have HR221_1 := Aside0.mk hi221_1
                                                have HC221_1 := Aside0.mk hl221_1
                                                clear hi221_1 hl221_1
                                                replace p221 := eq_true p221
                                                replace q221 := eq_true q221
                                                have ea_ := Option.some.inj (hx219_1.symm.trans hx221_1)
                                                injection ea_ with ea_ en_ ec_
                                                subst ea_
                                                subst ec_
                                                clear en_
                                                have p222 : 0 ≤ (x10_3 : Int) := of_decide_eq_true (by first | (with_reducible assumption) | assumption)
                                                have q222 : x10_3 < (((rd_T42 l0 x9_2).f1).length : Int) := of_decide_eq_true (by first | (with_reducible assumption) | assumption)
                                                obtain ⟨ad222, e222, hx222_0⟩ := Kd.at_string HR221_1.out x10_3 p222 q222
                                                have hw222_0 := hx222_0
                                                cases e222
                                                replace hx222_0 := (HB.out.cell (World.block_lt_of_cell? w _ hx222_0)).trans hx222_0
                                                replace p222 := eq_true p222
                                                replace q222 := eq_true q222
                                                go_region
                                                have n0_ := Aside0.mk (Kd.S_drew HO_5.out)
                                                have n1_ := Aside0.mk (below_drew1 HB.out)
                                                clear HO_5
                                                clear HB
                                                have HO_5 := n0_
                                                have HB := n1_
                                                clear n0_ n1_
                                                try go_wp2
                                                go_roundg k4
                                                case measure => have := HJ2.out; have := HK2.out; have := HK3.out; have := HK4.out; omega
                                                case rel => exact ⟨(((rdOf ByteArray.empty ((rd_T42 l0 x9_2).f1) x11_4).toList != (rdOf ByteArray.empty ((rd_T42 l0 x9_2).f1) x10_3).toList)), (wrap64 (x11_4 + 1)), (by first | rfl | (simp; done) | (simp [*]; done)), (by first | rfl | (simp; done) | (simp [*]; done)), H', ⟨by have := HJ2.out; have := HK2.out; have := HK3.out; have := HK4.out; omega⟩, ⟨by (with_reducible repeat (first | apply Kd.S_alloc | apply Kd.S_drewN | apply Kd.S_drew)); exact HO_5.out⟩, ⟨by repeat (first | (with_reducible first | exact HB.out | apply below_alloc | apply pw_below_drewN | apply below_drew1) | exact HB.out)⟩⟩
                                              · rw [if_neg c30] at H
                                                exact absurd H (by simp)
                                            · rw [if_neg c29] at H
                                              exact absurd H (by simp)
                                          · rw [if_neg c28] at H
                                            exact absurd H (by simp)
                                        · rw [if_neg c27] at H
                                          exact absurd H (by simp)
                                      · rw [if_neg c26] at H
                                        exact absurd H (by simp)
                                    · rw [if_neg c25] at H
                                      exact absurd H (by simp)
                                  · replace c24 := Bool.eq_false_iff.mpr c24
                                    subst c24
                                    have H1 : (bastionlaw14_MatrixCounts.l2 k4 l0 a1 t213 (wrap64 (x7_2 * (((rd_T42 l0 x9_2).f1).length : Int))) false x9_2 x10_3 (wrap64 (x11_4 + 1))) = some r := by rw [if_neg (show ¬ (false = true) by decide)] at H; exact H
                                    clear H
                                    have H := H1
                                    clear H1
                                    have H' := Aside0.mk H
                                    clear H
                                    try go_wp2
                                    go_region
                                    have n0_ := Aside0.mk (Kd.S_drew HO_5.out)
                                    have n1_ := Aside0.mk (below_drew1 HB.out)
                                    clear HO_5
                                    clear HB
                                    have HO_5 := n0_
                                    have HB := n1_
                                    clear n0_ n1_
                                    try go_wp2
                                    go_roundg k4
                                    case measure => have := HJ2.out; have := HK2.out; have := HK3.out; have := HK4.out; omega
                                    case rel => exact ⟨(false), (wrap64 (x11_4 + 1)), (by first | rfl | (simp; done) | (simp [*]; done)), (by first | rfl | (simp; done) | (simp [*]; done)), H', ⟨by have := HJ2.out; have := HK2.out; have := HK3.out; have := HK4.out; omega⟩, ⟨by (with_reducible repeat (first | apply Kd.S_alloc | apply Kd.S_drewN | apply Kd.S_drew)); exact HO_5.out⟩, ⟨by repeat (first | (with_reducible first | exact HB.out | apply below_alloc | apply pw_below_drewN | apply below_drew1) | exact HB.out)⟩⟩
                                · rw [if_neg c23] at H
                                  have c23b0 : decide (x11_4 < x10_3) = false := decide_eq_false c23
                                  clear c23
                                  have H' := Aside0.mk H
                                  clear H
                                  go_wp2
                                  go_roundg k4
                                  case measure => have := HJ2.out; have := HK2.out; have := HK3.out; have := HK4.out; omega
                                  case rel => exact ⟨(x8_4), (wrap64 (x10_3 + 1)), (by first | rfl | (simp; done) | (simp [*]; done)), (by first | rfl | (simp; done) | (simp [*]; done)), H', ⟨by have := HJ2.out; have := HK2.out; have := HK3.out; have := HK4.out; omega⟩, ⟨by (with_reducible repeat (first | apply Kd.S_alloc | apply Kd.S_drewN | apply Kd.S_drew)); exact HO_5.out⟩, ⟨by repeat (first | (with_reducible first | exact HB.out | apply below_alloc | apply pw_below_drewN | apply below_drew1) | exact HB.out)⟩⟩
                          · rw [if_neg c22] at H
                            have c22b0 : decide (x10_3 < (((rd_T42 l0 x9_2).f1).length : Int)) = false := decide_eq_false c22
                            clear c22
                            have H' := Aside0.mk H
                            clear H
                            have p218 : 0 ≤ (x9_2 : Int) := of_decide_eq_true (by first | (with_reducible assumption) | assumption)
                            have q218 : x9_2 < (l0.length : Int) := of_decide_eq_true (by first | (with_reducible assumption) | assumption)
                            obtain ⟨ad218, A218_1, c218_1, e218, hx218_0, hx218_1, hl218_1, hi218_1⟩ := at_T42 HR0.out x9_2 p218 q218
                            obtain rfl : ad217 = ad218 := (by injection e218)
                            replace hx218_0 := (HB.out.cell (World.block_lt_of_cell? w _ hx218_0)).trans hx218_0
                            replace hx218_1 := (HB.out.cell (World.block_lt_of_cell? w _ hx218_1)).trans hx218_1
                            have HR218_1 := Aside0.mk hi218_1
                            have HC218_1 := Aside0.mk hl218_1
                            clear hi218_1 hl218_1
                            replace p218 := eq_true p218
                            replace q218 := eq_true q218
                            go_wp2
                            go_roundg k3
                            case measure => have := HJ2.out; have := HK2.out; have := HK3.out; omega
                            case rel => exact ⟨((wrap64 (x7_2 * (((rd_T42 l0 x9_2).f1).length : Int)))), (x8_3), (wrap64 (x9_2 + 1)), (by first | rfl | (simp; done) | (simp [*]; done)), (by first | rfl | (simp; done) | (simp [*]; done)), (by first | rfl | (simp; done) | (simp [*]; done)), H', ⟨by have := HJ2.out; have := HK2.out; have := HK3.out; omega⟩, ⟨by (with_reducible repeat (first | apply Kd.S_alloc | apply Kd.S_drewN | apply Kd.S_drew)); exact HO_5.out⟩, ⟨by repeat (first | (with_reducible first | exact HB.out | apply below_alloc | apply pw_below_drewN | apply below_drew1) | exact HB.out)⟩⟩
                        · rw [if_neg c21] at H
                          exact absurd H (by simp)
                      · rw [if_neg c20] at H
                        exact absurd H (by simp)
                · rw [if_neg c19] at H
                  exact absurd H (by simp)
              · rw [if_neg c18] at H
                have c18b0 : decide (x9_2 < (l0.length : Int)) = false := decide_eq_false c18
                clear c18
                by_cases c33 : (t213.length : Int) = x7_2
                · rw [if_pos c33] at H
                  have c33b0 : ((t213.length : Int) == x7_2) = true := beq_iff_eq.mpr c33
                  have c33b1 : ((t213.length : Int) != x7_2) = false := bne_eq_false_iff_eq.mpr c33
                  clear c33
                  have H' := Aside0.mk H
                  clear H
                  obtain ⟨Ao34, co34, eo34⟩ := Kd.S_slice HO_5.out
                  subst eo34
                  go_wp2
                  go_loopg [12] k2 (fun kq v12 w' => ∃ (x12_3 : Int), v12 = .int .i64 x12_3 ∧ Aside0 (bastionlaw14_MatrixCounts.l3 kq l0 a1 t213 x8_2 x12_3 = some r) ∧ Aside0 (kq ≤ k2) ∧ Aside0 (Kd.S (Kd.slice 9 Kd.string) 23 w' w.heap.size (fun _ => True) (.slice Ao34 t213.length co34) t213) ∧ Aside0 (Below w.heap.size w w'))
                  case atStart => exact ⟨(0), (by first | rfl | (simp; done) | (simp [*]; done)), H', ⟨Nat.le_refl _⟩, ⟨by (with_reducible repeat (first | apply Kd.S_alloc | apply Kd.S_drewN | apply Kd.S_drew)); exact HO_5.out⟩, ⟨by repeat (first | (with_reducible first | exact HB.out | apply below_alloc | apply pw_below_drewN | apply below_drew1) | exact HB.out)⟩⟩
                  case round =>
                    clear H'
                    try clear c1
                    try clear c2
                    try clear p2
                    try clear q2
                    try clear hx2
                    try clear c3
                    try clear c4
                    try clear c5
                    try clear c6
                    try clear c6b0
                    try clear c6b1
                    try clear p6
                    try clear c8
                    try clear c9
                    try clear c10
                    try clear c11
                    try clear c12
                    try clear c14
                    try clear c14b0
                    try clear c14b1
                    try clear c18
                    try clear c18b0
                    try clear c19
                    try clear c19b0
                    try clear c20
                    try clear c20b0
                    try clear c21
                    try clear c21b0
                    try clear p21
                    try clear q21
                    try clear hx21
                    try clear c22
                    try clear c22b0
                    try clear p22
                    try clear q22
                    try clear hx22
                    try clear c23
                    try clear c23b0
                    try clear c24
                    try clear c25
                    try clear c25b0
                    try clear c26
                    try clear c26b0
                    try clear c27
                    try clear c27b0
                    try clear c28
                    try clear c28b0
                    try clear c29
                    try clear c29b0
                    try clear c30
                    try clear c30b0
                    try clear c33
                    try clear c33b0
                    try clear c33b1
                    try clear hx217_0
                    try clear hx217_1
                    try clear hx218_0
                    try clear hx218_1
                    try clear hx219_0
                    try clear hx219_1
                    try clear hx220_0
                    try clear hx221_0
                    try clear hx221_1
                    try clear hx222_0
                    try clear p2
                    try clear p21
                    try clear p217
                    try clear p218
                    try clear p219
                    try clear p220
                    try clear p221
                    try clear p222
                    try clear p6
                    try clear q2
                    try clear q21
                    try clear q217
                    try clear q218
                    try clear q219
                    try clear q220
                    try clear q221
                    try clear q222
                    obtain ⟨x12_3, rfl, HA, HK3, HO_5, HB⟩ := hrel
                    cases gk with
                    | zero => exact absurd HA.out (by simp [bastionlaw14_MatrixCounts.l3])
                    | succ k3 =>
                      have H := HA.out
                      clear HA
                      simp only [bastionlaw14_MatrixCounts.l3] at H
                      by_cases c35 : x12_3 < (t213.length : Int)
                      · rw [if_pos c35] at H
                        have c35b0 : decide (x12_3 < (t213.length : Int)) = true := decide_eq_true c35
                        clear c35
                        by_cases c36 : 0 ≤ x12_3
                        · rw [if_pos c36] at H
                          have c36b0 : decide (0 ≤ x12_3) = true := decide_eq_true c36
                          clear c36
                          by_cases c37 : ((rd_L1 t213 x12_3).length : Int) = (l0.length : Int)
                          · rw [if_pos c37] at H
                            have c37b0 : (((rd_L1 t213 x12_3).length : Int) == (l0.length : Int)) = true := beq_iff_eq.mpr c37
                            have c37b1 : (((rd_L1 t213 x12_3).length : Int) != (l0.length : Int)) = false := bne_eq_false_iff_eq.mpr c37
                            have c37b2 : ((rd_L1 t213 x12_3).length == l0.length) = true := by first | simpa using c37 | (simp at c37 ⊢; omega)
                            clear c37
                            have H' := Aside0.mk H
                            clear H
                            have p223 : 0 ≤ (x12_3 : Int) := of_decide_eq_true (by first | (with_reducible assumption) | assumption)
                            have q223 : x12_3 < (t213.length : Int) := of_decide_eq_true (by first | (with_reducible assumption) | assumption)
                            obtain ⟨ad223, A223_0, c223_0, e223, hx223_0, hl223_0, hi223_0⟩ := at_L1 (Kd.S_reads' HO_5.out).2.2 x12_3 p223 q223
                            cases e223
                            obtain ⟨ce223, hce223, hMe223, hcc223⟩ := Kd.S_get HO_5.out [] x12_3 p223 (by first | exact q223 | exact of_decide_eq_true (by first | (with_reducible assumption) | assumption) | (have e_ := (Kd.S_reads' HO_5.out).1; omega))
                            obtain ⟨ve223_0, rfl, ge223_0⟩ := hMe223
                            have hv223_0 := hcc223 0 _ rfl
                            rw [Nat.add_zero, show ((Kd.slice 9 Kd.string)).sz = 1 from rfl, Nat.mul_one] at hv223_0
                            replace hv223_0 := Option.some.inj (hv223_0.symm.trans hx223_0)
                            rw [hv223_0] at ge223_0
                            have HL223_0 := Aside0.mk (show Kd.R Kd.string 9 _ _ _ _ (rd_L1 t213 x12_3) from ge223_0)
                            clear hv223_0 ge223_0
                            clear hcc223 hce223
                            have HR223_0 := Aside0.mk hi223_0
                            have HC223_0 := Aside0.mk hl223_0
                            clear hi223_0 hl223_0
                            replace p223 := eq_true p223
                            replace q223 := eq_true q223
                            go_wp2
                            go_loopg [13] k3 (fun kq v13 w' => ∃ (x13_4 : Int), v13 = .int .i64 x13_4 ∧ Aside0 (bastionlaw14_MatrixCounts.l4 kq l0 a1 t213 x8_2 x12_3 x13_4 = some r) ∧ Aside0 (kq ≤ k3) ∧ Aside0 (Kd.S (Kd.slice 9 Kd.string) 23 w' w.heap.size (fun _ => True) (.slice (some ad223) t213.length co34) t213) ∧ Aside0 (Kd.C Kd.string w' A223_0 (rd_L1 t213 x12_3).length (rd_L1 t213 x12_3)) ∧ Aside0 (Below w.heap.size w w'))
                            case atStart => exact ⟨(0), (by first | rfl | (simp; done) | (simp [*]; done)), H', ⟨Nat.le_refl _⟩, ⟨by (with_reducible repeat (first | apply Kd.S_alloc | apply Kd.S_drewN | apply Kd.S_drew)); exact HO_5.out⟩, ⟨by repeat (first | (with_reducible exact HR223_0.out) | (with_reducible refine Kd.C_alloc ?_ _) | (with_reducible refine Kd.C_drewN ?_ _) | (with_reducible refine Kd.C_drew ?_) | exact HR223_0.out)⟩, ⟨by repeat (first | (with_reducible first | exact HB.out | apply below_alloc | apply pw_below_drewN | apply below_drew1) | exact HB.out)⟩⟩
                            case round =>
                              clear H'
                              try clear c1
                              try clear c2
                              try clear p2
                              try clear q2
                              try clear hx2
                              try clear c3
                              try clear c4
                              try clear c5
                              try clear c6
                              try clear c6b0
                              try clear c6b1
                              try clear p6
                              try clear c8
                              try clear c9
                              try clear c10
                              try clear c11
                              try clear c12
                              try clear c14
                              try clear c14b0
                              try clear c14b1
                              try clear c18
                              try clear c18b0
                              try clear c19
                              try clear c19b0
                              try clear c20
                              try clear c20b0
                              try clear c21
                              try clear c21b0
                              try clear p21
                              try clear q21
                              try clear hx21
                              try clear c22
                              try clear c22b0
                              try clear p22
                              try clear q22
                              try clear hx22
                              try clear c23
                              try clear c23b0
                              try clear c24
                              try clear c25
                              try clear c25b0
                              try clear c26
                              try clear c26b0
                              try clear c27
                              try clear c27b0
                              try clear c28
                              try clear c28b0
                              try clear c29
                              try clear c29b0
                              try clear c30
                              try clear c30b0
                              try clear c33
                              try clear c33b0
                              try clear c33b1
                              try clear c35
                              try clear c35b0
                              try clear c36
                              try clear c36b0
                              try clear c37
                              try clear c37b0
                              try clear c37b1
                              try clear c37b2
                              try clear hx217_0
                              try clear hx217_1
                              try clear hx218_0
                              try clear hx218_1
                              try clear hx219_0
                              try clear hx219_1
                              try clear hx220_0
                              try clear hx221_0
                              try clear hx221_1
                              try clear hx222_0
                              try clear hx223_0
                              try clear p2
                              try clear p21
                              try clear p217
                              try clear p218
                              try clear p219
                              try clear p22
                              try clear p220
                              try clear p221
                              try clear p222
                              try clear p223
                              try clear p6
                              try clear q2
                              try clear q21
                              try clear q217
                              try clear q218
                              try clear q219
                              try clear q22
                              try clear q220
                              try clear q221
                              try clear q222
                              try clear q223
                              obtain ⟨x13_4, rfl, HA, HK4, HO_5, HR223_0, HB⟩ := hrel
                              cases gk with
                              | zero => exact absurd HA.out (by simp [bastionlaw14_MatrixCounts.l4])
                              | succ k4 =>
                                have H := HA.out
                                clear HA
                                simp only [bastionlaw14_MatrixCounts.l4] at H
                                have HC38 := Aside0.mk H
                                clear H
                                go_upto_region 27 with (fail)
                                go_cut [109] (fun v109 wc => ∃ (kq : Nat) (x109_37 : Bool), v109 = .bool x109_37 ∧ Aside0 (bastionlaw14_MatrixCounts.j6 kq l0 a1 t213 x8_2 x12_3 x13_4 x109_37 = some r) ∧ Aside0 (kq ≤ k4) ∧ Aside0 (Kd.S (Kd.slice 9 Kd.string) 23 wc w.heap.size (fun _ => True) (.slice (some ad223) t213.length co34) t213) ∧ Aside0 (Kd.C Kd.string wc A223_0 (rd_L1 t213 x12_3).length (rd_L1 t213 x12_3)) ∧ Aside0 (Below w.heap.size w wc))
                                case first =>
                                  have H := HC38.out
                                  clear HC38
                                  by_cases c39 : x13_4 < x12_3
                                  · rw [if_pos c39] at H
                                    have c39b0 : decide (x13_4 < x12_3) = true := decide_eq_true c39
                                    clear c39
                                    (first | rw [c39b0] | (simp only [i64_w, i32_w]; rw [c39b0]) | skip)
                                    have H' := Aside0.mk H
                                    clear H
                                    go_wp2
                                    go_meet
                                    case rel => exact ⟨_, (x8_2), (by first | rfl | (simp; done) | (simp [*]; done)), H', ⟨by have := HJ2.out; have := HK2.out; have := HK3.out; have := HK4.out; first | omega | exact Nat.le_refl _⟩, ⟨by (with_reducible repeat (first | apply Kd.S_alloc | apply Kd.S_drewN | apply Kd.S_drew)); exact HO_5.out⟩, ⟨by repeat (first | (with_reducible exact HR223_0.out) | (with_reducible refine Kd.C_alloc ?_ _) | (with_reducible refine Kd.C_drewN ?_ _) | (with_reducible refine Kd.C_drew ?_) | exact HR223_0.out)⟩, ⟨by repeat (first | (with_reducible first | exact HB.out | apply below_alloc | apply pw_below_drewN | apply below_drew1) | exact HB.out)⟩⟩
                                  · rw [if_neg c39] at H
                                    have c39b0 : decide (x13_4 < x12_3) = false := decide_eq_false c39
                                    clear c39
                                    (first | rw [c39b0] | (simp only [i64_w, i32_w]; rw [c39b0]) | skip)
                                    have H' := Aside0.mk H
                                    clear H
                                    go_wp2
                                    go_meet
                                    case rel => exact ⟨_, (false), (by first | rfl | (simp; done) | (simp [*]; done)), H', ⟨by have := HJ2.out; have := HK2.out; have := HK3.out; have := HK4.out; first | omega | exact Nat.le_refl _⟩, ⟨by (with_reducible repeat (first | apply Kd.S_alloc | apply Kd.S_drewN | apply Kd.S_drew)); exact HO_5.out⟩, ⟨by repeat (first | (with_reducible exact HR223_0.out) | (with_reducible refine Kd.C_alloc ?_ _) | (with_reducible refine Kd.C_drewN ?_ _) | (with_reducible refine Kd.C_drew ?_) | exact HR223_0.out)⟩, ⟨by repeat (first | (with_reducible first | exact HB.out | apply below_alloc | apply pw_below_drewN | apply below_drew1) | exact HB.out)⟩⟩
                                case rest =>
                                  clear HC38
                                  try clear c1
                                  try clear c2
                                  try clear p2
                                  try clear q2
                                  try clear hx2
                                  try clear c3
                                  try clear c4
                                  try clear c5
                                  try clear c6
                                  try clear c6b0
                                  try clear c6b1
                                  try clear p6
                                  try clear c8
                                  try clear c9
                                  try clear c10
                                  try clear c11
                                  try clear c12
                                  try clear c14
                                  try clear c14b0
                                  try clear c14b1
                                  try clear c18
                                  try clear c18b0
                                  try clear c19
                                  try clear c19b0
                                  try clear c20
                                  try clear c20b0
                                  try clear c21
                                  try clear c21b0
                                  try clear p21
                                  try clear q21
                                  try clear hx21
                                  try clear c22
                                  try clear c22b0
                                  try clear p22
                                  try clear q22
                                  try clear hx22
                                  try clear c23
                                  try clear c23b0
                                  try clear c24
                                  try clear c25
                                  try clear c25b0
                                  try clear c26
                                  try clear c26b0
                                  try clear c27
                                  try clear c27b0
                                  try clear c28
                                  try clear c28b0
                                  try clear c29
                                  try clear c29b0
                                  try clear c30
                                  try clear c30b0
                                  try clear c33
                                  try clear c33b0
                                  try clear c33b1
                                  try clear c35
                                  try clear c35b0
                                  try clear c36
                                  try clear c36b0
                                  try clear c37
                                  try clear c37b0
                                  try clear c37b1
                                  try clear c37b2
                                  try clear c39
                                  try clear c39b0
                                  try clear hx217_0
                                  try clear hx217_1
                                  try clear hx218_0
                                  try clear hx218_1
                                  try clear hx219_0
                                  try clear hx219_1
                                  try clear hx220_0
                                  try clear hx221_0
                                  try clear hx221_1
                                  try clear hx222_0
                                  try clear hx223_0
                                  try clear p2
                                  try clear p21
                                  try clear p217
                                  try clear p218
                                  try clear p219
                                  try clear p22
                                  try clear p220
                                  try clear p221
                                  try clear p222
                                  try clear p223
                                  try clear p6
                                  try clear q2
                                  try clear q21
                                  try clear q217
                                  try clear q218
                                  try clear q219
                                  try clear q22
                                  try clear q220
                                  try clear q221
                                  try clear q222
                                  try clear q223
                                  obtain ⟨kq, x109_37, rfl, HA, HJ37, HO_5, HR223_0, HB⟩ := hcut
                                  cases kq with
                                  | zero => exact absurd HA.out (by simp [bastionlaw14_MatrixCounts.j6])
                                  | succ kj37 =>
                                    have H := HA.out
                                    clear HA
                                    simp only [bastionlaw14_MatrixCounts.j6] at H
                                    by_cases c40 : x109_37 = true
                                    · subst c40
                                      have H1 : (if 0 ≤ x12_3 then (if x12_3 < (t213.length : Int) then ((matrix_Label.f kj37 a1 (rd_L1 t213 x12_3)).bind fun t225 => (if 0 ≤ x13_4 then (if x13_4 < (t213.length : Int) then ((matrix_Label.f kj37 a1 (rd_L1 t213 x13_4)).bind fun t227 => (if t225.toList = t227.toList then (some false) else (bastionlaw14_MatrixCounts.l4 kj37 l0 a1 t213 x8_2 x12_3 (wrap64 (x13_4 + 1))))) else (none)) else (none))) else (none)) else (none)) = some r := by rw [if_pos rfl] at H; exact H
                                      clear H
                                      have H := H1
                                      clear H1
                                      by_cases c41 : 0 ≤ x12_3
                                      · rw [if_pos c41] at H
                                        have c41b0 : decide (0 ≤ x12_3) = true := decide_eq_true c41
                                        clear c41
                                        by_cases c42 : x12_3 < (t213.length : Int)
                                        · rw [if_pos c42] at H
                                          have c42b0 : decide (x12_3 < (t213.length : Int)) = true := decide_eq_true c42
                                          clear c42
                                          replace H := Option.bind_eq_some_iff.mp H
                                          obtain ⟨t225, A430, H⟩ := H
                                          replace H : (if 0 ≤ x13_4 then (if x13_4 < (t213.length : Int) then ((matrix_Label.f kj37 a1 (rd_L1 t213 x13_4)).bind fun t227 => (if t225.toList = t227.toList then (some false) else (bastionlaw14_MatrixCounts.l4 kj37 l0 a1 t213 x8_2 x12_3 (wrap64 (x13_4 + 1))))) else (none)) else (none)) = some r := H
                                          have A43 := Aside0.mk A430
                                          clear A430
                                          by_cases c44 : 0 ≤ x13_4
                                          · rw [if_pos c44] at H
                                            have c44b0 : decide (0 ≤ x13_4) = true := decide_eq_true c44
                                            clear c44
                                            by_cases c45 : x13_4 < (t213.length : Int)
                                            · rw [if_pos c45] at H
                                              have c45b0 : decide (x13_4 < (t213.length : Int)) = true := decide_eq_true c45
                                              clear c45
                                              replace H := Option.bind_eq_some_iff.mp H
                                              obtain ⟨t227, A460, H⟩ := H
                                              replace H : (if t225.toList = t227.toList then (some false) else (bastionlaw14_MatrixCounts.l4 kj37 l0 a1 t213 x8_2 x12_3 (wrap64 (x13_4 + 1)))) = some r := H
                                              have A46 := Aside0.mk A460
                                              clear A460
                                              by_cases c47 : t225.toList = t227.toList
                                              · rw [if_pos c47] at H
                                                have c47b0 : (t225.toList == t227.toList) = true := beq_iff_eq.mpr c47
                                                have c47b1 : (t225.toList != t227.toList) = false := bne_eq_false_iff_eq.mpr c47
                                                clear c47
                                                obtain rfl := Option.some.inj H
                                                try go_wp2
                                                have n0_ := Aside0.mk (Kd.S_drew HO_5.out)
                                                have n1_ := Aside0.mk (Kd.C_drew HR223_0.out)
                                                have n2_ := Aside0.mk (below_drew1 HB.out)
                                                clear HO_5
                                                clear HR223_0
                                                clear HB
                                                have HO_5 := n0_
                                                have HR223_0 := n1_
                                                have HB := n2_
                                                clear n0_ n1_ n2_
                                                have p224 : 0 ≤ (x12_3 : Int) := of_decide_eq_true (by first | (with_reducible assumption) | assumption)
                                                have q224 : x12_3 < (t213.length : Int) := of_decide_eq_true (by first | (with_reducible assumption) | assumption)
                                                obtain ⟨ad224, A224_0, c224_0, e224, hx224_0, hl224_0, hi224_0⟩ := at_L1 (Kd.S_reads' HO_5.out).2.2 x12_3 p224 q224
                                                obtain rfl : ad223 = ad224 := (by injection e224)
                                                obtain ⟨ce224, hce224, hMe224, hcc224⟩ := Kd.S_get HO_5.out [] x12_3 p224 (by first | exact q224 | exact of_decide_eq_true (by first | (with_reducible assumption) | assumption) | (have e_ := (Kd.S_reads' HO_5.out).1; omega))
                                                obtain ⟨ve224_0, rfl, ge224_0⟩ := hMe224
                                                have hv224_0 := hcc224 0 _ rfl
                                                rw [Nat.add_zero, show ((Kd.slice 9 Kd.string)).sz = 1 from rfl, Nat.mul_one] at hv224_0
                                                replace hv224_0 := Option.some.inj (hv224_0.symm.trans hx224_0)
                                                rw [hv224_0] at ge224_0
                                                have HL224_0 := Aside0.mk (show Kd.R Kd.string 9 _ _ _ _ (rd_L1 t213 x12_3) from ge224_0)
                                                clear hv224_0 ge224_0
                                                clear hcc224 hce224
                                                have HR224_0 := Aside0.mk hi224_0
                                                have HC224_0 := Aside0.mk hl224_0
                                                clear hi224_0 hl224_0
                                                replace p224 := eq_true p224
                                                replace q224 := eq_true q224
                                                have p226 : 0 ≤ (x13_4 : Int) := of_decide_eq_true (by first | (with_reducible assumption) | assumption)
                                                have q226 : x13_4 < (t213.length : Int) := of_decide_eq_true (by first | (with_reducible assumption) | assumption)
                                                obtain ⟨ad226, A226_0, c226_0, e226, hx226_0, hl226_0, hi226_0⟩ := at_L1 (Kd.S_reads' HO_5.out).2.2 x13_4 p226 q226
                                                obtain rfl : ad223 = ad226 := (by injection e226)
                                                obtain ⟨ce226, hce226, hMe226, hcc226⟩ := Kd.S_get HO_5.out [] x13_4 p226 (by first | exact q226 | exact of_decide_eq_true (by first | (with_reducible assumption) | assumption) | (have e_ := (Kd.S_reads' HO_5.out).1; omega))
                                                obtain ⟨ve226_0, rfl, ge226_0⟩ := hMe226
                                                have hv226_0 := hcc226 0 _ rfl
                                                rw [Nat.add_zero, show ((Kd.slice 9 Kd.string)).sz = 1 from rfl, Nat.mul_one] at hv226_0
                                                replace hv226_0 := Option.some.inj (hv226_0.symm.trans hx226_0)
                                                rw [hv226_0] at ge226_0
                                                have HL226_0 := Aside0.mk (show Kd.R Kd.string 9 _ _ _ _ (rd_L1 t213 x13_4) from ge226_0)
                                                clear hv226_0 ge226_0
                                                clear hcc226 hce226
                                                have HR226_0 := Aside0.mk hi226_0
                                                have HC226_0 := Aside0.mk hl226_0
                                                clear hi226_0 hl226_0
                                                replace p226 := eq_true p226
                                                replace q226 := eq_true q226
                                                refine start_ (n := 13) (S := fun w' => w'.cell? (ad223.add (x12_3).toNat) = some (.slice A224_0 (rd_L1 t213 x12_3).length c224_0) ∧ w'.cell? (ad223.add (x13_4).toNat) = some (.slice A226_0 (rd_L1 t213 x13_4).length c226_0)) (ds := []) #[false, false, false, false, false, false, false, false, false, false, false, false, false] (by kernel_rfl) rfl rfl ⟨hx224_0, hx226_0⟩ (fun hHeld => ?_); refine with_tabW bastionlaw14_MatrixCounts.tab29 bastionlaw14_MatrixCounts.bits29 (fun HT_ HW_ => ?_)
                                                generalize wc.drew = w48 at HO_5 HR223_0 HB HL224_0 HL226_0 HR224_0 HR226_0 hx224_0 hx226_0 hHeld ⊢
                                                refine pure_ (i := 0) (N := some 112) (v := ?_) (a' := ?_) #[true, false, false, false, false, false, false, false, false, false, false, false, false] rfl rfl (any_of HT_.out (by kernel_rfl)) (fun _ _ _ h => h) (Or.inl ⟨by rfl, ?_⟩) ?_ ?_
                                                rotate_left
                                                · intro w'
                                                  go_simp
                                                  with_reducible rfl
                                                rotate_left
                                                · simp only [Act.put, List.setIfInBounds_toArray, List.set_cons_zero, List.set_cons_succ, i64_w, i32_w]
                                                  rfl
                                                refine pure_ (i := 1) (N := some 113) (v := ?_) (a' := ?_) #[true, true, false, false, false, false, false, false, false, false, false, false, false] rfl rfl (any_of HT_.out (by kernel_rfl)) (fun _ _ _ h => h) (Or.inl ⟨by rfl, ?_⟩) ?_ ?_
                                                rotate_left
                                                · intro w'
                                                  go_simp
                                                  with_reducible rfl
                                                rotate_left
                                                · simp only [Act.put, List.setIfInBounds_toArray, List.set_cons_zero, List.set_cons_succ, i64_w, i32_w]
                                                  rfl
                                                refine pure_ (i := 2) (N := some 114) (v := ?_) (a' := ?_) #[true, true, true, false, false, false, false, false, false, false, false, false, false] rfl rfl (any_of HT_.out (by kernel_rfl)) (fun _ _ _ h => h) (Or.inl ⟨by rfl, ?_⟩) ?_ ?_
                                                rotate_left
                                                · intro w'
                                                  go_simp
                                                  with_reducible rfl
                                                rotate_left
                                                · simp only [Act.put, List.setIfInBounds_toArray, List.set_cons_zero, List.set_cons_succ, i64_w, i32_w]
                                                  rfl
                                                refine pure_ (i := 3) (N := some 115) (v := ?_) (a' := ?_) #[true, true, true, true, false, false, false, false, false, false, false, false, false] rfl rfl (any_of HT_.out (by kernel_rfl)) (fun _ _ _ h => h) (Or.inl ⟨by rfl, ?_⟩) ?_ ?_
                                                rotate_left
                                                · intro w'
                                                  go_simp
                                                  with_reducible rfl
                                                rotate_left
                                                · simp only [Act.put, List.setIfInBounds_toArray, List.set_cons_zero, List.set_cons_succ, i64_w, i32_w]
                                                  rfl
                                                refine pure_ (i := 6) (N := some 118) (v := ?_) (a' := ?_) #[true, true, true, true, false, false, true, false, false, false, false, false, false] rfl rfl (any_of HT_.out (by kernel_rfl)) (fun _ _ _ h => h) (Or.inl ⟨by rfl, ?_⟩) ?_ ?_
                                                rotate_left
                                                · intro w'
                                                  go_simp
                                                  with_reducible rfl
                                                rotate_left
                                                · simp only [Act.put, List.setIfInBounds_toArray, List.set_cons_zero, List.set_cons_succ, i64_w, i32_w]
                                                  rfl
                                                refine pure_ (i := 7) (N := some 119) (v := ?_) (a' := ?_) #[true, true, true, true, false, false, true, true, false, false, false, false, false] rfl rfl (any_of HT_.out (by kernel_rfl)) (fun _ _ _ h => h) (Or.inl ⟨by rfl, ?_⟩) ?_ ?_
                                                rotate_left
                                                · intro w'
                                                  go_simp
                                                  with_reducible rfl
                                                rotate_left
                                                · simp only [Act.put, List.setIfInBounds_toArray, List.set_cons_zero, List.set_cons_succ, i64_w, i32_w]
                                                  rfl
                                                refine pure_ (i := 8) (N := some 120) (v := ?_) (a' := ?_) #[true, true, true, true, false, false, true, true, true, false, false, false, false] rfl rfl (any_of HT_.out (by kernel_rfl)) (fun _ _ _ h => h) (Or.inl ⟨by rfl, ?_⟩) ?_ ?_
                                                rotate_left
                                                · intro w'
                                                  go_simp
                                                  with_reducible rfl
                                                rotate_left
                                                · simp only [Act.put, List.setIfInBounds_toArray, List.set_cons_zero, List.set_cons_succ, i64_w, i32_w]
                                                  rfl
                                                refine pure_ (i := 9) (N := some 121) (v := ?_) (a' := ?_) #[true, true, true, true, false, false, true, true, true, true, false, false, false] rfl rfl (any_of HT_.out (by kernel_rfl)) (fun _ _ _ h => h) (Or.inl ⟨by rfl, ?_⟩) ?_ ?_
                                                rotate_left
                                                · intro w'
                                                  go_simp
                                                  with_reducible rfl
                                                rotate_left
                                                · simp only [Act.put, List.setIfInBounds_toArray, List.set_cons_zero, List.set_cons_succ, i64_w, i32_w]
                                                  rfl
                                                refine take_ (i := 4) (N := some 116) (v := ?_) (a' := ?_) #[true, true, true, true, true, false, true, true, true, true, false, false, false] rfl rfl (take_ofW HT_.out HW_.out (by kernel_rfl)) (fun _ _ _ h => h) (Or.inl ⟨by rfl, ?_⟩) hHeld ?_ ?_
                                                rotate_left
                                                · rintro w' ⟨s0, s1⟩
                                                  go_simp
                                                  with_reducible rfl
                                                rotate_left
                                                · simp only [Act.put, List.setIfInBounds_toArray, List.set_cons_zero, List.set_cons_succ, i64_w, i32_w]
                                                  rfl
                                                refine take_ (i := 10) (N := some 122) (v := ?_) (a' := ?_) #[true, true, true, true, true, false, true, true, true, true, true, false, false] rfl rfl (take_ofW HT_.out HW_.out (by kernel_rfl)) (fun _ _ _ h => h) (Or.inl ⟨by rfl, ?_⟩) hHeld ?_ ?_
                                                rotate_left
                                                · rintro w' ⟨s0, s1⟩
                                                  go_simp
                                                  with_reducible rfl
                                                rotate_left
                                                · simp only [Act.put, List.setIfInBounds_toArray, List.set_cons_zero, List.set_cons_succ, i64_w, i32_w]
                                                  rfl
                                                refine one_ (i := 5) (N := some 117) #[true, true, true, true, true, true, true, true, true, true, true, false, false] rfl rfl (one_of HT_.out (by kernel_rfl)) (by decide) (fun K hK => ?_)
                                                refine goes_ Tryd.func17 (by kernel_rfl) rfl #[.string a1, .slice A224_0 (rd_L1 t213 x12_3).length c224_0] (by rfl) rfl rfl (by (try simp only [List.map_toArray, List.map_cons, List.map_nil]); first | done | rfl | (simp only [List.length_drop, List.length_take]; rfl)) ?_
                                                with_reducible refine (matrix_Label.calls kj37 a1 _ _ (rd_L1 t213 x12_3) t225 _ ?side1 ?side2 A43.out).mono ?_
                                                (case side1 => repeat (first | exact (by repeat (first | (with_reducible exact HR224_0.out) | (with_reducible refine Kd.C_alloc ?_ _) | (with_reducible refine Kd.C_drewN ?_ _) | (with_reducible refine Kd.C_drew ?_) | exact HR224_0.out)) | (with_reducible refine Kd.C_alloc ?_ _) | (with_reducible refine Kd.C_drewN ?_ _) | (with_reducible refine Kd.C_drew ?_)))
                                                (case side2 => exact HC224_0.out)
                                                rintro e w49 ⟨rfl, hb⟩
                                                have HS0_ := (hb.cell (World.block_lt_of_cell? _ _ (hHeld.1))).trans (hHeld.1)
                                                have HS1_ := (hb.cell (World.block_lt_of_cell? _ _ (hHeld.2))).trans (hHeld.2)
                                                refine ⟨_, rfl, ?_⟩
                                                have n0_ := Aside0.mk (Kd.S_below (by (with_reducible repeat (first | apply Kd.S_alloc | apply Kd.S_drewN | apply Kd.S_drew)); exact HO_5.out) hb)
                                                have n1_ := Aside0.mk (Kd.R_below (by (with_reducible repeat (first | apply Kd.R_alloc | apply Kd.R_drewN | apply Kd.R_drew)); exact HL224_0.out) hb)
                                                have n2_ := Aside0.mk (Kd.R_below (by (with_reducible repeat (first | apply Kd.R_alloc | apply Kd.R_drewN | apply Kd.R_drew)); exact HL226_0.out) hb)
                                                have n3_ := Aside0.mk (Kd.C_below (by repeat (first | (with_reducible exact HR223_0.out) | (with_reducible refine Kd.C_alloc ?_ _) | (with_reducible refine Kd.C_drewN ?_ _) | (with_reducible refine Kd.C_drew ?_) | exact HR223_0.out)) hb)
                                                have n4_ := Aside0.mk (Kd.C_below (by repeat (first | (with_reducible exact HR224_0.out) | (with_reducible refine Kd.C_alloc ?_ _) | (with_reducible refine Kd.C_drewN ?_ _) | (with_reducible refine Kd.C_drew ?_) | exact HR224_0.out)) hb)
                                                have n5_ := Aside0.mk (Kd.C_below (by repeat (first | (with_reducible exact HR226_0.out) | (with_reducible refine Kd.C_alloc ?_ _) | (with_reducible refine Kd.C_drewN ?_ _) | (with_reducible refine Kd.C_drew ?_) | exact HR226_0.out)) hb)
                                                have n6_ := Aside0.mk (below_step (by repeat (first | (with_reducible first | exact HB.out | apply below_alloc | apply pw_below_drewN | apply below_drew1) | exact HB.out)) hb)
                                                clear HO_5
                                                clear HL224_0
                                                clear HL226_0
                                                clear HR223_0
                                                clear HR224_0
                                                clear HR226_0
                                                clear HB
                                                have HO_5 := n0_
                                                have HL224_0 := n1_
                                                have HL226_0 := n2_
                                                have HR223_0 := n3_
                                                have HR224_0 := n4_
                                                have HR226_0 := n5_
                                                have HB := n6_
                                                clear n0_ n1_ n2_ n3_ n4_ n5_ n6_
                                                (try clear hb)
                                                (try clear hb2)
                                                (try clear hk)
                                                (try clear hi)
                                                refine hK.out _ _ ⟨HS0_, HS1_⟩ (fun hHeld => ?_)
                                                clear hK K
                                                refine norm_ (a' := ?_) ?_ ?_
                                                rotate_left
                                                · show Act.put _ (some 117) _ = _
                                                  simp only [Act.put, List.setIfInBounds_toArray, List.set_cons_zero, List.set_cons_succ, i64_w, i32_w]
                                                  rfl
                                                refine one_ (i := 11) (N := some 123) #[true, true, true, true, true, true, true, true, true, true, true, true, false] rfl rfl (one_of HT_.out (by kernel_rfl)) (by decide) (fun K hK => ?_)
                                                refine goes_ Tryd.func17 (by kernel_rfl) rfl #[.string a1, .slice A226_0 (rd_L1 t213 x13_4).length c226_0] (by rfl) rfl rfl (by (try simp only [List.map_toArray, List.map_cons, List.map_nil]); first | done | rfl | (simp only [List.length_drop, List.length_take]; rfl)) ?_
                                                with_reducible refine (matrix_Label.calls kj37 a1 _ _ (rd_L1 t213 x13_4) t227 _ ?side1 ?side2 A46.out).mono ?_
                                                (case side1 => repeat (first | exact (by repeat (first | (with_reducible exact HR226_0.out) | (with_reducible refine Kd.C_alloc ?_ _) | (with_reducible refine Kd.C_drewN ?_ _) | (with_reducible refine Kd.C_drew ?_) | exact HR226_0.out)) | (with_reducible refine Kd.C_alloc ?_ _) | (with_reducible refine Kd.C_drewN ?_ _) | (with_reducible refine Kd.C_drew ?_)))
                                                (case side2 => exact HC226_0.out)
                                                rintro e w50 ⟨rfl, hb⟩
                                                have HS0_ := (hb.cell (World.block_lt_of_cell? _ _ (hHeld.1))).trans (hHeld.1)
                                                have HS1_ := (hb.cell (World.block_lt_of_cell? _ _ (hHeld.2))).trans (hHeld.2)
                                                refine ⟨_, rfl, ?_⟩
                                                have n0_ := Aside0.mk (Kd.S_below (by (with_reducible repeat (first | apply Kd.S_alloc | apply Kd.S_drewN | apply Kd.S_drew)); exact HO_5.out) hb)
                                                have n1_ := Aside0.mk (Kd.R_below (by (with_reducible repeat (first | apply Kd.R_alloc | apply Kd.R_drewN | apply Kd.R_drew)); exact HL224_0.out) hb)
                                                have n2_ := Aside0.mk (Kd.R_below (by (with_reducible repeat (first | apply Kd.R_alloc | apply Kd.R_drewN | apply Kd.R_drew)); exact HL226_0.out) hb)
                                                have n3_ := Aside0.mk (Kd.C_below (by repeat (first | (with_reducible exact HR223_0.out) | (with_reducible refine Kd.C_alloc ?_ _) | (with_reducible refine Kd.C_drewN ?_ _) | (with_reducible refine Kd.C_drew ?_) | exact HR223_0.out)) hb)
                                                have n4_ := Aside0.mk (Kd.C_below (by repeat (first | (with_reducible exact HR224_0.out) | (with_reducible refine Kd.C_alloc ?_ _) | (with_reducible refine Kd.C_drewN ?_ _) | (with_reducible refine Kd.C_drew ?_) | exact HR224_0.out)) hb)
                                                have n5_ := Aside0.mk (Kd.C_below (by repeat (first | (with_reducible exact HR226_0.out) | (with_reducible refine Kd.C_alloc ?_ _) | (with_reducible refine Kd.C_drewN ?_ _) | (with_reducible refine Kd.C_drew ?_) | exact HR226_0.out)) hb)
                                                have n6_ := Aside0.mk (below_step (by repeat (first | (with_reducible first | exact HB.out | apply below_alloc | apply pw_below_drewN | apply below_drew1) | exact HB.out)) hb)
                                                clear HO_5
                                                clear HL224_0
                                                clear HL226_0
                                                clear HR223_0
                                                clear HR224_0
                                                clear HR226_0
                                                clear HB
                                                have HO_5 := n0_
                                                have HL224_0 := n1_
                                                have HL226_0 := n2_
                                                have HR223_0 := n3_
                                                have HR224_0 := n4_
                                                have HR226_0 := n5_
                                                have HB := n6_
                                                clear n0_ n1_ n2_ n3_ n4_ n5_ n6_
                                                (try clear hb)
                                                (try clear hb2)
                                                (try clear hk)
                                                (try clear hi)
                                                refine hK.out _ _ ⟨HS0_, HS1_⟩ (fun hHeld => ?_)
                                                clear hK K
                                                refine norm_ (a' := ?_) ?_ ?_
                                                rotate_left
                                                · show Act.put _ (some 123) _ = _
                                                  simp only [Act.put, List.setIfInBounds_toArray, List.set_cons_zero, List.set_cons_succ, i64_w, i32_w]
                                                  rfl
                                                refine pure_ (i := 12) (N := some 124) (v := ?_) (a' := ?_) #[true, true, true, true, true, true, true, true, true, true, true, true, true] rfl rfl (any_of HT_.out (by kernel_rfl)) (fun _ _ _ h => h) (Or.inl ⟨by rfl, ?_⟩) ?_ ?_
                                                rotate_left
                                                · intro w'
                                                  go_simp
                                                  with_reducible rfl
                                                rotate_left
                                                · simp only [Act.put, List.setIfInBounds_toArray, List.set_cons_zero, List.set_cons_succ, i64_w, i32_w]
                                                  rfl
                                                refine done_ (done_of HT_.out (by kernel_rfl)) ?_
                                                try go_wp2
                                                go_ret
                                                exact ⟨by first | rfl | (simp [errW_none, errW_some] <;> rfl) | (simp [*, errW_none, errW_some] <;> rfl), by repeat (first | (with_reducible first | exact HB.out | apply below_alloc | apply pw_below_drewN | apply below_drew1) | exact HB.out)⟩
                                              · rw [if_neg c47] at H
                                                have c47b0 : (t225.toList == t227.toList) = false := beq_eq_false_iff_ne.mpr c47
                                                have c47b1 : (t225.toList != t227.toList) = true := bne_iff_ne.mpr c47
                                                have H' := Aside0.mk H
                                                clear H
                                                try go_wp2
                                                have n0_ := Aside0.mk (Kd.S_drew HO_5.out)
                                                have n1_ := Aside0.mk (Kd.C_drew HR223_0.out)
                                                have n2_ := Aside0.mk (below_drew1 HB.out)
                                                clear HO_5
                                                clear HR223_0
                                                clear HB
                                                have HO_5 := n0_
                                                have HR223_0 := n1_
                                                have HB := n2_
                                                clear n0_ n1_ n2_
                                                have p224 : 0 ≤ (x12_3 : Int) := of_decide_eq_true (by first | (with_reducible assumption) | assumption)
                                                have q224 : x12_3 < (t213.length : Int) := of_decide_eq_true (by first | (with_reducible assumption) | assumption)
                                                obtain ⟨ad224, A224_0, c224_0, e224, hx224_0, hl224_0, hi224_0⟩ := at_L1 (Kd.S_reads' HO_5.out).2.2 x12_3 p224 q224
                                                obtain rfl : ad223 = ad224 := (by injection e224)
                                                obtain ⟨ce224, hce224, hMe224, hcc224⟩ := Kd.S_get HO_5.out [] x12_3 p224 (by first | exact q224 | exact of_decide_eq_true (by first | (with_reducible assumption) | assumption) | (have e_ := (Kd.S_reads' HO_5.out).1; omega))
                                                obtain ⟨ve224_0, rfl, ge224_0⟩ := hMe224
                                                have hv224_0 := hcc224 0 _ rfl
                                                rw [Nat.add_zero, show ((Kd.slice 9 Kd.string)).sz = 1 from rfl, Nat.mul_one] at hv224_0
                                                replace hv224_0 := Option.some.inj (hv224_0.symm.trans hx224_0)
                                                rw [hv224_0] at ge224_0
                                                have HL224_0 := Aside0.mk (show Kd.R Kd.string 9 _ _ _ _ (rd_L1 t213 x12_3) from ge224_0)
                                                clear hv224_0 ge224_0
                                                clear hcc224 hce224
                                                have HR224_0 := Aside0.mk hi224_0
                                                have HC224_0 := Aside0.mk hl224_0
                                                clear hi224_0 hl224_0
                                                replace p224 := eq_true p224
                                                replace q224 := eq_true q224
                                                have p226 : 0 ≤ (x13_4 : Int) := of_decide_eq_true (by first | (with_reducible assumption) | assumption)
                                                have q226 : x13_4 < (t213.length : Int) := of_decide_eq_true (by first | (with_reducible assumption) | assumption)
                                                obtain ⟨ad226, A226_0, c226_0, e226, hx226_0, hl226_0, hi226_0⟩ := at_L1 (Kd.S_reads' HO_5.out).2.2 x13_4 p226 q226
                                                obtain rfl : ad223 = ad226 := (by injection e226)
                                                obtain ⟨ce226, hce226, hMe226, hcc226⟩ := Kd.S_get HO_5.out [] x13_4 p226 (by first | exact q226 | exact of_decide_eq_true (by first | (with_reducible assumption) | assumption) | (have e_ := (Kd.S_reads' HO_5.out).1; omega))
                                                obtain ⟨ve226_0, rfl, ge226_0⟩ := hMe226
                                                have hv226_0 := hcc226 0 _ rfl
                                                rw [Nat.add_zero, show ((Kd.slice 9 Kd.string)).sz = 1 from rfl, Nat.mul_one] at hv226_0
                                                replace hv226_0 := Option.some.inj (hv226_0.symm.trans hx226_0)
                                                rw [hv226_0] at ge226_0
                                                have HL226_0 := Aside0.mk (show Kd.R Kd.string 9 _ _ _ _ (rd_L1 t213 x13_4) from ge226_0)
                                                clear hv226_0 ge226_0
                                                clear hcc226 hce226
                                                have HR226_0 := Aside0.mk hi226_0
                                                have HC226_0 := Aside0.mk hl226_0
                                                clear hi226_0 hl226_0
                                                replace p226 := eq_true p226
                                                replace q226 := eq_true q226
                                                refine start_ (n := 13) (S := fun w' => w'.cell? (ad223.add (x12_3).toNat) = some (.slice A224_0 (rd_L1 t213 x12_3).length c224_0) ∧ w'.cell? (ad223.add (x13_4).toNat) = some (.slice A226_0 (rd_L1 t213 x13_4).length c226_0)) (ds := []) #[false, false, false, false, false, false, false, false, false, false, false, false, false] (by kernel_rfl) rfl rfl ⟨hx224_0, hx226_0⟩ (fun hHeld => ?_); refine with_tabW bastionlaw14_MatrixCounts.tab29 bastionlaw14_MatrixCounts.bits29 (fun HT_ HW_ => ?_)
                                                generalize wc.drew = w51 at HO_5 HR223_0 HB HL224_0 HL226_0 HR224_0 HR226_0 hx224_0 hx226_0 hHeld ⊢
                                                refine pure_ (i := 0) (N := some 112) (v := ?_) (a' := ?_) #[true, false, false, false, false, false, false, false, false, false, false, false, false] rfl rfl (any_of HT_.out (by kernel_rfl)) (fun _ _ _ h => h) (Or.inl ⟨by rfl, ?_⟩) ?_ ?_
                                                rotate_left
                                                · intro w'
                                                  go_simp
                                                  with_reducible rfl
                                                rotate_left
                                                · simp only [Act.put, List.setIfInBounds_toArray, List.set_cons_zero, List.set_cons_succ, i64_w, i32_w]
                                                  rfl
                                                refine pure_ (i := 1) (N := some 113) (v := ?_) (a' := ?_) #[true, true, false, false, false, false, false, false, false, false, false, false, false] rfl rfl (any_of HT_.out (by kernel_rfl)) (fun _ _ _ h => h) (Or.inl ⟨by rfl, ?_⟩) ?_ ?_
                                                rotate_left
                                                · intro w'
                                                  go_simp
                                                  with_reducible rfl
                                                rotate_left
                                                · simp only [Act.put, List.setIfInBounds_toArray, List.set_cons_zero, List.set_cons_succ, i64_w, i32_w]
                                                  rfl
                                                refine pure_ (i := 2) (N := some 114) (v := ?_) (a' := ?_) #[true, true, true, false, false, false, false, false, false, false, false, false, false] rfl rfl (any_of HT_.out (by kernel_rfl)) (fun _ _ _ h => h) (Or.inl ⟨by rfl, ?_⟩) ?_ ?_
                                                rotate_left
                                                · intro w'
                                                  go_simp
                                                  with_reducible rfl
                                                rotate_left
                                                · simp only [Act.put, List.setIfInBounds_toArray, List.set_cons_zero, List.set_cons_succ, i64_w, i32_w]
                                                  rfl
                                                refine pure_ (i := 3) (N := some 115) (v := ?_) (a' := ?_) #[true, true, true, true, false, false, false, false, false, false, false, false, false] rfl rfl (any_of HT_.out (by kernel_rfl)) (fun _ _ _ h => h) (Or.inl ⟨by rfl, ?_⟩) ?_ ?_
                                                rotate_left
                                                · intro w'
                                                  go_simp
                                                  with_reducible rfl
                                                rotate_left
                                                · simp only [Act.put, List.setIfInBounds_toArray, List.set_cons_zero, List.set_cons_succ, i64_w, i32_w]
                                                  rfl
                                                refine pure_ (i := 6) (N := some 118) (v := ?_) (a' := ?_) #[true, true, true, true, false, false, true, false, false, false, false, false, false] rfl rfl (any_of HT_.out (by kernel_rfl)) (fun _ _ _ h => h) (Or.inl ⟨by rfl, ?_⟩) ?_ ?_
                                                rotate_left
                                                · intro w'
                                                  go_simp
                                                  with_reducible rfl
                                                rotate_left
                                                · simp only [Act.put, List.setIfInBounds_toArray, List.set_cons_zero, List.set_cons_succ, i64_w, i32_w]
                                                  rfl
                                                refine pure_ (i := 7) (N := some 119) (v := ?_) (a' := ?_) #[true, true, true, true, false, false, true, true, false, false, false, false, false] rfl rfl (any_of HT_.out (by kernel_rfl)) (fun _ _ _ h => h) (Or.inl ⟨by rfl, ?_⟩) ?_ ?_
                                                rotate_left
                                                · intro w'
                                                  go_simp
                                                  with_reducible rfl
                                                rotate_left
                                                · simp only [Act.put, List.setIfInBounds_toArray, List.set_cons_zero, List.set_cons_succ, i64_w, i32_w]
                                                  rfl
                                                refine pure_ (i := 8) (N := some 120) (v := ?_) (a' := ?_) #[true, true, true, true, false, false, true, true, true, false, false, false, false] rfl rfl (any_of HT_.out (by kernel_rfl)) (fun _ _ _ h => h) (Or.inl ⟨by rfl, ?_⟩) ?_ ?_
                                                rotate_left
                                                · intro w'
                                                  go_simp
                                                  with_reducible rfl
                                                rotate_left
                                                · simp only [Act.put, List.setIfInBounds_toArray, List.set_cons_zero, List.set_cons_succ, i64_w, i32_w]
                                                  rfl
                                                refine pure_ (i := 9) (N := some 121) (v := ?_) (a' := ?_) #[true, true, true, true, false, false, true, true, true, true, false, false, false] rfl rfl (any_of HT_.out (by kernel_rfl)) (fun _ _ _ h => h) (Or.inl ⟨by rfl, ?_⟩) ?_ ?_
                                                rotate_left
                                                · intro w'
                                                  go_simp
                                                  with_reducible rfl
                                                rotate_left
                                                · simp only [Act.put, List.setIfInBounds_toArray, List.set_cons_zero, List.set_cons_succ, i64_w, i32_w]
                                                  rfl
                                                refine take_ (i := 4) (N := some 116) (v := ?_) (a' := ?_) #[true, true, true, true, true, false, true, true, true, true, false, false, false] rfl rfl (take_ofW HT_.out HW_.out (by kernel_rfl)) (fun _ _ _ h => h) (Or.inl ⟨by rfl, ?_⟩) hHeld ?_ ?_
                                                rotate_left
                                                · rintro w' ⟨s0, s1⟩
                                                  go_simp
                                                  with_reducible rfl
                                                rotate_left
                                                · simp only [Act.put, List.setIfInBounds_toArray, List.set_cons_zero, List.set_cons_succ, i64_w, i32_w]
                                                  rfl
                                                refine take_ (i := 10) (N := some 122) (v := ?_) (a' := ?_) #[true, true, true, true, true, false, true, true, true, true, true, false, false] rfl rfl (take_ofW HT_.out HW_.out (by kernel_rfl)) (fun _ _ _ h => h) (Or.inl ⟨by rfl, ?_⟩) hHeld ?_ ?_
                                                rotate_left
                                                · rintro w' ⟨s0, s1⟩
                                                  go_simp
                                                  with_reducible rfl
                                                rotate_left
                                                · simp only [Act.put, List.setIfInBounds_toArray, List.set_cons_zero, List.set_cons_succ, i64_w, i32_w]
                                                  rfl
                                                refine one_ (i := 5) (N := some 117) #[true, true, true, true, true, true, true, true, true, true, true, false, false] rfl rfl (one_of HT_.out (by kernel_rfl)) (by decide) (fun K hK => ?_)
                                                refine goes_ Tryd.func17 (by kernel_rfl) rfl #[.string a1, .slice A224_0 (rd_L1 t213 x12_3).length c224_0] (by rfl) rfl rfl (by (try simp only [List.map_toArray, List.map_cons, List.map_nil]); first | done | rfl | (simp only [List.length_drop, List.length_take]; rfl)) ?_
                                                with_reducible refine (matrix_Label.calls kj37 a1 _ _ (rd_L1 t213 x12_3) t225 _ ?side1 ?side2 A43.out).mono ?_
                                                (case side1 => repeat (first | exact (by repeat (first | (with_reducible exact HR224_0.out) | (with_reducible refine Kd.C_alloc ?_ _) | (with_reducible refine Kd.C_drewN ?_ _) | (with_reducible refine Kd.C_drew ?_) | exact HR224_0.out)) | (with_reducible refine Kd.C_alloc ?_ _) | (with_reducible refine Kd.C_drewN ?_ _) | (with_reducible refine Kd.C_drew ?_)))
                                                (case side2 => exact HC224_0.out)
                                                rintro e w52 ⟨rfl, hb⟩
                                                have HS0_ := (hb.cell (World.block_lt_of_cell? _ _ (hHeld.1))).trans (hHeld.1)
                                                have HS1_ := (hb.cell (World.block_lt_of_cell? _ _ (hHeld.2))).trans (hHeld.2)
                                                refine ⟨_, rfl, ?_⟩
                                                have n0_ := Aside0.mk (Kd.S_below (by (with_reducible repeat (first | apply Kd.S_alloc | apply Kd.S_drewN | apply Kd.S_drew)); exact HO_5.out) hb)
                                                have n1_ := Aside0.mk (Kd.R_below (by (with_reducible repeat (first | apply Kd.R_alloc | apply Kd.R_drewN | apply Kd.R_drew)); exact HL224_0.out) hb)
                                                have n2_ := Aside0.mk (Kd.R_below (by (with_reducible repeat (first | apply Kd.R_alloc | apply Kd.R_drewN | apply Kd.R_drew)); exact HL226_0.out) hb)
                                                have n3_ := Aside0.mk (Kd.C_below (by repeat (first | (with_reducible exact HR223_0.out) | (with_reducible refine Kd.C_alloc ?_ _) | (with_reducible refine Kd.C_drewN ?_ _) | (with_reducible refine Kd.C_drew ?_) | exact HR223_0.out)) hb)
                                                have n4_ := Aside0.mk (Kd.C_below (by repeat (first | (with_reducible exact HR224_0.out) | (with_reducible refine Kd.C_alloc ?_ _) | (with_reducible refine Kd.C_drewN ?_ _) | (with_reducible refine Kd.C_drew ?_) | exact HR224_0.out)) hb)
                                                have n5_ := Aside0.mk (Kd.C_below (by repeat (first | (with_reducible exact HR226_0.out) | (with_reducible refine Kd.C_alloc ?_ _) | (with_reducible refine Kd.C_drewN ?_ _) | (with_reducible refine Kd.C_drew ?_) | exact HR226_0.out)) hb)
                                                have n6_ := Aside0.mk (below_step (by repeat (first | (with_reducible first | exact HB.out | apply below_alloc | apply pw_below_drewN | apply below_drew1) | exact HB.out)) hb)
                                                clear HO_5
                                                clear HL224_0
                                                clear HL226_0
                                                clear HR223_0
                                                clear HR224_0
                                                clear HR226_0
                                                clear HB
                                                have HO_5 := n0_
                                                have HL224_0 := n1_
                                                have HL226_0 := n2_
                                                have HR223_0 := n3_
                                                have HR224_0 := n4_
                                                have HR226_0 := n5_
                                                have HB := n6_
                                                clear n0_ n1_ n2_ n3_ n4_ n5_ n6_
                                                (try clear hb)
                                                (try clear hb2)
                                                (try clear hk)
                                                (try clear hi)
                                                refine hK.out _ _ ⟨HS0_, HS1_⟩ (fun hHeld => ?_)
                                                clear hK K
                                                refine norm_ (a' := ?_) ?_ ?_
                                                rotate_left
                                                · show Act.put _ (some 117) _ = _
                                                  simp only [Act.put, List.setIfInBounds_toArray, List.set_cons_zero, List.set_cons_succ, i64_w, i32_w]
                                                  rfl
                                                refine one_ (i := 11) (N := some 123) #[true, true, true, true, true, true, true, true, true, true, true, true, false] rfl rfl (one_of HT_.out (by kernel_rfl)) (by decide) (fun K hK => ?_)
                                                refine goes_ Tryd.func17 (by kernel_rfl) rfl #[.string a1, .slice A226_0 (rd_L1 t213 x13_4).length c226_0] (by rfl) rfl rfl (by (try simp only [List.map_toArray, List.map_cons, List.map_nil]); first | done | rfl | (simp only [List.length_drop, List.length_take]; rfl)) ?_
                                                with_reducible refine (matrix_Label.calls kj37 a1 _ _ (rd_L1 t213 x13_4) t227 _ ?side1 ?side2 A46.out).mono ?_
                                                (case side1 => repeat (first | exact (by repeat (first | (with_reducible exact HR226_0.out) | (with_reducible refine Kd.C_alloc ?_ _) | (with_reducible refine Kd.C_drewN ?_ _) | (with_reducible refine Kd.C_drew ?_) | exact HR226_0.out)) | (with_reducible refine Kd.C_alloc ?_ _) | (with_reducible refine Kd.C_drewN ?_ _) | (with_reducible refine Kd.C_drew ?_)))
                                                (case side2 => exact HC226_0.out)
                                                rintro e w53 ⟨rfl, hb⟩
                                                have HS0_ := (hb.cell (World.block_lt_of_cell? _ _ (hHeld.1))).trans (hHeld.1)
                                                have HS1_ := (hb.cell (World.block_lt_of_cell? _ _ (hHeld.2))).trans (hHeld.2)
                                                refine ⟨_, rfl, ?_⟩
                                                have n0_ := Aside0.mk (Kd.S_below (by (with_reducible repeat (first | apply Kd.S_alloc | apply Kd.S_drewN | apply Kd.S_drew)); exact HO_5.out) hb)
                                                have n1_ := Aside0.mk (Kd.R_below (by (with_reducible repeat (first | apply Kd.R_alloc | apply Kd.R_drewN | apply Kd.R_drew)); exact HL224_0.out) hb)
                                                have n2_ := Aside0.mk (Kd.R_below (by (with_reducible repeat (first | apply Kd.R_alloc | apply Kd.R_drewN | apply Kd.R_drew)); exact HL226_0.out) hb)
                                                have n3_ := Aside0.mk (Kd.C_below (by repeat (first | (with_reducible exact HR223_0.out) | (with_reducible refine Kd.C_alloc ?_ _) | (with_reducible refine Kd.C_drewN ?_ _) | (with_reducible refine Kd.C_drew ?_) | exact HR223_0.out)) hb)
                                                have n4_ := Aside0.mk (Kd.C_below (by repeat (first | (with_reducible exact HR224_0.out) | (with_reducible refine Kd.C_alloc ?_ _) | (with_reducible refine Kd.C_drewN ?_ _) | (with_reducible refine Kd.C_drew ?_) | exact HR224_0.out)) hb)
                                                have n5_ := Aside0.mk (Kd.C_below (by repeat (first | (with_reducible exact HR226_0.out) | (with_reducible refine Kd.C_alloc ?_ _) | (with_reducible refine Kd.C_drewN ?_ _) | (with_reducible refine Kd.C_drew ?_) | exact HR226_0.out)) hb)
                                                have n6_ := Aside0.mk (below_step (by repeat (first | (with_reducible first | exact HB.out | apply below_alloc | apply pw_below_drewN | apply below_drew1) | exact HB.out)) hb)
                                                clear HO_5
                                                clear HL224_0
                                                clear HL226_0
                                                clear HR223_0
                                                clear HR224_0
                                                clear HR226_0
                                                clear HB
                                                have HO_5 := n0_
                                                have HL224_0 := n1_
                                                have HL226_0 := n2_
                                                have HR223_0 := n3_
                                                have HR224_0 := n4_
                                                have HR226_0 := n5_
                                                have HB := n6_
                                                clear n0_ n1_ n2_ n3_ n4_ n5_ n6_
                                                (try clear hb)
                                                (try clear hb2)
                                                (try clear hk)
                                                (try clear hi)
                                                refine hK.out _ _ ⟨HS0_, HS1_⟩ (fun hHeld => ?_)
                                                clear hK K
                                                refine norm_ (a' := ?_) ?_ ?_
                                                rotate_left
                                                · show Act.put _ (some 123) _ = _
                                                  simp only [Act.put, List.setIfInBounds_toArray, List.set_cons_zero, List.set_cons_succ, i64_w, i32_w]
                                                  rfl
                                                refine pure_ (i := 12) (N := some 124) (v := ?_) (a' := ?_) #[true, true, true, true, true, true, true, true, true, true, true, true, true] rfl rfl (any_of HT_.out (by kernel_rfl)) (fun _ _ _ h => h) (Or.inl ⟨by rfl, ?_⟩) ?_ ?_
                                                rotate_left
                                                · intro w'
                                                  go_simp
                                                  with_reducible rfl
                                                rotate_left
                                                · simp only [Act.put, List.setIfInBounds_toArray, List.set_cons_zero, List.set_cons_succ, i64_w, i32_w]
                                                  rfl
                                                refine done_ (done_of HT_.out (by kernel_rfl)) ?_
                                                try go_wp2
                                                go_roundg kj37
                                                case measure => have := HJ2.out; have := HK2.out; have := HK3.out; have := HK4.out; have := HJ37.out; omega
                                                case rel => exact ⟨(wrap64 (x13_4 + 1)), (by first | rfl | (simp; done) | (simp [*]; done)), H', ⟨by have := HJ2.out; have := HK2.out; have := HK3.out; have := HK4.out; have := HJ37.out; omega⟩, ⟨by (with_reducible repeat (first | apply Kd.S_alloc | apply Kd.S_drewN | apply Kd.S_drew)); exact HO_5.out⟩, ⟨by repeat (first | (with_reducible exact HR223_0.out) | (with_reducible refine Kd.C_alloc ?_ _) | (with_reducible refine Kd.C_drewN ?_ _) | (with_reducible refine Kd.C_drew ?_) | exact HR223_0.out)⟩, ⟨by repeat (first | (with_reducible first | exact HB.out | apply below_alloc | apply pw_below_drewN | apply below_drew1) | exact HB.out)⟩⟩
                                            · rw [if_neg c45] at H
                                              exact absurd H (by simp)
                                          · rw [if_neg c44] at H
                                            exact absurd H (by simp)
                                        · rw [if_neg c42] at H
                                          exact absurd H (by simp)
                                      · rw [if_neg c41] at H
                                        exact absurd H (by simp)
                                    · replace c40 := Bool.eq_false_iff.mpr c40
                                      subst c40
                                      have H1 : (bastionlaw14_MatrixCounts.l3 kj37 l0 a1 t213 x8_2 (wrap64 (x12_3 + 1))) = some r := by rw [if_neg (show ¬ (false = true) by decide)] at H; exact H
                                      clear H
                                      have H := H1
                                      clear H1
                                      have H' := Aside0.mk H
                                      clear H
                                      go_wp2
                                      go_roundg kj37
                                      case measure => have := HJ2.out; have := HK2.out; have := HK3.out; have := HK4.out; have := HJ37.out; omega
                                      case rel => exact ⟨(wrap64 (x12_3 + 1)), (by first | rfl | (simp; done) | (simp [*]; done)), H', ⟨by have := HJ2.out; have := HK2.out; have := HK3.out; have := HK4.out; have := HJ37.out; omega⟩, ⟨by (with_reducible repeat (first | apply Kd.S_alloc | apply Kd.S_drewN | apply Kd.S_drew)); exact HO_5.out⟩, ⟨by repeat (first | (with_reducible first | exact HB.out | apply below_alloc | apply pw_below_drewN | apply below_drew1) | exact HB.out)⟩⟩
                          · rw [if_neg c37] at H
                            have c37b0 : (((rd_L1 t213 x12_3).length : Int) == (l0.length : Int)) = false := beq_eq_false_iff_ne.mpr c37
                            have c37b1 : (((rd_L1 t213 x12_3).length : Int) != (l0.length : Int)) = true := bne_iff_ne.mpr c37
                            have c37b2 : ((rd_L1 t213 x12_3).length == l0.length) = false := by first | simpa using c37 | (simp at c37 ⊢; omega)
                            obtain rfl := Option.some.inj H
                            have p223 : 0 ≤ (x12_3 : Int) := of_decide_eq_true (by first | (with_reducible assumption) | assumption)
                            have q223 : x12_3 < (t213.length : Int) := of_decide_eq_true (by first | (with_reducible assumption) | assumption)
                            obtain ⟨ad223, A223_0, c223_0, e223, hx223_0, hl223_0, hi223_0⟩ := at_L1 (Kd.S_reads' HO_5.out).2.2 x12_3 p223 q223
                            cases e223
                            obtain ⟨ce223, hce223, hMe223, hcc223⟩ := Kd.S_get HO_5.out [] x12_3 p223 (by first | exact q223 | exact of_decide_eq_true (by first | (with_reducible assumption) | assumption) | (have e_ := (Kd.S_reads' HO_5.out).1; omega))
                            obtain ⟨ve223_0, rfl, ge223_0⟩ := hMe223
                            have hv223_0 := hcc223 0 _ rfl
                            rw [Nat.add_zero, show ((Kd.slice 9 Kd.string)).sz = 1 from rfl, Nat.mul_one] at hv223_0
                            replace hv223_0 := Option.some.inj (hv223_0.symm.trans hx223_0)
                            rw [hv223_0] at ge223_0
                            have HL223_0 := Aside0.mk (show Kd.R Kd.string 9 _ _ _ _ (rd_L1 t213 x12_3) from ge223_0)
                            clear hv223_0 ge223_0
                            clear hcc223 hce223
                            have HR223_0 := Aside0.mk hi223_0
                            have HC223_0 := Aside0.mk hl223_0
                            clear hi223_0 hl223_0
                            replace p223 := eq_true p223
                            replace q223 := eq_true q223
                            go_wp2
                            go_ret
                            exact ⟨by first | rfl | (simp [errW_none, errW_some] <;> rfl) | (simp [*, errW_none, errW_some] <;> rfl), by repeat (first | (with_reducible first | exact HB.out | apply below_alloc | apply pw_below_drewN | apply below_drew1) | exact HB.out)⟩
                        · rw [if_neg c36] at H
                          exact absurd H (by simp)
                      · rw [if_neg c35] at H
                        have c35b0 : decide (x12_3 < (t213.length : Int)) = false := decide_eq_false c35
                        clear c35
                        obtain rfl := Option.some.inj H
                        go_wp2
                        go_ret
                        exact ⟨by first | rfl | (simp [errW_none, errW_some] <;> rfl) | (simp [*, errW_none, errW_some] <;> rfl), by repeat (first | (with_reducible first | exact HB.out | apply below_alloc | apply pw_below_drewN | apply below_drew1) | exact HB.out)⟩
                · rw [if_neg c33] at H
                  have c33b0 : ((t213.length : Int) == x7_2) = false := beq_eq_false_iff_ne.mpr c33
                  have c33b1 : ((t213.length : Int) != x7_2) = true := bne_iff_ne.mpr c33
                  obtain rfl := Option.some.inj H
                  obtain ⟨Ao54, co54, eo54⟩ := Kd.S_slice HO_5.out
                  subst eo54
                  go_wp2
                  go_ret
                  exact ⟨by first | rfl | (simp [errW_none, errW_some] <;> rfl) | (simp [*, errW_none, errW_some] <;> rfl), by repeat (first | (with_reducible first | exact HB.out | apply below_alloc | apply pw_below_drewN | apply below_drew1) | exact HB.out)⟩
        · rw [if_neg c14] at H
          have c14b0 : (t214 == 0) = false := beq_eq_false_iff_ne.mpr c14
          have c14b1 : (t214 != 0) = true := bne_iff_ne.mpr c14
          obtain rfl := Option.some.inj H
          go_wp2_with (first | ((with_reducible refine gate_callee (f := 11) rfl ?_); refine goesL_ (some 28) rfl rfl Tryd.func11 (by kernel_rfl) rfl #[.slice A0 l0.length c0] rfl (by (try simp only [List.map_toArray, List.map_cons, List.map_nil]); first | done | rfl | (simp only [List.length_drop, List.length_take]; rfl)) ?_; (with_reducible refine (bastionlaw14_given.calls kj2 _ _ l0 t210 _ ?side1 ?side2 A12.out).mono ?_); (case side1 => repeat (first | exact (Kd.C_below HR0.out HB.out) | (with_reducible refine Kd.C_alloc ?_ _) | (with_reducible refine Kd.C_drewN ?_ _) | (with_reducible refine Kd.C_drew ?_))); (case side2 => exact HC0.out); rintro e w55 ⟨v211, rfl, ho0, hb⟩; refine ⟨_, rfl, ?_⟩; have n0_ := Aside0.mk (Kd.S_lower ho0 (below_size (by repeat (first | (with_reducible first | exact HB.out | apply below_alloc | apply pw_below_drewN | apply below_drew1) | exact HB.out)))); have n1_ := Aside0.mk (below_step (by repeat (first | (with_reducible first | exact HB.out | apply below_alloc | apply pw_below_drewN | apply below_drew1) | exact HB.out)) hb); clear HB; have HO212 := n0_; have HB := n1_; clear n0_ n1_; (try clear hb); (try clear hb2); (try clear hk); (try clear hi); (try clear ho0); obtain ⟨Ao56, co56, eo56⟩ := Kd.S_slice HO212.out; subst eo56) | ((with_reducible refine gate_callee (f := 12) rfl ?_); refine goesL_ (some 29) rfl rfl Tryd.func12 (by kernel_rfl) rfl #[.slice Ao56 t210.length co56] rfl (by (try simp only [List.map_toArray, List.map_cons, List.map_nil]); first | done | rfl | (simp only [List.length_drop, List.length_take]; rfl)) ?_; (with_reducible refine (matrix_Rows.calls _ _ t210 t213 t214 _ ?side1 ?side2 A13.out).mono ?_); (case side1 => repeat (first | exact (Kd.S_reads' HO212.out).2.2 | (with_reducible refine Kd.C_alloc ?_ _) | (with_reducible refine Kd.C_drewN ?_ _) | (with_reducible refine Kd.C_drew ?_))); (case side2 => exact (Kd.S_reads' HO212.out).2.1); rintro e w57 ⟨v215, rfl, ho0, hb⟩; refine ⟨_, rfl, ?_⟩; have n0_ := Aside0.mk (Kd.S_below (by (with_reducible repeat (first | apply Kd.S_alloc | apply Kd.S_drewN | apply Kd.S_drew)); exact HO212.out) hb); have n1_ := Aside0.mk (Kd.S_lower ho0 (below_size (by repeat (first | (with_reducible first | exact HB.out | apply below_alloc | apply pw_below_drewN | apply below_drew1) | exact HB.out)))); have n2_ := Aside0.mk (below_step (by repeat (first | (with_reducible first | exact HB.out | apply below_alloc | apply pw_below_drewN | apply below_drew1) | exact HB.out)) hb); clear HO212; clear HB; have HO212 := n0_; have HO216 := n1_; have HB := n2_; clear n0_ n1_ n2_; (try clear hb); (try clear hb2); (try clear hk); (try clear hi); (try clear ho0); obtain ⟨Ao58, co58, eo58⟩ := Kd.S_slice HO216.out; subst eo58))
          go_ret
          exact ⟨by first | rfl | (simp [errW_none, errW_some] <;> rfl) | (simp [*, errW_none, errW_some] <;> rfl), by repeat (first | (with_reducible first | exact HB.out | apply below_alloc | apply pw_below_drewN | apply below_drew1) | exact HB.out)⟩

end Go.Proofs.YtifgdhmbjlfnhaaDoor.M
