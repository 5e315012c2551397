-- Written by wip/xprint.py: the kit's print with functions proved by hand in their places. Not trusted: Lean checks it.
import Derived.Test.YtdoifpjpdhccdaaEx0
import Derived.Test.YtdoifpjpdhccdaaEx3
namespace Go.Proofs.Ytdoifpjpdhccdaa.E
open Go.RowKit Go.Proofs.YtdoifpjpdhccdaaW.PrintWords Go.Proofs.YtdoifpjpdhccdaaW.PrintLast Go.Proofs.YtdoifpjpdhccdaaW.PrintMore
attribute [local go_sem] max2_int min2_int max_two min_two max_three min_three max_four min_four   -- for this text's walks alone
set_option linter.unusedVariables false
set_option linter.unusedSimpArgs false

/-! ### bastionref13_Subst: function 6 -/
mutual
def bastionref13_Subst.l0 : Nat → ByteArray → List (S32) → List Int → Int → Option (ByteArray × Int)
  | 0, _, _, _, _ => none
  | k + 1, x0, x1, x6, x7 => if x7 < (x0.size : Int) then (if 0 ≤ x7 then (if (bt x0 x7) = 36 then (if (wrap64 (x7 + 1)) < (x0.size : Int) then (if 0 ≤ (wrap64 (x7 + 1)) then (bastionref13_Subst.j1 k x0 x1 x6 (wrap64 (x7 + 1)) ((bt x0 (wrap64 (x7 + 1))) == 36)) else (none)) else (bastionref13_Subst.j1 k x0 x1 x6 (wrap64 (x7 + 1)) false)) else (if x6.length < 140737488355328 then (bastionref13_Subst.l0 k x0 x1 (x6 ++ [bt x0 x7]) (wrap64 (x7 + 1))) else (none))) else (none)) else (if (x6.length : Int) > 400 then (some ((⟨#[]⟩ : ByteArray), 40)) else (some (strOfNums x6, 0)))
def bastionref13_Subst.j1 : Nat → ByteArray → List (S32) → List Int → Int → Bool → Option (ByteArray × Int)
  | 0, _, _, _, _, _ => none
  | k + 1, x0, x1, x6, x7, x41 => if x41 = true then (if x6.length < 140737488355328 then (bastionref13_Subst.l0 k x0 x1 (x6 ++ [36]) (wrap64 (x7 + 1))) else (none)) else (if x7 < (x0.size : Int) then (if 0 ≤ x7 then (bastionref13_Subst.j2 k x0 x1 x6 x7 ((bt x0 x7) == 123)) else (none)) else (bastionref13_Subst.j2 k x0 x1 x6 x7 false))
def bastionref13_Subst.j2 : Nat → ByteArray → List (S32) → List Int → Int → Bool → Option (ByteArray × Int)
  | 0, _, _, _, _, _ => none
  | k + 1, x0, x1, x6, x7, x8 => if x8 = true then (bastionref13_Subst.j3 k x0 x1 x6 (wrap64 (x7 + 1)) x8) else (bastionref13_Subst.j3 k x0 x1 x6 x7 x8)
def bastionref13_Subst.j3 : Nat → ByteArray → List (S32) → List Int → Int → Bool → Option (ByteArray × Int)
  | 0, _, _, _, _, _ => none
  | k + 1, x0, x1, x6, x7, x8 => bastionref13_Subst.l1 k x0 x1 x6 x7 x8 x7
def bastionref13_Subst.j5 : Nat → ByteArray → List (S32) → List Int → Int → Bool → Int → Option (ByteArray × Int)
  | 0, _, _, _, _, _, _ => none
  | k + 1, x0, x1, x6, x7, x8, x9 => if 0 ≤ x9 then (if x9 ≤ x7 then (if x7 ≤ (x0.size : Int) then (if (x0.extract (x9 : Int).toNat (x7 : Int).toNat).toList = ([] : List UInt8) then (bastionref13_Subst.j6 k x0 x1 x6 x7 x8 (x0.extract (x9 : Int).toNat (x7 : Int).toNat) true) else (if ((x0.extract (x9 : Int).toNat (x7 : Int).toNat).size : Int) > 24 then (bastionref13_Subst.j6 k x0 x1 x6 x7 x8 (x0.extract (x9 : Int).toNat (x7 : Int).toNat) true) else (if x8 = true then (if x7 ≥ (x0.size : Int) then (bastionref13_Subst.j6 k x0 x1 x6 x7 x8 (x0.extract (x9 : Int).toNat (x7 : Int).toNat) true) else (if 0 ≤ x7 then (if x7 < (x0.size : Int) then (bastionref13_Subst.j6 k x0 x1 x6 x7 x8 (x0.extract (x9 : Int).toNat (x7 : Int).toNat) ((bt x0 x7) != 125)) else (none)) else (none))) else (bastionref13_Subst.j6 k x0 x1 x6 x7 x8 (x0.extract (x9 : Int).toNat (x7 : Int).toNat) false)))) else (none)) else (none)) else (none)
def bastionref13_Subst.j6 : Nat → ByteArray → List (S32) → List Int → Int → Bool → ByteArray → Bool → Option (ByteArray × Int)
  | 0, _, _, _, _, _, _, _ => none
  | k + 1, x0, x1, x6, x7, x8, x10, x114 => if x114 = true then (some ((⟨#[]⟩ : ByteArray), 4)) else (if x8 = true then (bastionref13_Subst.j7 k x0 x1 x6 (wrap64 (x7 + 1)) x10) else (bastionref13_Subst.j7 k x0 x1 x6 x7 x10))
def bastionref13_Subst.j7 : Nat → ByteArray → List (S32) → List Int → Int → ByteArray → Option (ByteArray × Int)
  | 0, _, _, _, _, _ => none
  | k + 1, x0, x1, x6, x7, x10 => bastionref13_Subst.l2 k x0 x1 x6 x7 x10 false (⟨#[]⟩ : ByteArray) 0
def bastionref13_Subst.l2 : Nat → ByteArray → List (S32) → List Int → Int → ByteArray → Bool → ByteArray → Int → Option (ByteArray × Int)
  | 0, _, _, _, _, _, _, _, _ => none
  | k + 1, x0, x1, x6, x7, x10, x11, x12, x13 => if x13 < (x1.length : Int) then (if 0 ≤ x13 then (if ((rd_T32 x1 x13).f0).toList = x10.toList then (bastionref13_Subst.l2 k x0 x1 x6 x7 x10 true ((rd_T32 x1 x13).f1) (wrap64 (x13 + 1))) else (bastionref13_Subst.l2 k x0 x1 x6 x7 x10 x11 x12 (wrap64 (x13 + 1)))) else (none)) else (if x11 = true then (if x6.length + x12.size < 140737488355328 then (bastionref13_Subst.l0 k x0 x1 (x6 ++ bytesOf x12) x7) else (none)) else (some ((⟨#[]⟩ : ByteArray), 63)))
def bastionref13_Subst.l1 : Nat → ByteArray → List (S32) → List Int → Int → Bool → Int → Option (ByteArray × Int)
  | 0, _, _, _, _, _, _ => none
  | k + 1, x0, x1, x6, x7, x8, x9 => if x7 < (x0.size : Int) then (if x7 = x9 then (if 0 ≤ x7 then ((bastionref13_letter.f (bt x0 x7)).bind fun t116 => (if t116 = true then (bastionref13_Subst.l1 k x0 x1 x6 (wrap64 (x7 + 1)) x8 x9) else (if x7 > x9 then ((bastionref13_mark.f (bt x0 x7)).bind fun t117 => (if t117 = true then (bastionref13_Subst.l1 k x0 x1 x6 (wrap64 (x7 + 1)) x8 x9) else (bastionref13_Subst.j5 k x0 x1 x6 x7 x8 x9))) else (bastionref13_Subst.j5 k x0 x1 x6 x7 x8 x9)))) else (none)) else (if x7 > x9 then (if 0 ≤ x7 then ((bastionref13_mark.f (bt x0 x7)).bind fun t118 => (if t118 = true then (bastionref13_Subst.l1 k x0 x1 x6 (wrap64 (x7 + 1)) x8 x9) else (bastionref13_Subst.j5 k x0 x1 x6 x7 x8 x9))) else (none)) else (bastionref13_Subst.j5 k x0 x1 x6 x7 x8 x9))) else (bastionref13_Subst.j5 k x0 x1 x6 x7 x8 x9)
end
def bastionref13_Subst.f (k : Nat) (a0 : ByteArray) (l1 : List (S32)) : Option (ByteArray × Int) := bastionref13_Subst.l0 k a0 l1 ([] : List Int) 0
theorem bastionref13_Subst.mono_l : ∀ k, (∀ y0 y1 y2 y3, LeO (bastionref13_Subst.l0 k y0 y1 y2 y3) (bastionref13_Subst.l0 (k + 1) y0 y1 y2 y3)) ∧ (∀ y0 y1 y2 y3 y4, LeO (bastionref13_Subst.j1 k y0 y1 y2 y3 y4) (bastionref13_Subst.j1 (k + 1) y0 y1 y2 y3 y4)) ∧ (∀ y0 y1 y2 y3 y4, LeO (bastionref13_Subst.j2 k y0 y1 y2 y3 y4) (bastionref13_Subst.j2 (k + 1) y0 y1 y2 y3 y4)) ∧ (∀ y0 y1 y2 y3 y4, LeO (bastionref13_Subst.j3 k y0 y1 y2 y3 y4) (bastionref13_Subst.j3 (k + 1) y0 y1 y2 y3 y4)) ∧ (∀ y0 y1 y2 y3 y4 y5, LeO (bastionref13_Subst.j5 k y0 y1 y2 y3 y4 y5) (bastionref13_Subst.j5 (k + 1) y0 y1 y2 y3 y4 y5)) ∧ (∀ y0 y1 y2 y3 y4 y5 y6, LeO (bastionref13_Subst.j6 k y0 y1 y2 y3 y4 y5 y6) (bastionref13_Subst.j6 (k + 1) y0 y1 y2 y3 y4 y5 y6)) ∧ (∀ y0 y1 y2 y3 y4, LeO (bastionref13_Subst.j7 k y0 y1 y2 y3 y4) (bastionref13_Subst.j7 (k + 1) y0 y1 y2 y3 y4)) ∧ (∀ y0 y1 y2 y3 y4 y5 y6 y7, LeO (bastionref13_Subst.l2 k y0 y1 y2 y3 y4 y5 y6 y7) (bastionref13_Subst.l2 (k + 1) y0 y1 y2 y3 y4 y5 y6 y7)) ∧ (∀ y0 y1 y2 y3 y4 y5, LeO (bastionref13_Subst.l1 k y0 y1 y2 y3 y4 y5) (bastionref13_Subst.l1 (k + 1) y0 y1 y2 y3 y4 y5))
  | 0 => ⟨fun _ _ _ _ r h => by simp [bastionref13_Subst.l0] at h, fun _ _ _ _ _ r h => by simp [bastionref13_Subst.j1] at h, fun _ _ _ _ _ r h => by simp [bastionref13_Subst.j2] at h, fun _ _ _ _ _ r h => by simp [bastionref13_Subst.j3] at h, fun _ _ _ _ _ _ r h => by simp [bastionref13_Subst.j5] at h, fun _ _ _ _ _ _ _ r h => by simp [bastionref13_Subst.j6] at h, fun _ _ _ _ _ r h => by simp [bastionref13_Subst.j7] at h, fun _ _ _ _ _ _ _ _ r h => by simp [bastionref13_Subst.l2] at h, fun _ _ _ _ _ _ r h => by simp [bastionref13_Subst.l1] at h⟩
  | k + 1 => by
    obtain ⟨ih0, ih1, ih2, ih3, ih4, ih5, ih6, ih7, ih8⟩ := bastionref13_Subst.mono_l k
    refine ⟨?_, ?_, ?_, ?_, ?_, ?_, ?_, ?_, ?_⟩
    · intro y0 y1 y2 y3
      unfold bastionref13_Subst.l0
      repeat' first
      | (with_reducible exact ih0 _ _ _ _)
      | (with_reducible exact ih1 _ _ _ _ _)
      | (with_reducible exact ih2 _ _ _ _ _)
      | (with_reducible exact ih3 _ _ _ _ _)
      | (with_reducible exact ih4 _ _ _ _ _ _)
      | (with_reducible exact ih5 _ _ _ _ _ _ _)
      | (with_reducible exact ih6 _ _ _ _ _)
      | (with_reducible exact ih7 _ _ _ _ _ _ _ _)
      | (with_reducible exact ih8 _ _ _ _ _ _)
      | (with_reducible exact LeO.refl _)
      | (with_reducible exact LeO.none _)
      | (with_reducible refine LeO.ite ?_ ?_)
      | (with_reducible refine LeO.bind ?_ (fun _ => ?_))
      | exact ih0 _ _ _ _
      | exact ih1 _ _ _ _ _
      | exact ih2 _ _ _ _ _
      | exact ih3 _ _ _ _ _
      | exact ih4 _ _ _ _ _ _
      | exact ih5 _ _ _ _ _ _ _
      | exact ih6 _ _ _ _ _
      | exact ih7 _ _ _ _ _ _ _ _
      | exact ih8 _ _ _ _ _ _
      | exact LeO.none _
      | refine LeO.ite ?_ ?_
      | refine LeO.bind ?_ (fun _ => ?_)
    · intro y0 y1 y2 y3 y4
      unfold bastionref13_Subst.j1
      repeat' first
      | (with_reducible exact ih0 _ _ _ _)
      | (with_reducible exact ih1 _ _ _ _ _)
      | (with_reducible exact ih2 _ _ _ _ _)
      | (with_reducible exact ih3 _ _ _ _ _)
      | (with_reducible exact ih4 _ _ _ _ _ _)
      | (with_reducible exact ih5 _ _ _ _ _ _ _)
      | (with_reducible exact ih6 _ _ _ _ _)
      | (with_reducible exact ih7 _ _ _ _ _ _ _ _)
      | (with_reducible exact ih8 _ _ _ _ _ _)
      | (with_reducible exact LeO.refl _)
      | (with_reducible exact LeO.none _)
      | (with_reducible refine LeO.ite ?_ ?_)
      | (with_reducible refine LeO.bind ?_ (fun _ => ?_))
      | exact ih0 _ _ _ _
      | exact ih1 _ _ _ _ _
      | exact ih2 _ _ _ _ _
      | exact ih3 _ _ _ _ _
      | exact ih4 _ _ _ _ _ _
      | exact ih5 _ _ _ _ _ _ _
      | exact ih6 _ _ _ _ _
      | exact ih7 _ _ _ _ _ _ _ _
      | exact ih8 _ _ _ _ _ _
      | exact LeO.none _
      | refine LeO.ite ?_ ?_
      | refine LeO.bind ?_ (fun _ => ?_)
    · intro y0 y1 y2 y3 y4
      unfold bastionref13_Subst.j2
      repeat' first
      | (with_reducible exact ih0 _ _ _ _)
      | (with_reducible exact ih1 _ _ _ _ _)
      | (with_reducible exact ih2 _ _ _ _ _)
      | (with_reducible exact ih3 _ _ _ _ _)
      | (with_reducible exact ih4 _ _ _ _ _ _)
      | (with_reducible exact ih5 _ _ _ _ _ _ _)
      | (with_reducible exact ih6 _ _ _ _ _)
      | (with_reducible exact ih7 _ _ _ _ _ _ _ _)
      | (with_reducible exact ih8 _ _ _ _ _ _)
      | (with_reducible exact LeO.refl _)
      | (with_reducible exact LeO.none _)
      | (with_reducible refine LeO.ite ?_ ?_)
      | (with_reducible refine LeO.bind ?_ (fun _ => ?_))
      | exact ih0 _ _ _ _
      | exact ih1 _ _ _ _ _
      | exact ih2 _ _ _ _ _
      | exact ih3 _ _ _ _ _
      | exact ih4 _ _ _ _ _ _
      | exact ih5 _ _ _ _ _ _ _
      | exact ih6 _ _ _ _ _
      | exact ih7 _ _ _ _ _ _ _ _
      | exact ih8 _ _ _ _ _ _
      | exact LeO.none _
      | refine LeO.ite ?_ ?_
      | refine LeO.bind ?_ (fun _ => ?_)
    · intro y0 y1 y2 y3 y4
      unfold bastionref13_Subst.j3
      repeat' first
      | (with_reducible exact ih0 _ _ _ _)
      | (with_reducible exact ih1 _ _ _ _ _)
      | (with_reducible exact ih2 _ _ _ _ _)
      | (with_reducible exact ih3 _ _ _ _ _)
      | (with_reducible exact ih4 _ _ _ _ _ _)
      | (with_reducible exact ih5 _ _ _ _ _ _ _)
      | (with_reducible exact ih6 _ _ _ _ _)
      | (with_reducible exact ih7 _ _ _ _ _ _ _ _)
      | (with_reducible exact ih8 _ _ _ _ _ _)
      | (with_reducible exact LeO.refl _)
      | (with_reducible exact LeO.none _)
      | (with_reducible refine LeO.ite ?_ ?_)
      | (with_reducible refine LeO.bind ?_ (fun _ => ?_))
      | exact ih0 _ _ _ _
      | exact ih1 _ _ _ _ _
      | exact ih2 _ _ _ _ _
      | exact ih3 _ _ _ _ _
      | exact ih4 _ _ _ _ _ _
      | exact ih5 _ _ _ _ _ _ _
      | exact ih6 _ _ _ _ _
      | exact ih7 _ _ _ _ _ _ _ _
      | exact ih8 _ _ _ _ _ _
      | exact LeO.none _
      | refine LeO.ite ?_ ?_
      | refine LeO.bind ?_ (fun _ => ?_)
    · intro y0 y1 y2 y3 y4 y5
      unfold bastionref13_Subst.j5
      repeat' first
      | (with_reducible exact ih0 _ _ _ _)
      | (with_reducible exact ih1 _ _ _ _ _)
      | (with_reducible exact ih2 _ _ _ _ _)
      | (with_reducible exact ih3 _ _ _ _ _)
      | (with_reducible exact ih4 _ _ _ _ _ _)
      | (with_reducible exact ih5 _ _ _ _ _ _ _)
      | (with_reducible exact ih6 _ _ _ _ _)
      | (with_reducible exact ih7 _ _ _ _ _ _ _ _)
      | (with_reducible exact ih8 _ _ _ _ _ _)
      | (with_reducible exact LeO.refl _)
      | (with_reducible exact LeO.none _)
      | (with_reducible refine LeO.ite ?_ ?_)
      | (with_reducible refine LeO.bind ?_ (fun _ => ?_))
      | exact ih0 _ _ _ _
      | exact ih1 _ _ _ _ _
      | exact ih2 _ _ _ _ _
      | exact ih3 _ _ _ _ _
      | exact ih4 _ _ _ _ _ _
      | exact ih5 _ _ _ _ _ _ _
      | exact ih6 _ _ _ _ _
      | exact ih7 _ _ _ _ _ _ _ _
      | exact ih8 _ _ _ _ _ _
      | exact LeO.none _
      | refine LeO.ite ?_ ?_
      | refine LeO.bind ?_ (fun _ => ?_)
    · intro y0 y1 y2 y3 y4 y5 y6
      unfold bastionref13_Subst.j6
      repeat' first
      | (with_reducible exact ih0 _ _ _ _)
      | (with_reducible exact ih1 _ _ _ _ _)
      | (with_reducible exact ih2 _ _ _ _ _)
      | (with_reducible exact ih3 _ _ _ _ _)
      | (with_reducible exact ih4 _ _ _ _ _ _)
      | (with_reducible exact ih5 _ _ _ _ _ _ _)
      | (with_reducible exact ih6 _ _ _ _ _)
      | (with_reducible exact ih7 _ _ _ _ _ _ _ _)
      | (with_reducible exact ih8 _ _ _ _ _ _)
      | (with_reducible exact LeO.refl _)
      | (with_reducible exact LeO.none _)
      | (with_reducible refine LeO.ite ?_ ?_)
      | (with_reducible refine LeO.bind ?_ (fun _ => ?_))
      | exact ih0 _ _ _ _
      | exact ih1 _ _ _ _ _
      | exact ih2 _ _ _ _ _
      | exact ih3 _ _ _ _ _
      | exact ih4 _ _ _ _ _ _
      | exact ih5 _ _ _ _ _ _ _
      | exact ih6 _ _ _ _ _
      | exact ih7 _ _ _ _ _ _ _ _
      | exact ih8 _ _ _ _ _ _
      | exact LeO.none _
      | refine LeO.ite ?_ ?_
      | refine LeO.bind ?_ (fun _ => ?_)
    · intro y0 y1 y2 y3 y4
      unfold bastionref13_Subst.j7
      repeat' first
      | (with_reducible exact ih0 _ _ _ _)
      | (with_reducible exact ih1 _ _ _ _ _)
      | (with_reducible exact ih2 _ _ _ _ _)
      | (with_reducible exact ih3 _ _ _ _ _)
      | (with_reducible exact ih4 _ _ _ _ _ _)
      | (with_reducible exact ih5 _ _ _ _ _ _ _)
      | (with_reducible exact ih6 _ _ _ _ _)
      | (with_reducible exact ih7 _ _ _ _ _ _ _ _)
      | (with_reducible exact ih8 _ _ _ _ _ _)
      | (with_reducible exact LeO.refl _)
      | (with_reducible exact LeO.none _)
      | (with_reducible refine LeO.ite ?_ ?_)
      | (with_reducible refine LeO.bind ?_ (fun _ => ?_))
      | exact ih0 _ _ _ _
      | exact ih1 _ _ _ _ _
      | exact ih2 _ _ _ _ _
      | exact ih3 _ _ _ _ _
      | exact ih4 _ _ _ _ _ _
      | exact ih5 _ _ _ _ _ _ _
      | exact ih6 _ _ _ _ _
      | exact ih7 _ _ _ _ _ _ _ _
      | exact ih8 _ _ _ _ _ _
      | exact LeO.none _
      | refine LeO.ite ?_ ?_
      | refine LeO.bind ?_ (fun _ => ?_)
    · intro y0 y1 y2 y3 y4 y5 y6 y7
      unfold bastionref13_Subst.l2
      repeat' first
      | (with_reducible exact ih0 _ _ _ _)
      | (with_reducible exact ih1 _ _ _ _ _)
      | (with_reducible exact ih2 _ _ _ _ _)
      | (with_reducible exact ih3 _ _ _ _ _)
      | (with_reducible exact ih4 _ _ _ _ _ _)
      | (with_reducible exact ih5 _ _ _ _ _ _ _)
      | (with_reducible exact ih6 _ _ _ _ _)
      | (with_reducible exact ih7 _ _ _ _ _ _ _ _)
      | (with_reducible exact ih8 _ _ _ _ _ _)
      | (with_reducible exact LeO.refl _)
      | (with_reducible exact LeO.none _)
      | (with_reducible refine LeO.ite ?_ ?_)
      | (with_reducible refine LeO.bind ?_ (fun _ => ?_))
      | exact ih0 _ _ _ _
      | exact ih1 _ _ _ _ _
      | exact ih2 _ _ _ _ _
      | exact ih3 _ _ _ _ _
      | exact ih4 _ _ _ _ _ _
      | exact ih5 _ _ _ _ _ _ _
      | exact ih6 _ _ _ _ _
      | exact ih7 _ _ _ _ _ _ _ _
      | exact ih8 _ _ _ _ _ _
      | exact LeO.none _
      | refine LeO.ite ?_ ?_
      | refine LeO.bind ?_ (fun _ => ?_)
    · intro y0 y1 y2 y3 y4 y5
      unfold bastionref13_Subst.l1
      repeat' first
      | (with_reducible exact ih0 _ _ _ _)
      | (with_reducible exact ih1 _ _ _ _ _)
      | (with_reducible exact ih2 _ _ _ _ _)
      | (with_reducible exact ih3 _ _ _ _ _)
      | (with_reducible exact ih4 _ _ _ _ _ _)
      | (with_reducible exact ih5 _ _ _ _ _ _ _)
      | (with_reducible exact ih6 _ _ _ _ _)
      | (with_reducible exact ih7 _ _ _ _ _ _ _ _)
      | (with_reducible exact ih8 _ _ _ _ _ _)
      | (with_reducible exact LeO.refl _)
      | (with_reducible exact LeO.none _)
      | (with_reducible refine LeO.ite ?_ ?_)
      | (with_reducible refine LeO.bind ?_ (fun _ => ?_))
      | exact ih0 _ _ _ _
      | exact ih1 _ _ _ _ _
      | exact ih2 _ _ _ _ _
      | exact ih3 _ _ _ _ _
      | exact ih4 _ _ _ _ _ _
      | exact ih5 _ _ _ _ _ _ _
      | exact ih6 _ _ _ _ _
      | exact ih7 _ _ _ _ _ _ _ _
      | exact ih8 _ _ _ _ _ _
      | exact LeO.none _
      | refine LeO.ite ?_ ?_
      | refine LeO.bind ?_ (fun _ => ?_)
theorem bastionref13_Subst.mono : ∀ a0 a1 k, LeO (bastionref13_Subst.f k a0 a1) (bastionref13_Subst.f (k + 1) a0 a1) := by
  intro a0 a1 k
  obtain ⟨ih0, ih1, ih2, ih3, ih4, ih5, ih6, ih7, ih8⟩ := bastionref13_Subst.mono_l k
  unfold bastionref13_Subst.f
  repeat' first
      | (with_reducible exact ih0 _ _ _ _)
      | (with_reducible exact ih1 _ _ _ _ _)
      | (with_reducible exact ih2 _ _ _ _ _)
      | (with_reducible exact ih3 _ _ _ _ _)
      | (with_reducible exact ih4 _ _ _ _ _ _)
      | (with_reducible exact ih5 _ _ _ _ _ _ _)
      | (with_reducible exact ih6 _ _ _ _ _)
      | (with_reducible exact ih7 _ _ _ _ _ _ _ _)
      | (with_reducible exact ih8 _ _ _ _ _ _)
      | (with_reducible exact LeO.refl _)
      | (with_reducible exact LeO.none _)
      | (with_reducible refine LeO.ite ?_ ?_)
      | (with_reducible refine LeO.bind ?_ (fun _ => ?_))
      | exact ih0 _ _ _ _
      | exact ih1 _ _ _ _ _
      | exact ih2 _ _ _ _ _
      | exact ih3 _ _ _ _ _
      | exact ih4 _ _ _ _ _ _
      | exact ih5 _ _ _ _ _ _ _
      | exact ih6 _ _ _ _ _
      | exact ih7 _ _ _ _ _ _ _ _
      | exact ih8 _ _ _ _ _ _
      | exact LeO.none _
      | refine LeO.ite ?_ ?_
      | refine LeO.bind ?_ (fun _ => ?_)
set_option maxHeartbeats 8000000 in
set_option maxRecDepth 100000 in
theorem bastionref13_Subst.calls (k : Nat) (a0 : ByteArray) (A1 : Option Addr) (c1 : Nat) (l1 : List (S32)) (r1 : ByteArray) (r2 : Int) (w : World) (hr1 : Kd.C k32 w A1 l1.length l1) (hc1 : l1.length ≤ c1) (h : bastionref13_Subst.f k a0 l1 = some (r1, r2)) :
    Calls Try.prog 6 #[.string a0, .slice A1 l1.length c1] w fun e w' => e = .returned (.tuple #[.string r1, .int .i64 r2]) ∧ Below w.heap.size w w' := by
  have HR1 := Aside0.mk hr1
  have HC1 := Aside0.mk hc1
  clear hr1 hc1
  have HB := Aside0.mk (Below.refl w.heap.size w)
  have H : (bastionref13_Subst.l0 k a0 l1 ([] : List Int) 0) = some (r1, r2) := h
  clear h
  have H' := Aside0.mk H
  clear H
  go_enter Try.func6, Try.ntmps6
  go_wp2
  go_loopg [6, 7] k (fun kq v6 v7 w' => ∃ (x6_1 : List Int) (x7_1 : Int), v7 = .int .i64 x7_1 ∧ Aside0 (bastionref13_Subst.l0 kq a0 l1 x6_1 x7_1 = some (r1, r2)) ∧ Aside0 (kq ≤ k) ∧ Aside0 (Kd.R (Kd.int .u8) 5 w' w.heap.size (fun _ => True) v6 x6_1) ∧ Aside0 (Below w.heap.size w w'))
  case atStart => exact ⟨(([] : List Int)), (0), (by first | rfl | (simp; done) | (simp [*]; done)), H', ⟨Nat.le_refl _⟩, ⟨by first | exact Kd.R_nil _ _ _ _ _ | exact Kd.N_nil _ _ _ _ _ | exact Kd.V_nil _ _ _ _ _ | exact Kd.Q_nil _ _ _ _ _ | exact Kd.S_nil _ _ _ _ _⟩, ⟨by repeat (first | (with_reducible first | exact HB.out | apply below_alloc | apply pw_below_drewN | apply below_drew1) | exact HB.out)⟩⟩
  case round =>
    clear H'
    try clear c1
    try clear p2
    obtain ⟨x6_1, x7_1, rfl, HA, HK1, HO_6, HB⟩ := hrel
    cases gk with
    | zero => exact absurd HA.out (by simp [bastionref13_Subst.l0])
    | succ k1 =>
      have H := HA.out
      clear HA
      simp only [bastionref13_Subst.l0] at H
      by_cases c3 : x7_1 < (a0.size : Int)
      · rw [if_pos c3] at H
        have c3b0 : decide (x7_1 < (a0.size : Int)) = true := decide_eq_true c3
        clear c3
        by_cases c4 : 0 ≤ x7_1
        · rw [if_pos c4] at H
          have c4b0 : decide (0 ≤ x7_1) = true := decide_eq_true c4
          clear c4
          by_cases c6 : (bt a0 x7_1) = 36
          · rw [if_pos c6] at H
            have c6b0 : ((bt a0 x7_1) == 36) = true := beq_iff_eq.mpr c6
            have c6b1 : ((bt a0 x7_1) != 36) = false := bne_eq_false_iff_eq.mpr c6
            clear c6
            have HC7 := Aside0.mk H
            clear H
            have p5 : 0 ≤ (x7_1 : Int) := of_decide_eq_true (by first | (with_reducible assumption) | assumption)
            have q5 : x7_1 < (a0.size : Int) := of_decide_eq_true (by first | (with_reducible assumption) | assumption)
            have hx5 := bt_at a0 x7_1
            replace p5 := eq_true p5
            replace q5 := eq_true q5
            go_upto_region 8 with (fail)
            go_cut [41] (fun v41 wc => ∃ (kq : Nat) (x41_6 : Bool), v41 = .bool x41_6 ∧ Aside0 (bastionref13_Subst.j1 kq a0 l1 x6_1 (wrap64 (x7_1 + 1)) x41_6 = some (r1, r2)) ∧ Aside0 (kq ≤ k1) ∧ Aside0 (Kd.R (Kd.int .u8) 5 wc w.heap.size (fun _ => True) u6 x6_1) ∧ Aside0 (Below w.heap.size w wc))
            case first =>
              have H := HC7.out
              clear HC7
              by_cases c8 : (wrap64 (x7_1 + 1)) < (a0.size : Int)
              · rw [if_pos c8] at H
                have c8b0 : decide ((wrap64 (x7_1 + 1)) < (a0.size : Int)) = true := decide_eq_true c8
                clear c8
                (first | rw [c8b0] | (simp only [i64_w, i32_w]; rw [c8b0]) | skip)
                obtain ⟨ji9, hji9⟩ : ∃ j_ : Int, (wrap64 (x7_1 + 1)) = j_ := ⟨_, rfl⟩
                replace H : (if 0 ≤ (ji9) then (bastionref13_Subst.j1 k1 a0 l1 x6_1 ji9 ((bt a0 (ji9)) == 36)) else (none)) = some (r1, r2) := by first | (rw [hji9] at H; exact H) | (simp only [hji9] at H ⊢; exact H)
                (try rw [hji9] at c8b0)
                have hji9w : (IntKind.i64.wrap (x7_1 + 1)) = ji9 := (i64_w _).trans hji9
                by_cases c10 : 0 ≤ (ji9)
                · rw [if_pos c10] at H
                  have c10b0 : decide (0 ≤ (ji9)) = true := decide_eq_true c10
                  clear c10
                  have H' := Aside0.mk H
                  clear H
                  have p11 : 0 ≤ ((ji9) : Int) := of_decide_eq_true (by first | (with_reducible assumption) | assumption)
                  have q11 : (ji9) < (a0.size : Int) := of_decide_eq_true (by first | (with_reducible assumption) | assumption)
                  have hx11 := bt_at a0 (ji9)
                  replace p11 := eq_true p11
                  replace q11 := eq_true q11
                  go_wp2
                  go_meet
                  case rel => exact ⟨_, (((bt a0 (ji9)) == 36)), (by first | rfl | (simp; done) | (simp only [← hji9] <;> (first | rfl | simp)) | (simp [*]; done)), (by first | exact H' | (rw [hji9]; exact H')), ⟨by have := HK1.out; first | omega | exact Nat.le_refl _⟩, ⟨by (with_reducible repeat (first | apply Kd.R_alloc | apply Kd.R_drewN | apply Kd.R_drew)); exact HO_6.out⟩, ⟨by repeat (first | (with_reducible first | exact HB.out | apply below_alloc | apply pw_below_drewN | apply below_drew1) | exact HB.out)⟩⟩
                · rw [if_neg c10] at H
                  exact absurd H (by simp)
              · rw [if_neg c8] at H
                have c8b0 : decide ((wrap64 (x7_1 + 1)) < (a0.size : Int)) = false := decide_eq_false c8
                clear c8
                (first | rw [c8b0] | (simp only [i64_w, i32_w]; rw [c8b0]) | skip)
                have H' := Aside0.mk H
                clear H
                go_wp2
                go_meet
                case rel => exact ⟨_, (false), (by first | rfl | (simp; done) | (simp [*]; done)), H', ⟨by have := HK1.out; first | omega | exact Nat.le_refl _⟩, ⟨by (with_reducible repeat (first | apply Kd.R_alloc | apply Kd.R_drewN | apply Kd.R_drew)); exact HO_6.out⟩, ⟨by repeat (first | (with_reducible first | exact HB.out | apply below_alloc | apply pw_below_drewN | apply below_drew1) | exact HB.out)⟩⟩
            case rest =>
              clear HC7
              try clear c1
              try clear p1
              try clear q1
              try clear hx1
              try clear p2
              try clear c3
              try clear c3b0
              try clear c4
              try clear c4b0
              try clear p5
              try clear q5
              try clear hx5
              try clear c6
              try clear c6b0
              try clear c6b1
              try clear p6
              try clear c8
              try clear c8b0
              try clear c10
              try clear c10b0
              try clear p11
              try clear q11
              try clear hx11
              try clear p11
              try clear p2
              try clear p5
              try clear q11
              try clear q5
              obtain ⟨kq, x41_6, rfl, HA, HJ6, HO_6, HB⟩ := hcut
              cases kq with
              | zero => exact absurd HA.out (by simp [bastionref13_Subst.j1])
              | succ kj6 =>
                have H := HA.out
                clear HA
                simp only [bastionref13_Subst.j1] at H
                by_cases c12 : x41_6 = true
                · subst c12
                  have H1 : (if x6_1.length < 140737488355328 then (bastionref13_Subst.l0 kj6 a0 l1 (x6_1 ++ [36]) (wrap64 ((wrap64 (x7_1 + 1)) + 1))) else (none)) = some (r1, r2) := by rw [if_pos rfl] at H; exact H
                  clear H
                  have H := H1
                  clear H1
                  by_cases c13 : x6_1.length < 140737488355328
                  · rw [if_pos c13] at H
                    have LMc13 := Aside0.mk c13
                    clear c13
                    obtain ⟨y113, hy113⟩ : ∃ y_ : List Int, y_ = (x6_1 ++ [36]) := ⟨_, rfl⟩
                    replace H : (bastionref13_Subst.l0 kj6 a0 l1 y113 (wrap64 ((wrap64 (x7_1 + 1)) + 1))) = some (r1, r2) := by first | (rw [hy113]; with_reducible exact H) | (have H2_ := (Option.bind_some _ _).symm.trans H; rw [hy113]; with_reducible exact H2_) | (have H2_ := (Option.bind_some _ _).symm.trans H; with_reducible exact H2_) | with_reducible exact H | (rw [hy113]; exact H) | exact H
                    have Ny113 := Aside0.mk hy113
                    clear hy113
                    have H' := Aside0.mk H
                    clear H
                    go_wp2_with (first | ((with_reducible refine gate_builtin (b := .append) (xs := #[.tmp 42, .tmp 43]) rfl ?_); (try (refine gate_guard (by rfl) ?_; dsimp only)); at_builtin; refine Kd.R_append (Kd.int .u8) (w0 := w) w.heap.size rfl (.tmp 42) (.tmp 43) 35 5 (.int .u8 0) 1 rfl Try.underlying35 info5 rfl (by decide) (by omega) u6 x6_1 36 [.int .u8 36] (fun _ => True) (fun _ => False) rfl rfl ?aP (fun _ hk => hk.elim) ?aF ?aO ?aB ?aS ?aL ?_; (case aP => exact rfl); (case aB => exact (by repeat (first | (with_reducible first | exact HB.out | apply below_alloc | apply pw_below_drewN | apply below_drew1) | exact HB.out))); (case aF => exact (fun _ _ => trivial)); (case aO => exact (by (with_reducible repeat (first | apply Kd.R_alloc | apply Kd.R_drewN | apply Kd.R_drew)); exact HO_6.out)); (case aS => exact (below_size (by repeat (first | (with_reducible first | exact HB.out | apply below_alloc | apply pw_below_drewN | apply below_drew1) | exact HB.out)))); (case aL => have := LMc13.out; omega); intro v114 w14 ho hb hg hat; rw [← Ny113.out] at ho; have n0_ := Aside0.mk (hb); have n1_ := Aside0.mk (ho); clear HB; clear HO_6; have HB := n0_; have HO115 := n1_; clear n0_ n1_; clear ho hb hg hat))
                    go_roundg kj6
                    case measure => have := HK1.out; have := HJ6.out; omega
                    case rel => exact ⟨(y113), (wrap64 ((wrap64 (x7_1 + 1)) + 1)), (by first | rfl | (simp; done) | (simp [*]; done)), H', ⟨by have := HK1.out; have := HJ6.out; omega⟩, ⟨by (with_reducible repeat (first | apply Kd.R_alloc | apply Kd.R_drewN | apply Kd.R_drew)); exact HO115.out⟩, ⟨by repeat (first | (with_reducible first | exact HB.out | apply below_alloc | apply pw_below_drewN | apply below_drew1) | exact HB.out)⟩⟩
                  · rw [if_neg c13] at H
                    exact absurd H (by simp)
                · replace c12 := Bool.eq_false_iff.mpr c12
                  subst c12
                  have H1 : (if (wrap64 (x7_1 + 1)) < (a0.size : Int) then (if 0 ≤ (wrap64 (x7_1 + 1)) then (bastionref13_Subst.j2 kj6 a0 l1 x6_1 (wrap64 (x7_1 + 1)) ((bt a0 (wrap64 (x7_1 + 1))) == 123)) else (none)) else (bastionref13_Subst.j2 kj6 a0 l1 x6_1 (wrap64 (x7_1 + 1)) false)) = some (r1, r2) := by rw [if_neg (show ¬ (false = true) by decide)] at H; exact H
                  clear H
                  have H := H1
                  clear H1
                  have HC15 := Aside0.mk H
                  clear H
                  go_upto_region 11 with (fail)
                  go_cut [8] (fun v8 wc => ∃ (kq : Nat) (x8_14 : Bool), v8 = .bool x8_14 ∧ Aside0 (bastionref13_Subst.j2 kq a0 l1 x6_1 (wrap64 (x7_1 + 1)) x8_14 = some (r1, r2)) ∧ Aside0 (kq ≤ kj6) ∧ Aside0 (Kd.R (Kd.int .u8) 5 wc w.heap.size (fun _ => True) u6 x6_1) ∧ Aside0 (Below w.heap.size w wc))
                  case first =>
                    have H := HC15.out
                    clear HC15
                    by_cases c16 : (wrap64 (x7_1 + 1)) < (a0.size : Int)
                    · rw [if_pos c16] at H
                      have c16b0 : decide ((wrap64 (x7_1 + 1)) < (a0.size : Int)) = true := decide_eq_true c16
                      clear c16
                      (first | rw [c16b0] | (simp only [i64_w, i32_w]; rw [c16b0]) | skip)
                      obtain ⟨ji17, hji17⟩ : ∃ j_ : Int, (wrap64 (x7_1 + 1)) = j_ := ⟨_, rfl⟩
                      replace H : (if 0 ≤ (ji17) then (bastionref13_Subst.j2 kj6 a0 l1 x6_1 (ji17) ((bt a0 (ji17)) == 123)) else (none)) = some (r1, r2) := by first | (rw [hji17] at H; exact H) | (simp only [hji17] at H ⊢; exact H)
                      (try rw [hji17] at c16b0)
                      have hji17w : (IntKind.i64.wrap (x7_1 + 1)) = ji17 := (i64_w _).trans hji17
                      by_cases c18 : 0 ≤ (ji17)
                      · rw [if_pos c18] at H
                        have c18b0 : decide (0 ≤ (ji17)) = true := decide_eq_true c18
                        clear c18
                        have H' := Aside0.mk H
                        clear H
                        have p19 : 0 ≤ ((ji17) : Int) := of_decide_eq_true (by first | (with_reducible assumption) | assumption)
                        have q19 : (ji17) < (a0.size : Int) := of_decide_eq_true (by first | (with_reducible assumption) | assumption)
                        have hx19 := bt_at a0 (ji17)
                        replace p19 := eq_true p19
                        replace q19 := eq_true q19
                        go_wp2
                        go_meet
                        case rel => exact ⟨_, (((bt a0 (ji17)) == 123)), (by first | rfl | (simp; done) | (simp only [← hji17] <;> (first | rfl | simp)) | (simp [*]; done)), (by first | exact H' | (rw [hji17]; exact H')), ⟨by have := HK1.out; have := HJ6.out; first | omega | exact Nat.le_refl _⟩, ⟨by (with_reducible repeat (first | apply Kd.R_alloc | apply Kd.R_drewN | apply Kd.R_drew)); exact HO_6.out⟩, ⟨by repeat (first | (with_reducible first | exact HB.out | apply below_alloc | apply pw_below_drewN | apply below_drew1) | exact HB.out)⟩⟩
                      · rw [if_neg c18] at H
                        exact absurd H (by simp)
                    · rw [if_neg c16] at H
                      have c16b0 : decide ((wrap64 (x7_1 + 1)) < (a0.size : Int)) = false := decide_eq_false c16
                      clear c16
                      (first | rw [c16b0] | (simp only [i64_w, i32_w]; rw [c16b0]) | skip)
                      have H' := Aside0.mk H
                      clear H
                      go_wp2
                      go_meet
                      case rel => exact ⟨_, (false), (by first | rfl | (simp; done) | (simp [*]; done)), H', ⟨by have := HK1.out; have := HJ6.out; first | omega | exact Nat.le_refl _⟩, ⟨by (with_reducible repeat (first | apply Kd.R_alloc | apply Kd.R_drewN | apply Kd.R_drew)); exact HO_6.out⟩, ⟨by repeat (first | (with_reducible first | exact HB.out | apply below_alloc | apply pw_below_drewN | apply below_drew1) | exact HB.out)⟩⟩
                  case rest =>
                    clear HC15
                    try clear c1
                    try clear p1
                    try clear q1
                    try clear hx1
                    try clear p2
                    try clear c3
                    try clear c3b0
                    try clear c4
                    try clear c4b0
                    try clear p5
                    try clear q5
                    try clear hx5
                    try clear c6
                    try clear c6b0
                    try clear c6b1
                    try clear p6
                    try clear c8
                    try clear c8b0
                    try clear c10
                    try clear c10b0
                    try clear p11
                    try clear q11
                    try clear hx11
                    try clear c12
                    try clear c13
                    try clear c16
                    try clear c16b0
                    try clear c18
                    try clear c18b0
                    try clear p19
                    try clear q19
                    try clear hx19
                    try clear p1
                    try clear p11
                    try clear p19
                    try clear p2
                    try clear p5
                    try clear p6
                    try clear q1
                    try clear q11
                    try clear q19
                    try clear q5
                    obtain ⟨kq, x8_14, rfl, HA, HJ14, HO_6, HB⟩ := hcut
                    cases kq with
                    | zero => exact absurd HA.out (by simp [bastionref13_Subst.j2])
                    | succ kj14 =>
                      have H := HA.out
                      clear HA
                      simp only [bastionref13_Subst.j2] at H
                      have HC20 := Aside0.mk H
                      clear H
                      go_upto_if 57 with (fail)
                      go_cut [7] (fun v7 wc => ∃ (kq : Nat) (x7_19 : Int), v7 = .int .i64 x7_19 ∧ Aside0 (bastionref13_Subst.j3 kq a0 l1 x6_1 x7_19 x8_14 = some (r1, r2)) ∧ Aside0 (kq ≤ kj14) ∧ Aside0 (Kd.R (Kd.int .u8) 5 wc w.heap.size (fun _ => True) u6 x6_1) ∧ Aside0 (Below w.heap.size w wc))
                      case first =>
                        have H := HC20.out
                        clear HC20
                        by_cases c21 : x8_14 = true
                        · subst c21
                          have H1 : (bastionref13_Subst.j3 kj14 a0 l1 x6_1 (wrap64 ((wrap64 (x7_1 + 1)) + 1)) true) = some (r1, r2) := by rw [if_pos rfl] at H; exact H
                          clear H
                          have H := H1
                          clear H1
                          have H' := Aside0.mk H
                          clear H
                          go_wp2
                          go_meet
                          case rel => exact ⟨_, (wrap64 ((wrap64 (x7_1 + 1)) + 1)), (by first | rfl | (simp; done) | (simp [*]; done)), H', ⟨by have := HK1.out; have := HJ6.out; have := HJ14.out; first | omega | exact Nat.le_refl _⟩, ⟨by (with_reducible repeat (first | apply Kd.R_alloc | apply Kd.R_drewN | apply Kd.R_drew)); exact HO_6.out⟩, ⟨by repeat (first | (with_reducible first | exact HB.out | apply below_alloc | apply pw_below_drewN | apply below_drew1) | exact HB.out)⟩⟩
                        · replace c21 := Bool.eq_false_iff.mpr c21
                          subst c21
                          have H1 : (bastionref13_Subst.j3 kj14 a0 l1 x6_1 (wrap64 (x7_1 + 1)) false) = some (r1, r2) := by rw [if_neg (show ¬ (false = true) by decide)] at H; exact H
                          clear H
                          have H := H1
                          clear H1
                          have H' := Aside0.mk H
                          clear H
                          go_wp2
                          go_meet
                          case rel => exact ⟨_, ((wrap64 (x7_1 + 1))), (by first | rfl | (simp; done) | (simp [*]; done)), H', ⟨by have := HK1.out; have := HJ6.out; have := HJ14.out; first | omega | exact Nat.le_refl _⟩, ⟨by (with_reducible repeat (first | apply Kd.R_alloc | apply Kd.R_drewN | apply Kd.R_drew)); exact HO_6.out⟩, ⟨by repeat (first | (with_reducible first | exact HB.out | apply below_alloc | apply pw_below_drewN | apply below_drew1) | exact HB.out)⟩⟩
                      case rest =>
                        clear HC20
                        try clear c1
                        try clear p1
                        try clear q1
                        try clear hx1
                        try clear c2
                        try clear p2
                        try clear c3
                        try clear c3b0
                        try clear c4
                        try clear c4b0
                        try clear p5
                        try clear q5
                        try clear hx5
                        try clear c6
                        try clear c6b0
                        try clear c6b1
                        try clear p6
                        try clear c8
                        try clear c8b0
                        try clear c10
                        try clear c10b0
                        try clear p11
                        try clear q11
                        try clear hx11
                        try clear c12
                        try clear c13
                        try clear c16
                        try clear c16b0
                        try clear c18
                        try clear c18b0
                        try clear p19
                        try clear q19
                        try clear hx19
                        try clear c21
                        try clear p1
                        try clear p11
                        try clear p19
                        try clear p2
                        try clear p5
                        try clear p6
                        try clear q1
                        try clear q11
                        try clear q19
                        try clear q5
                        obtain ⟨kq, x7_19, rfl, HA, HJ19, HO_6, HB⟩ := hcut
                        cases kq with
                        | zero => exact absurd HA.out (by simp [bastionref13_Subst.j3])
                        | succ kj19 =>
                          have H := HA.out
                          clear HA
                          simp only [bastionref13_Subst.j3] at H
                          have HC22 := Aside0.mk H
                          clear H
                          go_upto_block 2 with (fail)
                          go_cut [7] (fun v7 wc => ∃ (kq : Nat) (x7_21 : Int), v7 = .int .i64 x7_21 ∧ Aside0 (bastionref13_Subst.j5 kq a0 l1 x6_1 x7_21 x8_14 x7_19 = some (r1, r2)) ∧ Aside0 (kq ≤ kj19) ∧ Aside0 (Kd.R (Kd.int .u8) 5 wc w.heap.size (fun _ => True) u6 x6_1) ∧ Aside0 (Below w.heap.size w wc))
                          case first =>
                            have H := HC22.out
                            clear HC22
                            have H' := Aside0.mk H
                            clear H
                            go_wp2
                            go_loopg [7] kj19 (fun kq v7 w' => ∃ (x7_5 : Int), v7 = .int .i64 x7_5 ∧ Aside0 (bastionref13_Subst.l1 kq a0 l1 x6_1 x7_5 x8_14 x7_19 = some (r1, r2)) ∧ Aside0 (kq ≤ kj19) ∧ Aside0 (Kd.R (Kd.int .u8) 5 w' w.heap.size (fun _ => True) u6 x6_1) ∧ Aside0 (Below w.heap.size w w'))
                            case atStart => exact ⟨(x7_19), (by first | rfl | (simp; done) | (simp [*]; done)), H', ⟨Nat.le_refl _⟩, ⟨by (with_reducible repeat (first | apply Kd.R_alloc | apply Kd.R_drewN | apply Kd.R_drew)); exact HO_6.out⟩, ⟨by repeat (first | (with_reducible first | exact HB.out | apply below_alloc | apply pw_below_drewN | apply below_drew1) | exact HB.out)⟩⟩
                            case round =>
                              clear H'
                              try clear c1
                              try clear p1
                              try clear q1
                              try clear hx1
                              try clear c2
                              try clear p2
                              try clear c3
                              try clear c3b0
                              try clear c4
                              try clear c4b0
                              try clear p5
                              try clear q5
                              try clear hx5
                              try clear c6
                              try clear c6b0
                              try clear c6b1
                              try clear p6
                              try clear c8
                              try clear c8b0
                              try clear c10
                              try clear c10b0
                              try clear p11
                              try clear q11
                              try clear hx11
                              try clear c12
                              try clear c13
                              try clear c16
                              try clear c16b0
                              try clear c18
                              try clear c18b0
                              try clear p19
                              try clear q19
                              try clear hx19
                              try clear c21
                              try clear p1
                              try clear p11
                              try clear p19
                              try clear p2
                              try clear p5
                              try clear p6
                              try clear q1
                              try clear q11
                              try clear q19
                              try clear q5
                              obtain ⟨x7_5, rfl, HA, HK5, HO_6, HB⟩ := hrel
                              cases gk with
                              | zero => exact absurd HA.out (by simp [bastionref13_Subst.l1])
                              | succ k5 =>
                                have H := HA.out
                                clear HA
                                simp only [bastionref13_Subst.l1] at H
                                by_cases c23 : x7_5 < (a0.size : Int)
                                · rw [if_pos c23] at H
                                  have c23b0 : decide (x7_5 < (a0.size : Int)) = true := decide_eq_true c23
                                  clear c23
                                  (first | rw [c23b0] | (simp only [i64_w, i32_w]; rw [c23b0]) | skip)
                                  by_cases c24 : x7_5 = x7_19
                                  · rw [if_pos c24] at H
                                    have c24b0 : (x7_5 == x7_19) = true := beq_iff_eq.mpr c24
                                    have c24b1 : (x7_5 != x7_19) = false := bne_eq_false_iff_eq.mpr c24
                                    clear c24
                                    by_cases c25 : 0 ≤ x7_5
                                    · rw [if_pos c25] at H
                                      have c25b0 : decide (0 ≤ x7_5) = true := decide_eq_true c25
                                      clear c25
                                      replace H := Option.bind_eq_some_iff.mp H
                                      obtain ⟨t116, A270, H⟩ := H
                                      replace H : (if t116 = true then (bastionref13_Subst.l1 k5 a0 l1 x6_1 (wrap64 (x7_5 + 1)) x8_14 x7_19) else (if x7_5 > x7_19 then ((bastionref13_mark.f (bt a0 x7_5)).bind fun t117 => (if t117 = true then (bastionref13_Subst.l1 k5 a0 l1 x6_1 (wrap64 (x7_5 + 1)) x8_14 x7_19) else (bastionref13_Subst.j5 k5 a0 l1 x6_1 x7_5 x8_14 x7_19))) else (bastionref13_Subst.j5 k5 a0 l1 x6_1 x7_5 x8_14 x7_19))) = some (r1, r2) := H
                                      have A27 := Aside0.mk A270
                                      clear A270
                                      by_cases c28 : t116 = true
                                      · subst c28
                                        have H1 : (bastionref13_Subst.l1 k5 a0 l1 x6_1 (wrap64 (x7_5 + 1)) x8_14 x7_19) = some (r1, r2) := by rw [if_pos rfl] at H; exact H
                                        clear H
                                        have H := H1
                                        clear H1
                                        have H' := Aside0.mk H
                                        clear H
                                        have p26 : 0 ≤ (x7_5 : Int) := of_decide_eq_true (by first | (with_reducible assumption) | assumption)
                                        have q26 : x7_5 < (a0.size : Int) := of_decide_eq_true (by first | (with_reducible assumption) | assumption)
                                        have hx26 := bt_at a0 x7_5
                                        replace p26 := eq_true p26
                                        replace q26 := eq_true q26
                                        go_wp2_with (first | (go_at_call 15; (with_reducible refine (bastionref13_letter.calls (bt a0 x7_5) true _ A27.out).mono ?_); rintro e w' ⟨rfl, ⟨nd, rfl⟩⟩))
                                        go_roundg k5
                                        case measure => have := HK1.out; have := HJ6.out; have := HJ14.out; have := HJ19.out; have := HK5.out; omega
                                        case rel => exact ⟨(wrap64 (x7_5 + 1)), (by first | rfl | (simp; done) | (simp [*]; done)), H', ⟨by have := HK1.out; have := HJ6.out; have := HJ14.out; have := HJ19.out; have := HK5.out; omega⟩, ⟨by (with_reducible repeat (first | apply Kd.R_alloc | apply Kd.R_drewN | apply Kd.R_drew)); exact HO_6.out⟩, ⟨by repeat (first | (with_reducible first | exact HB.out | apply below_alloc | apply pw_below_drewN | apply below_drew1) | exact HB.out)⟩⟩
                                      · replace c28 := Bool.eq_false_iff.mpr c28
                                        subst c28
                                        have H1 : (if x7_5 > x7_19 then ((bastionref13_mark.f (bt a0 x7_5)).bind fun t117 => (if t117 = true then (bastionref13_Subst.l1 k5 a0 l1 x6_1 (wrap64 (x7_5 + 1)) x8_14 x7_19) else (bastionref13_Subst.j5 k5 a0 l1 x6_1 x7_5 x8_14 x7_19))) else (bastionref13_Subst.j5 k5 a0 l1 x6_1 x7_5 x8_14 x7_19)) = some (r1, r2) := by rw [if_neg (show ¬ (false = true) by decide)] at H; exact H
                                        clear H
                                        have H := H1
                                        clear H1
                                        by_cases c29 : x7_5 > x7_19
                                        · rw [if_pos c29] at H
                                          have c29b0 : decide (x7_19 < x7_5) = true := decide_eq_true c29
                                          clear c29
                                          replace H := Option.bind_eq_some_iff.mp H
                                          obtain ⟨t117, A310, H⟩ := H
                                          replace H : (if t117 = true then (bastionref13_Subst.l1 k5 a0 l1 x6_1 (wrap64 (x7_5 + 1)) x8_14 x7_19) else (bastionref13_Subst.j5 k5 a0 l1 x6_1 x7_5 x8_14 x7_19)) = some (r1, r2) := H
                                          have A31 := Aside0.mk A310
                                          clear A310
                                          by_cases c32 : t117 = true
                                          · subst c32
                                            have H1 : (bastionref13_Subst.l1 k5 a0 l1 x6_1 (wrap64 (x7_5 + 1)) x8_14 x7_19) = some (r1, r2) := by rw [if_pos rfl] at H; exact H
                                            clear H
                                            have H := H1
                                            clear H1
                                            have H' := Aside0.mk H
                                            clear H
                                            have p26 : 0 ≤ (x7_5 : Int) := of_decide_eq_true (by first | (with_reducible assumption) | assumption)
                                            have q26 : x7_5 < (a0.size : Int) := of_decide_eq_true (by first | (with_reducible assumption) | assumption)
                                            have hx26 := bt_at a0 x7_5
                                            replace p26 := eq_true p26
                                            replace q26 := eq_true q26
                                            go_wp2_with (first | (go_at_call 15; (with_reducible refine (bastionref13_letter.calls (bt a0 x7_5) false _ A27.out).mono ?_); rintro e w' ⟨rfl, ⟨nd, rfl⟩⟩; have p30 : 0 ≤ (x7_5 : Int) := of_decide_eq_true (by first | (with_reducible assumption) | assumption); have q30 : x7_5 < (a0.size : Int) := of_decide_eq_true (by first | (with_reducible assumption) | assumption); have hx30 := bt_at a0 x7_5; replace p30 := eq_true p30; replace q30 := eq_true q30) | (go_at_call 16; (with_reducible refine (bastionref13_mark.calls (bt a0 x7_5) true _ A31.out).mono ?_); rintro e w' ⟨rfl, ⟨nd, rfl⟩⟩))
                                            go_roundg k5
                                            case measure => have := HK1.out; have := HJ6.out; have := HJ14.out; have := HJ19.out; have := HK5.out; omega
                                            case rel => exact ⟨(wrap64 (x7_5 + 1)), (by first | rfl | (simp; done) | (simp [*]; done)), H', ⟨by have := HK1.out; have := HJ6.out; have := HJ14.out; have := HJ19.out; have := HK5.out; omega⟩, ⟨by (with_reducible repeat (first | apply Kd.R_alloc | apply Kd.R_drewN | apply Kd.R_drew)); exact HO_6.out⟩, ⟨by repeat (first | (with_reducible first | exact HB.out | apply below_alloc | apply pw_below_drewN | apply below_drew1) | exact HB.out)⟩⟩
                                          · replace c32 := Bool.eq_false_iff.mpr c32
                                            subst c32
                                            have H1 : (bastionref13_Subst.j5 k5 a0 l1 x6_1 x7_5 x8_14 x7_19) = some (r1, r2) := by rw [if_neg (show ¬ (false = true) by decide)] at H; exact H
                                            clear H
                                            have H := H1
                                            clear H1
                                            have H' := Aside0.mk H
                                            clear H
                                            have p26 : 0 ≤ (x7_5 : Int) := of_decide_eq_true (by first | (with_reducible assumption) | assumption)
                                            have q26 : x7_5 < (a0.size : Int) := of_decide_eq_true (by first | (with_reducible assumption) | assumption)
                                            have hx26 := bt_at a0 x7_5
                                            replace p26 := eq_true p26
                                            replace q26 := eq_true q26
                                            go_wp2_with (first | (go_at_call 15; (with_reducible refine (bastionref13_letter.calls (bt a0 x7_5) false _ A27.out).mono ?_); rintro e w' ⟨rfl, ⟨nd, rfl⟩⟩; have p30 : 0 ≤ (x7_5 : Int) := of_decide_eq_true (by first | (with_reducible assumption) | assumption); have q30 : x7_5 < (a0.size : Int) := of_decide_eq_true (by first | (with_reducible assumption) | assumption); have hx30 := bt_at a0 x7_5; replace p30 := eq_true p30; replace q30 := eq_true q30) | (go_at_call 16; (with_reducible refine (bastionref13_mark.calls (bt a0 x7_5) false _ A31.out).mono ?_); rintro e w' ⟨rfl, ⟨nd, rfl⟩⟩))
                                            go_meet
                                            case rel => exact ⟨_, (x7_5), (by first | rfl | (simp; done) | (simp [*]; done)), H', ⟨by have := HK1.out; have := HJ6.out; have := HJ14.out; have := HJ19.out; have := HK5.out; first | omega | exact Nat.le_refl _⟩, ⟨by (with_reducible repeat (first | apply Kd.R_alloc | apply Kd.R_drewN | apply Kd.R_drew)); exact HO_6.out⟩, ⟨by repeat (first | (with_reducible first | exact HB.out | apply below_alloc | apply pw_below_drewN | apply below_drew1) | exact HB.out)⟩⟩
                                        · rw [if_neg c29] at H
                                          have c29b0 : decide (x7_19 < x7_5) = false := decide_eq_false c29
                                          clear c29
                                          have H' := Aside0.mk H
                                          clear H
                                          have p26 : 0 ≤ (x7_5 : Int) := of_decide_eq_true (by first | (with_reducible assumption) | assumption)
                                          have q26 : x7_5 < (a0.size : Int) := of_decide_eq_true (by first | (with_reducible assumption) | assumption)
                                          have hx26 := bt_at a0 x7_5
                                          replace p26 := eq_true p26
                                          replace q26 := eq_true q26
                                          go_wp2_with (first | (go_at_call 15; (with_reducible refine (bastionref13_letter.calls (bt a0 x7_5) false _ A27.out).mono ?_); rintro e w' ⟨rfl, ⟨nd, rfl⟩⟩))
                                          go_meet
                                          case rel => exact ⟨_, (x7_5), (by first | rfl | (simp; done) | (simp [*]; done)), H', ⟨by have := HK1.out; have := HJ6.out; have := HJ14.out; have := HJ19.out; have := HK5.out; first | omega | exact Nat.le_refl _⟩, ⟨by (with_reducible repeat (first | apply Kd.R_alloc | apply Kd.R_drewN | apply Kd.R_drew)); exact HO_6.out⟩, ⟨by repeat (first | (with_reducible first | exact HB.out | apply below_alloc | apply pw_below_drewN | apply below_drew1) | exact HB.out)⟩⟩
                                    · rw [if_neg c25] at H
                                      exact absurd H (by simp)
                                  · rw [if_neg c24] at H
                                    have c24b0 : (x7_5 == x7_19) = false := beq_eq_false_iff_ne.mpr c24
                                    have c24b1 : (x7_5 != x7_19) = true := bne_iff_ne.mpr c24
                                    by_cases c33 : x7_5 > x7_19
                                    · rw [if_pos c33] at H
                                      have c33b0 : decide (x7_19 < x7_5) = true := decide_eq_true c33
                                      clear c33
                                      by_cases c34 : 0 ≤ x7_5
                                      · rw [if_pos c34] at H
                                        have c34b0 : decide (0 ≤ x7_5) = true := decide_eq_true c34
                                        clear c34
                                        replace H := Option.bind_eq_some_iff.mp H
                                        obtain ⟨t118, A360, H⟩ := H
                                        replace H : (if t118 = true then (bastionref13_Subst.l1 k5 a0 l1 x6_1 (wrap64 (x7_5 + 1)) x8_14 x7_19) else (bastionref13_Subst.j5 k5 a0 l1 x6_1 x7_5 x8_14 x7_19)) = some (r1, r2) := H
                                        have A36 := Aside0.mk A360
                                        clear A360
                                        by_cases c37 : t118 = true
                                        · subst c37
                                          have H1 : (bastionref13_Subst.l1 k5 a0 l1 x6_1 (wrap64 (x7_5 + 1)) x8_14 x7_19) = some (r1, r2) := by rw [if_pos rfl] at H; exact H
                                          clear H
                                          have H := H1
                                          clear H1
                                          have H' := Aside0.mk H
                                          clear H
                                          have p35 : 0 ≤ (x7_5 : Int) := of_decide_eq_true (by first | (with_reducible assumption) | assumption)
                                          have q35 : x7_5 < (a0.size : Int) := of_decide_eq_true (by first | (with_reducible assumption) | assumption)
                                          have hx35 := bt_at a0 x7_5
                                          replace p35 := eq_true p35
                                          replace q35 := eq_true q35
                                          go_wp2_with (first | (go_at_call 16; (with_reducible refine (bastionref13_mark.calls (bt a0 x7_5) true _ A36.out).mono ?_); rintro e w' ⟨rfl, ⟨nd, rfl⟩⟩))
                                          go_roundg k5
                                          case measure => have := HK1.out; have := HJ6.out; have := HJ14.out; have := HJ19.out; have := HK5.out; omega
                                          case rel => exact ⟨(wrap64 (x7_5 + 1)), (by first | rfl | (simp; done) | (simp [*]; done)), H', ⟨by have := HK1.out; have := HJ6.out; have := HJ14.out; have := HJ19.out; have := HK5.out; omega⟩, ⟨by (with_reducible repeat (first | apply Kd.R_alloc | apply Kd.R_drewN | apply Kd.R_drew)); exact HO_6.out⟩, ⟨by repeat (first | (with_reducible first | exact HB.out | apply below_alloc | apply pw_below_drewN | apply below_drew1) | exact HB.out)⟩⟩
                                        · replace c37 := Bool.eq_false_iff.mpr c37
                                          subst c37
                                          have H1 : (bastionref13_Subst.j5 k5 a0 l1 x6_1 x7_5 x8_14 x7_19) = some (r1, r2) := by rw [if_neg (show ¬ (false = true) by decide)] at H; exact H
                                          clear H
                                          have H := H1
                                          clear H1
                                          have H' := Aside0.mk H
                                          clear H
                                          have p35 : 0 ≤ (x7_5 : Int) := of_decide_eq_true (by first | (with_reducible assumption) | assumption)
                                          have q35 : x7_5 < (a0.size : Int) := of_decide_eq_true (by first | (with_reducible assumption) | assumption)
                                          have hx35 := bt_at a0 x7_5
                                          replace p35 := eq_true p35
                                          replace q35 := eq_true q35
                                          go_wp2_with (first | (go_at_call 16; (with_reducible refine (bastionref13_mark.calls (bt a0 x7_5) false _ A36.out).mono ?_); rintro e w' ⟨rfl, ⟨nd, rfl⟩⟩))
                                          go_meet
                                          case rel => exact ⟨_, (x7_5), (by first | rfl | (simp; done) | (simp [*]; done)), H', ⟨by have := HK1.out; have := HJ6.out; have := HJ14.out; have := HJ19.out; have := HK5.out; first | omega | exact Nat.le_refl _⟩, ⟨by (with_reducible repeat (first | apply Kd.R_alloc | apply Kd.R_drewN | apply Kd.R_drew)); exact HO_6.out⟩, ⟨by repeat (first | (with_reducible first | exact HB.out | apply below_alloc | apply pw_below_drewN | apply below_drew1) | exact HB.out)⟩⟩
                                      · rw [if_neg c34] at H
                                        exact absurd H (by simp)
                                    · rw [if_neg c33] at H
                                      have c33b0 : decide (x7_19 < x7_5) = false := decide_eq_false c33
                                      clear c33
                                      have H' := Aside0.mk H
                                      clear H
                                      go_wp2
                                      go_meet
                                      case rel => exact ⟨_, (x7_5), (by first | rfl | (simp; done) | (simp [*]; done)), H', ⟨by have := HK1.out; have := HJ6.out; have := HJ14.out; have := HJ19.out; have := HK5.out; first | omega | exact Nat.le_refl _⟩, ⟨by (with_reducible repeat (first | apply Kd.R_alloc | apply Kd.R_drewN | apply Kd.R_drew)); exact HO_6.out⟩, ⟨by repeat (first | (with_reducible first | exact HB.out | apply below_alloc | apply pw_below_drewN | apply below_drew1) | exact HB.out)⟩⟩
                                · rw [if_neg c23] at H
                                  have c23b0 : decide (x7_5 < (a0.size : Int)) = false := decide_eq_false c23
                                  clear c23
                                  (first | rw [c23b0] | (simp only [i64_w, i32_w]; rw [c23b0]) | skip)
                                  have H' := Aside0.mk H
                                  clear H
                                  go_wp2
                                  go_meet
                                  case rel => exact ⟨_, (x7_5), (by first | rfl | (simp; done) | (simp [*]; done)), H', ⟨by have := HK1.out; have := HJ6.out; have := HJ14.out; have := HJ19.out; have := HK5.out; first | omega | exact Nat.le_refl _⟩, ⟨by (with_reducible repeat (first | apply Kd.R_alloc | apply Kd.R_drewN | apply Kd.R_drew)); exact HO_6.out⟩, ⟨by repeat (first | (with_reducible first | exact HB.out | apply below_alloc | apply pw_below_drewN | apply below_drew1) | exact HB.out)⟩⟩
                          case rest =>
                            clear HC22
                            try clear c1
                            try clear p1
                            try clear q1
                            try clear hx1
                            try clear c2
                            try clear p2
                            try clear q2
                            try clear hx2
                            try clear c3
                            try clear c3b0
                            try clear p3
                            try clear q3
                            try clear hx3
                            try clear c4
                            try clear c4b0
                            try clear p5
                            try clear q5
                            try clear hx5
                            try clear c6
                            try clear c6b0
                            try clear c6b1
                            try clear p6
                            try clear c8
                            try clear c8b0
                            try clear c10
                            try clear c10b0
                            try clear p11
                            try clear q11
                            try clear hx11
                            try clear c12
                            try clear c13
                            try clear c16
                            try clear c16b0
                            try clear c18
                            try clear c18b0
                            try clear p19
                            try clear q19
                            try clear hx19
                            try clear c21
                            try clear c23
                            try clear c23b0
                            try clear c24
                            try clear c24b0
                            try clear c24b1
                            try clear c25
                            try clear c25b0
                            try clear p26
                            try clear q26
                            try clear hx26
                            try clear c28
                            try clear c29
                            try clear c29b0
                            try clear p30
                            try clear q30
                            try clear hx30
                            try clear c32
                            try clear c33
                            try clear c33b0
                            try clear c34
                            try clear c34b0
                            try clear p35
                            try clear q35
                            try clear hx35
                            try clear c37
                            try clear p1
                            try clear p11
                            try clear p19
                            try clear p2
                            try clear p26
                            try clear p30
                            try clear p35
                            try clear p5
                            try clear p6
                            try clear q1
                            try clear q11
                            try clear q19
                            try clear q26
                            try clear q30
                            try clear q35
                            try clear q5
                            obtain ⟨kq, x7_21, rfl, HA, HJ21, HO_6, HB⟩ := hcut
                            cases kq with
                            | zero => exact absurd HA.out (by simp [bastionref13_Subst.j5])
                            | succ kj21 =>
                              have H := HA.out
                              clear HA
                              simp only [bastionref13_Subst.j5] at H
                              by_cases c38 : 0 ≤ x7_19
                              · rw [if_pos c38] at H
                                have c38b0 := eq_true c38
                                have c38b1 : decide (0 ≤ x7_19) = true := decide_eq_true c38
                                clear c38
                                by_cases c39 : x7_19 ≤ x7_21
                                · rw [if_pos c39] at H
                                  have c39b0 := eq_true c39
                                  have c39b1 : decide (x7_19 ≤ x7_21) = true := decide_eq_true c39
                                  clear c39
                                  by_cases c40 : x7_21 ≤ (a0.size : Int)
                                  · rw [if_pos c40] at H
                                    have c40b0 := eq_true c40
                                    have c40b1 : decide (x7_21 ≤ (a0.size : Int)) = true := decide_eq_true c40
                                    clear c40
                                    have HC41 := Aside0.mk H
                                    clear H
                                    go_upto_region 18 with (fail)
                                    go_cut [114] (fun v114 wc => ∃ (kq : Nat) (x114_40 : Bool), v114 = .bool x114_40 ∧ Aside0 (bastionref13_Subst.j6 kq a0 l1 x6_1 x7_21 x8_14 (a0.extract (x7_19 : Int).toNat (x7_21 : Int).toNat) x114_40 = some (r1, r2)) ∧ Aside0 (kq ≤ kj21) ∧ Aside0 (Kd.R (Kd.int .u8) 5 wc w.heap.size (fun _ => True) u6 x6_1) ∧ Aside0 (Below w.heap.size w wc))
                                    case first =>
                                      have H := HC41.out
                                      clear HC41
                                      by_cases c42 : (a0.extract (x7_19 : Int).toNat (x7_21 : Int).toNat).toList = ([] : List UInt8)
                                      · rw [if_pos c42] at H
                                        have c42b0 : ((a0.extract (x7_19 : Int).toNat (x7_21 : Int).toNat).toList == ([] : List UInt8)) = true := beq_iff_eq.mpr c42
                                        have c42b1 : ((a0.extract (x7_19 : Int).toNat (x7_21 : Int).toNat).toList != ([] : List UInt8)) = false := bne_eq_false_iff_eq.mpr c42
                                        clear c42
                                        (first | rw [c42b0] | (simp only [i64_w, i32_w]; rw [c42b0]) | skip)
                                        have H' := Aside0.mk H
                                        clear H
                                        go_wp2
                                        go_meet
                                        case rel => exact ⟨_, (true), (by first | rfl | (simp; done) | (simp [*]; done)), H', ⟨by have := HK1.out; have := HJ6.out; have := HJ14.out; have := HJ19.out; have := HJ21.out; first | omega | exact Nat.le_refl _⟩, ⟨by (with_reducible repeat (first | apply Kd.R_alloc | apply Kd.R_drewN | apply Kd.R_drew)); exact HO_6.out⟩, ⟨by repeat (first | (with_reducible first | exact HB.out | apply below_alloc | apply pw_below_drewN | apply below_drew1) | exact HB.out)⟩⟩
                                      · rw [if_neg c42] at H
                                        have c42b0 : ((a0.extract (x7_19 : Int).toNat (x7_21 : Int).toNat).toList == ([] : List UInt8)) = false := beq_eq_false_iff_ne.mpr c42
                                        have c42b1 : ((a0.extract (x7_19 : Int).toNat (x7_21 : Int).toNat).toList != ([] : List UInt8)) = true := bne_iff_ne.mpr c42
                                        (first | rw [c42b0] | (simp only [i64_w, i32_w]; rw [c42b0]) | skip)
                                        by_cases c43 : ((a0.extract (x7_19 : Int).toNat (x7_21 : Int).toNat).size : Int) > 24
                                        · rw [if_pos c43] at H
                                          have c43b0 : decide (24 < ((a0.extract (x7_19 : Int).toNat (x7_21 : Int).toNat).size : Int)) = true := decide_eq_true c43
                                          have c43b1 : decide (24 < (a0.extract (x7_19 : Int).toNat (x7_21 : Int).toNat).size) = true := decide_eq_true (by omega)
                                          have c43x : ((24 : Int) < (((x7_21 : Int).toNat - (x7_19 : Int).toNat : Nat) : Int)) = True := eq_true (by have h_ := c43; rw [ByteArray.size_extract] at h_; have h2_ := of_decide_eq_true c40b1; omega)
                                          clear c43
                                          have H' := Aside0.mk H
                                          clear H
                                          go_wp2
                                          go_meet
                                          case rel => exact ⟨_, (true), (by first | rfl | (simp; done) | (simp [*]; done)), H', ⟨by have := HK1.out; have := HJ6.out; have := HJ14.out; have := HJ19.out; have := HJ21.out; first | omega | exact Nat.le_refl _⟩, ⟨by (with_reducible repeat (first | apply Kd.R_alloc | apply Kd.R_drewN | apply Kd.R_drew)); exact HO_6.out⟩, ⟨by repeat (first | (with_reducible first | exact HB.out | apply below_alloc | apply pw_below_drewN | apply below_drew1) | exact HB.out)⟩⟩
                                        · rw [if_neg c43] at H
                                          have c43b0 : decide (24 < ((a0.extract (x7_19 : Int).toNat (x7_21 : Int).toNat).size : Int)) = false := decide_eq_false c43
                                          have c43b1 : decide (24 < (a0.extract (x7_19 : Int).toNat (x7_21 : Int).toNat).size) = false := decide_eq_false (by omega)
                                          have c43x : ((24 : Int) < (((x7_21 : Int).toNat - (x7_19 : Int).toNat : Nat) : Int)) = False := eq_false (by have h_ := c43; rw [ByteArray.size_extract] at h_; have h2_ := of_decide_eq_true c40b1; omega)
                                          clear c43
                                          by_cases c44 : x8_14 = true
                                          · subst c44
                                            have H1 : (if x7_21 ≥ (a0.size : Int) then (bastionref13_Subst.j6 kj21 a0 l1 x6_1 x7_21 true (a0.extract (x7_19 : Int).toNat (x7_21 : Int).toNat) true) else (if 0 ≤ x7_21 then (if x7_21 < (a0.size : Int) then (bastionref13_Subst.j6 kj21 a0 l1 x6_1 x7_21 true (a0.extract (x7_19 : Int).toNat (x7_21 : Int).toNat) ((bt a0 x7_21) != 125)) else (none)) else (none))) = some (r1, r2) := by rw [if_pos rfl] at H; exact H
                                            clear H
                                            have H := H1
                                            clear H1
                                            by_cases c45 : x7_21 ≥ (a0.size : Int)
                                            · rw [if_pos c45] at H
                                              have c45b0 : decide ((a0.size : Int) ≤ x7_21) = true := decide_eq_true c45
                                              clear c45
                                              have H' := Aside0.mk H
                                              clear H
                                              go_wp2
                                              go_meet
                                              case rel => exact ⟨_, (true), (by first | rfl | (simp; done) | (simp [*]; done)), H', ⟨by have := HK1.out; have := HJ6.out; have := HJ14.out; have := HJ19.out; have := HJ21.out; first | omega | exact Nat.le_refl _⟩, ⟨by (with_reducible repeat (first | apply Kd.R_alloc | apply Kd.R_drewN | apply Kd.R_drew)); exact HO_6.out⟩, ⟨by repeat (first | (with_reducible first | exact HB.out | apply below_alloc | apply pw_below_drewN | apply below_drew1) | exact HB.out)⟩⟩
                                            · rw [if_neg c45] at H
                                              have c45b0 : decide ((a0.size : Int) ≤ x7_21) = false := decide_eq_false c45
                                              clear c45
                                              by_cases c46 : 0 ≤ x7_21
                                              · rw [if_pos c46] at H
                                                have c46b0 : decide (0 ≤ x7_21) = true := decide_eq_true c46
                                                clear c46
                                                by_cases c47 : x7_21 < (a0.size : Int)
                                                · rw [if_pos c47] at H
                                                  have c47b0 : decide (x7_21 < (a0.size : Int)) = true := decide_eq_true c47
                                                  clear c47
                                                  have H' := Aside0.mk H
                                                  clear H
                                                  have p48 : 0 ≤ (x7_21 : Int) := of_decide_eq_true (by first | (with_reducible assumption) | assumption)
                                                  have q48 : x7_21 < (a0.size : Int) := of_decide_eq_true (by first | (with_reducible assumption) | assumption)
                                                  have hx48 := bt_at a0 x7_21
                                                  replace p48 := eq_true p48
                                                  replace q48 := eq_true q48
                                                  go_wp2
                                                  go_meet
                                                  case rel => exact ⟨_, (((bt a0 x7_21) != 125)), (by first | rfl | (simp; done) | (simp [*]; done)), H', ⟨by have := HK1.out; have := HJ6.out; have := HJ14.out; have := HJ19.out; have := HJ21.out; first | omega | exact Nat.le_refl _⟩, ⟨by (with_reducible repeat (first | apply Kd.R_alloc | apply Kd.R_drewN | apply Kd.R_drew)); exact HO_6.out⟩, ⟨by repeat (first | (with_reducible first | exact HB.out | apply below_alloc | apply pw_below_drewN | apply below_drew1) | exact HB.out)⟩⟩
                                                · rw [if_neg c47] at H
                                                  exact absurd H (by simp)
                                              · rw [if_neg c46] at H
                                                exact absurd H (by simp)
                                          · replace c44 := Bool.eq_false_iff.mpr c44
                                            subst c44
                                            have H1 : (bastionref13_Subst.j6 kj21 a0 l1 x6_1 x7_21 false (a0.extract (x7_19 : Int).toNat (x7_21 : Int).toNat) false) = some (r1, r2) := by rw [if_neg (show ¬ (false = true) by decide)] at H; exact H
                                            clear H
                                            have H := H1
                                            clear H1
                                            have H' := Aside0.mk H
                                            clear H
                                            go_wp2
                                            go_meet
                                            case rel => exact ⟨_, (false), (by first | rfl | (simp; done) | (simp [*]; done)), H', ⟨by have := HK1.out; have := HJ6.out; have := HJ14.out; have := HJ19.out; have := HJ21.out; first | omega | exact Nat.le_refl _⟩, ⟨by (with_reducible repeat (first | apply Kd.R_alloc | apply Kd.R_drewN | apply Kd.R_drew)); exact HO_6.out⟩, ⟨by repeat (first | (with_reducible first | exact HB.out | apply below_alloc | apply pw_below_drewN | apply below_drew1) | exact HB.out)⟩⟩
                                    case rest =>
                                      clear HC41
                                      try clear c1
                                      try clear p1
                                      try clear q1
                                      try clear hx1
                                      try clear c2
                                      try clear p2
                                      try clear q2
                                      try clear hx2
                                      try clear c3
                                      try clear c3b0
                                      try clear p3
                                      try clear q3
                                      try clear hx3
                                      try clear c4
                                      try clear c4b0
                                      try clear p4
                                      try clear q4
                                      try clear hx4
                                      try clear p5
                                      try clear q5
                                      try clear hx5
                                      try clear c6
                                      try clear c6b0
                                      try clear c6b1
                                      try clear p6
                                      try clear c8
                                      try clear c8b0
                                      try clear c10
                                      try clear c10b0
                                      try clear p11
                                      try clear q11
                                      try clear hx11
                                      try clear c12
                                      try clear c13
                                      try clear c16
                                      try clear c16b0
                                      try clear c18
                                      try clear c18b0
                                      try clear p19
                                      try clear q19
                                      try clear hx19
                                      try clear c21
                                      try clear c23
                                      try clear c23b0
                                      try clear c24
                                      try clear c24b0
                                      try clear c24b1
                                      try clear c25
                                      try clear c25b0
                                      try clear p26
                                      try clear q26
                                      try clear hx26
                                      try clear c28
                                      try clear c29
                                      try clear c29b0
                                      try clear p30
                                      try clear q30
                                      try clear hx30
                                      try clear c32
                                      try clear c33
                                      try clear c33b0
                                      try clear c34
                                      try clear c34b0
                                      try clear p35
                                      try clear q35
                                      try clear hx35
                                      try clear c37
                                      try clear c38
                                      try clear c38b0
                                      try clear c38b1
                                      try clear c39
                                      try clear c39b0
                                      try clear c39b1
                                      try clear c40
                                      try clear c40b0
                                      try clear c40b1
                                      try clear c42
                                      try clear c42b0
                                      try clear c42b1
                                      try clear c43
                                      try clear c43b0
                                      try clear c43b1
                                      try clear c44
                                      try clear c45
                                      try clear c45b0
                                      try clear c46
                                      try clear c46b0
                                      try clear c47
                                      try clear c47b0
                                      try clear p48
                                      try clear q48
                                      try clear hx48
                                      try clear p1
                                      try clear p11
                                      try clear p19
                                      try clear p2
                                      try clear p26
                                      try clear p3
                                      try clear p30
                                      try clear p35
                                      try clear p48
                                      try clear p5
                                      try clear p6
                                      try clear q1
                                      try clear q11
                                      try clear q19
                                      try clear q2
                                      try clear q26
                                      try clear q3
                                      try clear q30
                                      try clear q35
                                      try clear q48
                                      try clear q5
                                      obtain ⟨kq, x114_40, rfl, HA, HJ40, HO_6, HB⟩ := hcut
                                      cases kq with
                                      | zero => exact absurd HA.out (by simp [bastionref13_Subst.j6])
                                      | succ kj40 =>
                                        have H := HA.out
                                        clear HA
                                        simp only [bastionref13_Subst.j6] at H
                                        by_cases c49 : x114_40 = true
                                        · subst c49
                                          have H1 : (some ((⟨#[]⟩ : ByteArray), 4)) = some (r1, r2) := by rw [if_pos rfl] at H; exact H
                                          clear H
                                          have H := H1
                                          clear H1
                                          simp only [Option.some.injEq, Prod.mk.injEq] at H
                                          obtain ⟨rfl, rfl⟩ := H
                                          go_wp2
                                          go_ret2
                                          exact ⟨by first | rfl | (simp [errW_none, errW_some] <;> rfl) | (simp [*, errW_none, errW_some] <;> rfl), by repeat (first | (with_reducible first | exact HB.out | apply below_alloc | apply pw_below_drewN | apply below_drew1) | exact HB.out)⟩
                                        · replace c49 := Bool.eq_false_iff.mpr c49
                                          subst c49
                                          have H1 : (if x8_14 = true then (bastionref13_Subst.j7 kj40 a0 l1 x6_1 (wrap64 (x7_21 + 1)) (a0.extract (x7_19 : Int).toNat (x7_21 : Int).toNat)) else (bastionref13_Subst.j7 kj40 a0 l1 x6_1 x7_21 (a0.extract (x7_19 : Int).toNat (x7_21 : Int).toNat))) = some (r1, r2) := by rw [if_neg (show ¬ (false = true) by decide)] at H; exact H
                                          clear H
                                          have H := H1
                                          clear H1
                                          have HC50 := Aside0.mk H
                                          clear H
                                          go_upto_if 115 with (fail)
                                          go_cut [7] (fun v7 wc => ∃ (kq : Nat) (x7_49 : Int), v7 = .int .i64 x7_49 ∧ Aside0 (bastionref13_Subst.j7 kq a0 l1 x6_1 x7_49 (a0.extract (x7_19 : Int).toNat (x7_21 : Int).toNat) = some (r1, r2)) ∧ Aside0 (kq ≤ kj40) ∧ Aside0 (Kd.R (Kd.int .u8) 5 wc w.heap.size (fun _ => True) u6 x6_1) ∧ Aside0 (Below w.heap.size w wc))
                                          case first =>
                                            have H := HC50.out
                                            clear HC50
                                            by_cases c51 : x8_14 = true
                                            · subst c51
                                              have H1 : (bastionref13_Subst.j7 kj40 a0 l1 x6_1 (wrap64 (x7_21 + 1)) (a0.extract (x7_19 : Int).toNat (x7_21 : Int).toNat)) = some (r1, r2) := by rw [if_pos rfl] at H; exact H
                                              clear H
                                              have H := H1
                                              clear H1
                                              have H' := Aside0.mk H
                                              clear H
                                              go_wp2
                                              go_meet
                                              case rel => exact ⟨_, (wrap64 (x7_21 + 1)), (by first | rfl | (simp; done) | (simp [*]; done)), H', ⟨by have := HK1.out; have := HJ6.out; have := HJ14.out; have := HJ19.out; have := HJ21.out; have := HJ40.out; first | omega | exact Nat.le_refl _⟩, ⟨by (with_reducible repeat (first | apply Kd.R_alloc | apply Kd.R_drewN | apply Kd.R_drew)); exact HO_6.out⟩, ⟨by repeat (first | (with_reducible first | exact HB.out | apply below_alloc | apply pw_below_drewN | apply below_drew1) | exact HB.out)⟩⟩
                                            · replace c51 := Bool.eq_false_iff.mpr c51
                                              subst c51
                                              have H1 : (bastionref13_Subst.j7 kj40 a0 l1 x6_1 x7_21 (a0.extract (x7_19 : Int).toNat (x7_21 : Int).toNat)) = some (r1, r2) := by rw [if_neg (show ¬ (false = true) by decide)] at H; exact H
                                              clear H
                                              have H := H1
                                              clear H1
                                              have H' := Aside0.mk H
                                              clear H
                                              go_wp2
                                              go_meet
                                              case rel => exact ⟨_, (x7_21), (by first | rfl | (simp; done) | (simp [*]; done)), H', ⟨by have := HK1.out; have := HJ6.out; have := HJ14.out; have := HJ19.out; have := HJ21.out; have := HJ40.out; first | omega | exact Nat.le_refl _⟩, ⟨by (with_reducible repeat (first | apply Kd.R_alloc | apply Kd.R_drewN | apply Kd.R_drew)); exact HO_6.out⟩, ⟨by repeat (first | (with_reducible first | exact HB.out | apply below_alloc | apply pw_below_drewN | apply below_drew1) | exact HB.out)⟩⟩
                                          case rest =>
                                            clear HC50
                                            try clear c1
                                            try clear p1
                                            try clear q1
                                            try clear hx1
                                            try clear c2
                                            try clear p2
                                            try clear q2
                                            try clear hx2
                                            try clear c3
                                            try clear c3b0
                                            try clear p3
                                            try clear q3
                                            try clear hx3
                                            try clear c4
                                            try clear c4b0
                                            try clear p4
                                            try clear q4
                                            try clear hx4
                                            try clear c5
                                            try clear p5
                                            try clear q5
                                            try clear hx5
                                            try clear c6
                                            try clear c6b0
                                            try clear c6b1
                                            try clear p6
                                            try clear c8
                                            try clear c8b0
                                            try clear c10
                                            try clear c10b0
                                            try clear p11
                                            try clear q11
                                            try clear hx11
                                            try clear c12
                                            try clear c13
                                            try clear c16
                                            try clear c16b0
                                            try clear c18
                                            try clear c18b0
                                            try clear p19
                                            try clear q19
                                            try clear hx19
                                            try clear c21
                                            try clear c23
                                            try clear c23b0
                                            try clear c24
                                            try clear c24b0
                                            try clear c24b1
                                            try clear c25
                                            try clear c25b0
                                            try clear p26
                                            try clear q26
                                            try clear hx26
                                            try clear c28
                                            try clear c29
                                            try clear c29b0
                                            try clear p30
                                            try clear q30
                                            try clear hx30
                                            try clear c32
                                            try clear c33
                                            try clear c33b0
                                            try clear c34
                                            try clear c34b0
                                            try clear p35
                                            try clear q35
                                            try clear hx35
                                            try clear c37
                                            try clear c38
                                            try clear c38b0
                                            try clear c38b1
                                            try clear c39
                                            try clear c39b0
                                            try clear c39b1
                                            try clear c40
                                            try clear c40b0
                                            try clear c40b1
                                            try clear c42
                                            try clear c42b0
                                            try clear c42b1
                                            try clear c43
                                            try clear c43b0
                                            try clear c43b1
                                            try clear c44
                                            try clear c45
                                            try clear c45b0
                                            try clear c46
                                            try clear c46b0
                                            try clear c47
                                            try clear c47b0
                                            try clear p48
                                            try clear q48
                                            try clear hx48
                                            try clear c49
                                            try clear c51
                                            try clear p1
                                            try clear p11
                                            try clear p19
                                            try clear p2
                                            try clear p26
                                            try clear p3
                                            try clear p30
                                            try clear p35
                                            try clear p4
                                            try clear p48
                                            try clear p5
                                            try clear p6
                                            try clear q1
                                            try clear q11
                                            try clear q19
                                            try clear q2
                                            try clear q26
                                            try clear q3
                                            try clear q30
                                            try clear q35
                                            try clear q4
                                            try clear q48
                                            try clear q5
                                            obtain ⟨kq, x7_49, rfl, HA, HJ49, HO_6, HB⟩ := hcut
                                            cases kq with
                                            | zero => exact absurd HA.out (by simp [bastionref13_Subst.j7])
                                            | succ kj49 =>
                                              have H := HA.out
                                              clear HA
                                              simp only [bastionref13_Subst.j7] at H
                                              have H' := Aside0.mk H
                                              clear H
                                              go_wp2
                                              go_loopg [11, 12, 13] kj49 (fun kq v11 v12 v13 w' => ∃ (x11_8 : Bool) (x12_8 : ByteArray) (x13_8 : Int), v11 = .bool x11_8 ∧ v12 = .string x12_8 ∧ v13 = .int .i64 x13_8 ∧ Aside0 (bastionref13_Subst.l2 kq a0 l1 x6_1 x7_49 (a0.extract (x7_19 : Int).toNat (x7_21 : Int).toNat) x11_8 x12_8 x13_8 = some (r1, r2)) ∧ Aside0 (kq ≤ kj49) ∧ Aside0 (Kd.R (Kd.int .u8) 5 w' w.heap.size (fun _ => True) u6 x6_1) ∧ Aside0 (Below w.heap.size w w'))
                                              case atStart => exact ⟨(false), ((⟨#[]⟩ : ByteArray)), (0), (by first | rfl | (simp; done) | (simp [*]; done)), (by first | rfl | (simp; done) | (simp [*]; done)), (by first | rfl | (simp; done) | (simp [*]; done)), H', ⟨Nat.le_refl _⟩, ⟨by (with_reducible repeat (first | apply Kd.R_alloc | apply Kd.R_drewN | apply Kd.R_drew)); exact HO_6.out⟩, ⟨by repeat (first | (with_reducible first | exact HB.out | apply below_alloc | apply pw_below_drewN | apply below_drew1) | exact HB.out)⟩⟩
                                              case round =>
                                                clear H'
                                                try clear c1
                                                try clear p1
                                                try clear q1
                                                try clear hx1
                                                try clear c2
                                                try clear p2
                                                try clear q2
                                                try clear hx2
                                                try clear c3
                                                try clear c3b0
                                                try clear p3
                                                try clear q3
                                                try clear hx3
                                                try clear c4
                                                try clear c4b0
                                                try clear p4
                                                try clear q4
                                                try clear hx4
                                                try clear c5
                                                try clear p5
                                                try clear q5
                                                try clear hx5
                                                try clear c6
                                                try clear c6b0
                                                try clear c6b1
                                                try clear p6
                                                try clear c8
                                                try clear c8b0
                                                try clear c10
                                                try clear c10b0
                                                try clear p11
                                                try clear q11
                                                try clear hx11
                                                try clear c12
                                                try clear c13
                                                try clear c16
                                                try clear c16b0
                                                try clear c18
                                                try clear c18b0
                                                try clear p19
                                                try clear q19
                                                try clear hx19
                                                try clear c21
                                                try clear c23
                                                try clear c23b0
                                                try clear c24
                                                try clear c24b0
                                                try clear c24b1
                                                try clear c25
                                                try clear c25b0
                                                try clear p26
                                                try clear q26
                                                try clear hx26
                                                try clear c28
                                                try clear c29
                                                try clear c29b0
                                                try clear p30
                                                try clear q30
                                                try clear hx30
                                                try clear c32
                                                try clear c33
                                                try clear c33b0
                                                try clear c34
                                                try clear c34b0
                                                try clear p35
                                                try clear q35
                                                try clear hx35
                                                try clear c37
                                                try clear c38
                                                try clear c38b0
                                                try clear c38b1
                                                try clear c39
                                                try clear c39b0
                                                try clear c39b1
                                                try clear c40
                                                try clear c40b0
                                                try clear c40b1
                                                try clear c42
                                                try clear c42b0
                                                try clear c42b1
                                                try clear c43
                                                try clear c43b0
                                                try clear c43b1
                                                try clear c44
                                                try clear c45
                                                try clear c45b0
                                                try clear c46
                                                try clear c46b0
                                                try clear c47
                                                try clear c47b0
                                                try clear p48
                                                try clear q48
                                                try clear hx48
                                                try clear c49
                                                try clear c51
                                                try clear p1
                                                try clear p11
                                                try clear p19
                                                try clear p2
                                                try clear p26
                                                try clear p3
                                                try clear p30
                                                try clear p35
                                                try clear p4
                                                try clear p48
                                                try clear p5
                                                try clear p6
                                                try clear q1
                                                try clear q11
                                                try clear q19
                                                try clear q2
                                                try clear q26
                                                try clear q3
                                                try clear q30
                                                try clear q35
                                                try clear q4
                                                try clear q48
                                                try clear q5
                                                obtain ⟨x11_8, x12_8, x13_8, rfl, rfl, rfl, HA, HK8, HO_6, HB⟩ := hrel
                                                cases gk with
                                                | zero => exact absurd HA.out (by simp [bastionref13_Subst.l2])
                                                | succ k8 =>
                                                  have H := HA.out
                                                  clear HA
                                                  simp only [bastionref13_Subst.l2] at H
                                                  by_cases c52 : x13_8 < (l1.length : Int)
                                                  · rw [if_pos c52] at H
                                                    have c52b0 : decide (x13_8 < (l1.length : Int)) = true := decide_eq_true c52
                                                    clear c52
                                                    by_cases c53 : 0 ≤ x13_8
                                                    · rw [if_pos c53] at H
                                                      have c53b0 : decide (0 ≤ x13_8) = true := decide_eq_true c53
                                                      clear c53
                                                      by_cases c54 : ((rd_T32 l1 x13_8).f0).toList = (a0.extract (x7_19 : Int).toNat (x7_21 : Int).toNat).toList
                                                      · rw [if_pos c54] at H
                                                        have c54b0 : (((rd_T32 l1 x13_8).f0).toList == (a0.extract (x7_19 : Int).toNat (x7_21 : Int).toNat).toList) = true := beq_iff_eq.mpr c54
                                                        have c54b1 : (((rd_T32 l1 x13_8).f0).toList != (a0.extract (x7_19 : Int).toNat (x7_21 : Int).toNat).toList) = false := bne_eq_false_iff_eq.mpr c54
                                                        clear c54
                                                        have H' := Aside0.mk H
                                                        clear H
                                                        have p119 : 0 ≤ (x13_8 : Int) := of_decide_eq_true (by first | (with_reducible assumption) | assumption)
                                                        have q119 : x13_8 < (l1.length : Int) := of_decide_eq_true (by first | (with_reducible assumption) | assumption)
                                                        obtain ⟨ad119, e119, hx119_0, hx119_1⟩ := at_T32 HR1.out x13_8 p119 q119
                                                        cases e119
                                                        replace hx119_0 := (HB.out.cell (World.block_lt_of_cell? w _ hx119_0)).trans hx119_0
                                                        replace hx119_1 := (HB.out.cell (World.block_lt_of_cell? w _ hx119_1)).trans hx119_1
                                                        replace p119 := eq_true p119
                                                        replace q119 := eq_true q119
                                                        have p120 : 0 ≤ (x13_8 : Int) := of_decide_eq_true (by first | (with_reducible assumption) | assumption)
                                                        have q120 : x13_8 < (l1.length : Int) := of_decide_eq_true (by first | (with_reducible assumption) | assumption)
                                                        obtain ⟨ad120, e120, hx120_0, hx120_1⟩ := at_T32 HR1.out x13_8 p120 q120
                                                        obtain rfl : ad119 = ad120 := (by injection e120)
                                                        replace hx120_0 := (HB.out.cell (World.block_lt_of_cell? w _ hx120_0)).trans hx120_0
                                                        replace hx120_1 := (HB.out.cell (World.block_lt_of_cell? w _ hx120_1)).trans hx120_1
                                                        replace p120 := eq_true p120
                                                        replace q120 := eq_true q120
                                                        go_wp2
                                                        go_roundg k8
                                                        case measure => have := HK1.out; have := HJ6.out; have := HJ14.out; have := HJ19.out; have := HJ21.out; have := HJ40.out; have := HJ49.out; have := HK8.out; omega
                                                        case rel => exact ⟨(true), ((rd_T32 l1 x13_8).f1), (wrap64 (x13_8 + 1)), (by first | rfl | (simp; done) | (simp [*]; done)), (by first | rfl | (simp; done) | (simp [*]; done)), (by first | rfl | (simp; done) | (simp [*]; done)), H', ⟨by have := HK1.out; have := HJ6.out; have := HJ14.out; have := HJ19.out; have := HJ21.out; have := HJ40.out; have := HJ49.out; have := HK8.out; omega⟩, ⟨by (with_reducible repeat (first | apply Kd.R_alloc | apply Kd.R_drewN | apply Kd.R_drew)); exact HO_6.out⟩, ⟨by repeat (first | (with_reducible first | exact HB.out | apply below_alloc | apply pw_below_drewN | apply below_drew1) | exact HB.out)⟩⟩
                                                      · rw [if_neg c54] at H
                                                        have c54b0 : (((rd_T32 l1 x13_8).f0).toList == (a0.extract (x7_19 : Int).toNat (x7_21 : Int).toNat).toList) = false := beq_eq_false_iff_ne.mpr c54
                                                        have c54b1 : (((rd_T32 l1 x13_8).f0).toList != (a0.extract (x7_19 : Int).toNat (x7_21 : Int).toNat).toList) = true := bne_iff_ne.mpr c54
                                                        have H' := Aside0.mk H
                                                        clear H
                                                        have p119 : 0 ≤ (x13_8 : Int) := of_decide_eq_true (by first | (with_reducible assumption) | assumption)
                                                        have q119 : x13_8 < (l1.length : Int) := of_decide_eq_true (by first | (with_reducible assumption) | assumption)
                                                        obtain ⟨ad119, e119, hx119_0, hx119_1⟩ := at_T32 HR1.out x13_8 p119 q119
                                                        cases e119
                                                        replace hx119_0 := (HB.out.cell (World.block_lt_of_cell? w _ hx119_0)).trans hx119_0
                                                        replace hx119_1 := (HB.out.cell (World.block_lt_of_cell? w _ hx119_1)).trans hx119_1
                                                        replace p119 := eq_true p119
                                                        replace q119 := eq_true q119
                                                        go_wp2
                                                        go_roundg k8
                                                        case measure => have := HK1.out; have := HJ6.out; have := HJ14.out; have := HJ19.out; have := HJ21.out; have := HJ40.out; have := HJ49.out; have := HK8.out; omega
                                                        case rel => exact ⟨(x11_8), (x12_8), (wrap64 (x13_8 + 1)), (by first | rfl | (simp; done) | (simp [*]; done)), (by first | rfl | (simp; done) | (simp [*]; done)), (by first | rfl | (simp; done) | (simp [*]; done)), H', ⟨by have := HK1.out; have := HJ6.out; have := HJ14.out; have := HJ19.out; have := HJ21.out; have := HJ40.out; have := HJ49.out; have := HK8.out; omega⟩, ⟨by (with_reducible repeat (first | apply Kd.R_alloc | apply Kd.R_drewN | apply Kd.R_drew)); exact HO_6.out⟩, ⟨by repeat (first | (with_reducible first | exact HB.out | apply below_alloc | apply pw_below_drewN | apply below_drew1) | exact HB.out)⟩⟩
                                                    · rw [if_neg c53] at H
                                                      exact absurd H (by simp)
                                                  · rw [if_neg c52] at H
                                                    have c52b0 : decide (x13_8 < (l1.length : Int)) = false := decide_eq_false c52
                                                    clear c52
                                                    by_cases c55 : x11_8 = true
                                                    · subst c55
                                                      have H1 : (if x6_1.length + x12_8.size < 140737488355328 then (bastionref13_Subst.l0 k8 a0 l1 (x6_1 ++ bytesOf x12_8) x7_49) else (none)) = some (r1, r2) := by rw [if_pos rfl] at H; exact H
                                                      clear H
                                                      have H := H1
                                                      clear H1
                                                      by_cases c56 : x6_1.length + x12_8.size < 140737488355328
                                                      · rw [if_pos c56] at H
                                                        have LMc56 := Aside0.mk c56
                                                        clear c56
                                                        obtain ⟨y121, hy121⟩ : ∃ y_ : List Int, y_ = (x6_1 ++ bytesOf x12_8) := ⟨_, rfl⟩
                                                        replace H : (bastionref13_Subst.l0 k8 a0 l1 y121 x7_49) = some (r1, r2) := by first | (rw [hy121]; with_reducible exact H) | (have H2_ := (Option.bind_some _ _).symm.trans H; rw [hy121]; with_reducible exact H2_) | (have H2_ := (Option.bind_some _ _).symm.trans H; with_reducible exact H2_) | with_reducible exact H | (rw [hy121]; exact H) | exact H
                                                        have Ny121 := Aside0.mk hy121
                                                        clear hy121
                                                        have H' := Aside0.mk H
                                                        clear H
                                                        go_wp2_with (first | (at_builtin; refine print_append_str (w0 := w) w.heap.size rfl (.tmp 138) _ 35 9 5 rfl Try.underlying35 Try.underlying9 info5 u6 x6_1 x12_8 rfl rfl ?aO ?aB ?aS ?aL ?_; (case aB => exact (by repeat (first | (with_reducible first | exact HB.out | apply below_alloc | apply pw_below_drewN | apply below_drew1) | exact HB.out))); (case aO => exact (Kd.own_of_R (by (with_reducible repeat (first | apply Kd.R_alloc | apply Kd.R_drewN | apply Kd.R_drew)); exact HO_6.out))); (case aS => exact (below_size (by repeat (first | (with_reducible first | exact HB.out | apply below_alloc | apply pw_below_drewN | apply below_drew1) | exact HB.out)))); (case aL => have := LMc56.out; omega); intro v122 w57 ho0 hb hg; have ho := Kd.R_of_own (h1 := fun _ => rfl) (ok := fun _ => True) ho0 (fun _ _ => trivial); clear ho0; have hat := True.intro; rw [← Ny121.out] at ho; change Kd.R (Kd.int .u8) 5 w57 w.heap.size (fun _ => True) v122 y121 at ho; have n0_ := Aside0.mk (hb); have n1_ := Aside0.mk (ho); clear HB; clear HO_6; have HB := n0_; have HO123 := n1_; clear n0_ n1_; clear ho hb hg hat))
                                                        go_roundg k8
                                                        case measure => have := HK1.out; have := HJ6.out; have := HJ14.out; have := HJ19.out; have := HJ21.out; have := HJ40.out; have := HJ49.out; have := HK8.out; omega
                                                        case rel => exact ⟨(y121), (x7_49), (by first | rfl | (simp; done) | (simp [*]; done)), H', ⟨by have := HK1.out; have := HJ6.out; have := HJ14.out; have := HJ19.out; have := HJ21.out; have := HJ40.out; have := HJ49.out; have := HK8.out; omega⟩, ⟨by (with_reducible repeat (first | apply Kd.R_alloc | apply Kd.R_drewN | apply Kd.R_drew)); exact HO123.out⟩, ⟨by repeat (first | (with_reducible first | exact HB.out | apply below_alloc | apply pw_below_drewN | apply below_drew1) | exact HB.out)⟩⟩
                                                      · rw [if_neg c56] at H
                                                        exact absurd H (by simp)
                                                    · replace c55 := Bool.eq_false_iff.mpr c55
                                                      subst c55
                                                      have H1 : (some ((⟨#[]⟩ : ByteArray), 63)) = some (r1, r2) := by rw [if_neg (show ¬ (false = true) by decide)] at H; exact H
                                                      clear H
                                                      have H := H1
                                                      clear H1
                                                      simp only [Option.some.injEq, Prod.mk.injEq] at H
                                                      obtain ⟨rfl, rfl⟩ := H
                                                      go_wp2
                                                      go_ret2
                                                      exact ⟨by first | rfl | (simp [errW_none, errW_some] <;> rfl) | (simp [*, errW_none, errW_some] <;> rfl), by repeat (first | (with_reducible first | exact HB.out | apply below_alloc | apply pw_below_drewN | apply below_drew1) | exact HB.out)⟩
                                  · rw [if_neg c40] at H
                                    exact absurd H (by simp)
                                · rw [if_neg c39] at H
                                  exact absurd H (by simp)
                              · rw [if_neg c38] at H
                                exact absurd H (by simp)
          · rw [if_neg c6] at H
            have c6b0 : ((bt a0 x7_1) == 36) = false := beq_eq_false_iff_ne.mpr c6
            have c6b1 : ((bt a0 x7_1) != 36) = true := bne_iff_ne.mpr c6
            by_cases c59 : x6_1.length < 140737488355328
            · rw [if_pos c59] at H
              have LMc59 := Aside0.mk c59
              clear c59
              obtain ⟨y110, hy110⟩ : ∃ y_ : List Int, y_ = (x6_1 ++ [bt a0 x7_1]) := ⟨_, rfl⟩
              replace H : (bastionref13_Subst.l0 k1 a0 l1 y110 (wrap64 (x7_1 + 1))) = some (r1, r2) := by first | (rw [hy110]; with_reducible exact H) | (have H2_ := (Option.bind_some _ _).symm.trans H; rw [hy110]; with_reducible exact H2_) | (have H2_ := (Option.bind_some _ _).symm.trans H; with_reducible exact H2_) | with_reducible exact H | (rw [hy110]; exact H) | exact H
              have Ny110 := Aside0.mk hy110
              clear hy110
              have H' := Aside0.mk H
              clear H
              have p5 : 0 ≤ (x7_1 : Int) := of_decide_eq_true (by first | (with_reducible assumption) | assumption)
              have q5 : x7_1 < (a0.size : Int) := of_decide_eq_true (by first | (with_reducible assumption) | assumption)
              have hx5 := bt_at a0 x7_1
              replace p5 := eq_true p5
              replace q5 := eq_true q5
              have p58 : 0 ≤ (x7_1 : Int) := of_decide_eq_true (by first | (with_reducible assumption) | assumption)
              have q58 : x7_1 < (a0.size : Int) := of_decide_eq_true (by first | (with_reducible assumption) | assumption)
              have hx58 := bt_at a0 x7_1
              replace p58 := eq_true p58
              replace q58 := eq_true q58
              go_wp2_with (first | ((with_reducible refine gate_builtin (b := .append) (xs := #[.tmp 22, .tmp 26]) rfl ?_); (try (refine gate_guard (by rfl) ?_; dsimp only)); at_builtin; refine Kd.R_append (Kd.int .u8) (w0 := w) w.heap.size rfl (.tmp 22) (.tmp 26) 35 5 (.int .u8 0) 1 rfl Try.underlying35 info5 rfl (by decide) (by omega) u6 x6_1 (bt a0 x7_1) [.int .u8 (bt a0 x7_1)] (fun _ => True) (fun _ => False) rfl rfl ?aP (fun _ hk => hk.elim) ?aF ?aO ?aB ?aS ?aL ?_; (case aP => exact rfl); (case aB => exact (by repeat (first | (with_reducible first | exact HB.out | apply below_alloc | apply pw_below_drewN | apply below_drew1) | exact HB.out))); (case aF => exact (fun _ _ => trivial)); (case aO => exact (by (with_reducible repeat (first | apply Kd.R_alloc | apply Kd.R_drewN | apply Kd.R_drew)); exact HO_6.out)); (case aS => exact (below_size (by repeat (first | (with_reducible first | exact HB.out | apply below_alloc | apply pw_below_drewN | apply below_drew1) | exact HB.out)))); (case aL => have := LMc59.out; omega); intro v111 w60 ho hb hg hat; rw [← Ny110.out] at ho; have n0_ := Aside0.mk (hb); have n1_ := Aside0.mk (ho); clear HB; clear HO_6; have HB := n0_; have HO112 := n1_; clear n0_ n1_; clear ho hb hg hat))
              go_roundg k1
              case measure => have := HK1.out; omega
              case rel => exact ⟨(y110), (wrap64 (x7_1 + 1)), (by first | rfl | (simp; done) | (simp [*]; done)), H', ⟨by have := HK1.out; omega⟩, ⟨by (with_reducible repeat (first | apply Kd.R_alloc | apply Kd.R_drewN | apply Kd.R_drew)); exact HO112.out⟩, ⟨by repeat (first | (with_reducible first | exact HB.out | apply below_alloc | apply pw_below_drewN | apply below_drew1) | exact HB.out)⟩⟩
            · rw [if_neg c59] at H
              exact absurd H (by simp)
        · rw [if_neg c4] at H
          exact absurd H (by simp)
      · rw [if_neg c3] at H
        have c3b0 : decide (x7_1 < (a0.size : Int)) = false := decide_eq_false c3
        clear c3
        by_cases c61 : (x6_1.length : Int) > 400
        · rw [if_pos c61] at H
          have c61b0 : decide (400 < (x6_1.length : Int)) = true := decide_eq_true c61
          have c61b1 : decide (400 < x6_1.length) = true := decide_eq_true (by omega)
          clear c61
          simp only [Option.some.injEq, Prod.mk.injEq] at H
          obtain ⟨rfl, rfl⟩ := H
          obtain ⟨Ao62, co62, eo62⟩ := Kd.R_slice HO_6.out
          subst eo62
          go_wp2
          go_ret2
          exact ⟨by first | rfl | (simp [errW_none, errW_some] <;> rfl) | (simp [*, errW_none, errW_some] <;> rfl), by repeat (first | (with_reducible first | exact HB.out | apply below_alloc | apply pw_below_drewN | apply below_drew1) | exact HB.out)⟩
        · rw [if_neg c61] at H
          have c61b0 : decide (400 < (x6_1.length : Int)) = false := decide_eq_false c61
          have c61b1 : decide (400 < x6_1.length) = false := decide_eq_false (by omega)
          clear c61
          simp only [Option.some.injEq, Prod.mk.injEq] at H
          obtain ⟨rfl, rfl⟩ := H
          obtain ⟨Ao63, co63, eo63⟩ := Kd.R_slice HO_6.out
          subst eo63
          have hcv64 := own_string (P := Try.prog) Try.underlying35 Try.underlying5 Try.underlying9 (Kd.own_of_R HO_6.out)
          go_wp2
          go_ret2
          exact ⟨by first | rfl | (simp [errW_none, errW_some] <;> rfl) | (simp [*, errW_none, errW_some] <;> rfl), by repeat (first | (with_reducible first | exact HB.out | apply below_alloc | apply pw_below_drewN | apply below_drew1) | exact HB.out)⟩

end Go.Proofs.Ytdoifpjpdhccdaa.E
