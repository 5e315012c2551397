-- Written by wip/xprint.py: the kit's print with functions proved by hand in their places. Not trusted: Lean checks it.
import Derived.Test.YtifgdhmbjlfnhaaDoorMx0
namespace Go.Proofs.YtifgdhmbjlfnhaaDoor.M
open Go.RowKit Go.Proofs.YtifgdhmbjlfnhaaDoorW.PrintWords Go.Proofs.YtifgdhmbjlfnhaaDoorW.PrintLast Go.Proofs.YtifgdhmbjlfnhaaDoorW.PrintMore
attribute [local go_sem] max2_int min2_int max_two min_two max_three min_three max_four min_four   -- for this text's walks alone
set_option linter.unusedVariables false
set_option linter.unusedSimpArgs false

/-! ### bastionlaw14_large: function 8 -/
mutual
def bastionlaw14_large.l0 : Nat → List (S42) → Int → Int → Option (Bool)
  | 0, _, _, _ => none
  | k + 1, x0, x3, x4 => if x4 < (x0.length : Int) then (bastionlaw14_large.j1 k x0 x3 x4 (decide (x4 < 100))) else (bastionlaw14_large.j1 k x0 x3 x4 false)
def bastionlaw14_large.j1 : Nat → List (S42) → Int → Int → Bool → Option (Bool)
  | 0, _, _, _, _ => none
  | k + 1, x0, x3, x4, x15 => if x15 = true then (if 0 ≤ x4 then (if x4 < (x0.length : Int) then (bastionlaw14_large.l1 k x0 (wrap64 ((wrap64 (x3 + (((rd_T42 x0 x4).f1).length : Int))) + (((rd_T42 x0 x4).f0).size : Int))) x4 0) else (none)) else (none)) else (some (decide (x3 > 3000)))
def bastionlaw14_large.l1 : Nat → List (S42) → Int → Int → Int → Option (Bool)
  | 0, _, _, _, _ => none
  | k + 1, x0, x3, x4, x5 => if 0 ≤ x4 then (if x4 < (x0.length : Int) then (if x5 < (((rd_T42 x0 x4).f1).length : Int) then (if x5 < 100 then (if 0 ≤ x5 then (bastionlaw14_large.l1 k x0 (wrap64 (x3 + ((rdOf ByteArray.empty ((rd_T42 x0 x4).f1) x5).size : Int))) x4 (wrap64 (x5 + 1))) else (none)) else (bastionlaw14_large.l0 k x0 x3 (wrap64 (x4 + 1)))) else (bastionlaw14_large.l0 k x0 x3 (wrap64 (x4 + 1)))) else (none)) else (none)
end
def bastionlaw14_large.f (k : Nat) (l0 : List (S42)) : Option (Bool) := bastionlaw14_large.l0 k l0 (l0.length : Int) 0
theorem bastionlaw14_large.mono_l : ∀ k, (∀ y0 y1 y2, LeO (bastionlaw14_large.l0 k y0 y1 y2) (bastionlaw14_large.l0 (k + 1) y0 y1 y2)) ∧ (∀ y0 y1 y2 y3, LeO (bastionlaw14_large.j1 k y0 y1 y2 y3) (bastionlaw14_large.j1 (k + 1) y0 y1 y2 y3)) ∧ (∀ y0 y1 y2 y3, LeO (bastionlaw14_large.l1 k y0 y1 y2 y3) (bastionlaw14_large.l1 (k + 1) y0 y1 y2 y3))
  | 0 => ⟨fun _ _ _ r h => by simp [bastionlaw14_large.l0] at h, fun _ _ _ _ r h => by simp [bastionlaw14_large.j1] at h, fun _ _ _ _ r h => by simp [bastionlaw14_large.l1] at h⟩
  | k + 1 => by
    obtain ⟨ih0, ih1, ih2⟩ := bastionlaw14_large.mono_l k
    refine ⟨?_, ?_, ?_⟩
    · intro y0 y1 y2
      unfold bastionlaw14_large.l0
      repeat' first
      | (with_reducible exact ih0 _ _ _)
      | (with_reducible exact ih1 _ _ _ _)
      | (with_reducible exact ih2 _ _ _ _)
      | (with_reducible exact LeO.refl _)
      | (with_reducible exact LeO.none _)
      | (with_reducible refine LeO.ite ?_ ?_)
      | (with_reducible refine LeO.bind ?_ (fun _ => ?_))
      | exact ih0 _ _ _
      | exact ih1 _ _ _ _
      | exact ih2 _ _ _ _
      | exact LeO.none _
      | refine LeO.ite ?_ ?_
      | refine LeO.bind ?_ (fun _ => ?_)
    · intro y0 y1 y2 y3
      unfold bastionlaw14_large.j1
      repeat' first
      | (with_reducible exact ih0 _ _ _)
      | (with_reducible exact ih1 _ _ _ _)
      | (with_reducible exact ih2 _ _ _ _)
      | (with_reducible exact LeO.refl _)
      | (with_reducible exact LeO.none _)
      | (with_reducible refine LeO.ite ?_ ?_)
      | (with_reducible refine LeO.bind ?_ (fun _ => ?_))
      | exact ih0 _ _ _
      | exact ih1 _ _ _ _
      | exact ih2 _ _ _ _
      | exact LeO.none _
      | refine LeO.ite ?_ ?_
      | refine LeO.bind ?_ (fun _ => ?_)
    · intro y0 y1 y2 y3
      unfold bastionlaw14_large.l1
      repeat' first
      | (with_reducible exact ih0 _ _ _)
      | (with_reducible exact ih1 _ _ _ _)
      | (with_reducible exact ih2 _ _ _ _)
      | (with_reducible exact LeO.refl _)
      | (with_reducible exact LeO.none _)
      | (with_reducible refine LeO.ite ?_ ?_)
      | (with_reducible refine LeO.bind ?_ (fun _ => ?_))
      | exact ih0 _ _ _
      | exact ih1 _ _ _ _
      | exact ih2 _ _ _ _
      | exact LeO.none _
      | refine LeO.ite ?_ ?_
      | refine LeO.bind ?_ (fun _ => ?_)
theorem bastionlaw14_large.mono : ∀ a0 k, LeO (bastionlaw14_large.f k a0) (bastionlaw14_large.f (k + 1) a0) := by
  intro a0 k
  obtain ⟨ih0, ih1, ih2⟩ := bastionlaw14_large.mono_l k
  unfold bastionlaw14_large.f
  repeat' first
      | (with_reducible exact ih0 _ _ _)
      | (with_reducible exact ih1 _ _ _ _)
      | (with_reducible exact ih2 _ _ _ _)
      | (with_reducible exact LeO.refl _)
      | (with_reducible exact LeO.none _)
      | (with_reducible refine LeO.ite ?_ ?_)
      | (with_reducible refine LeO.bind ?_ (fun _ => ?_))
      | exact ih0 _ _ _
      | exact ih1 _ _ _ _
      | exact ih2 _ _ _ _
      | exact LeO.none _
      | refine LeO.ite ?_ ?_
      | refine LeO.bind ?_ (fun _ => ?_)
set_option maxHeartbeats 8000000 in
set_option maxRecDepth 100000 in
theorem bastionlaw14_large.calls (k : Nat) (A0 : Option Addr) (c0 : Nat) (l0 : List (S42)) (r : Bool) (w : World) (hr0 : Kd.C k42 w A0 l0.length l0) (hc0 : l0.length ≤ c0) (h : bastionlaw14_large.f k l0 = some r) :
    Calls Tryd.prog 8 #[.slice A0 l0.length c0] w fun e w' => e = .returned (.bool r) ∧ Drawn0 w w' := by
  have HR0 := Aside0.mk hr0
  have HC0 := Aside0.mk hc0
  clear hr0 hc0
  have H : (bastionlaw14_large.l0 k l0 (l0.length : Int) 0) = some r := h
  clear h
  have H' := Aside0.mk H
  clear H
  go_enter Tryd.func8, Tryd.ntmps8
  go_wp2
  repeat (go_quiet (fail); try go_wp2)
  go_loopg [3, 4] k (fun kq v3 v4 w' => ∃ (x3_1 : Int) (x4_1 : Int), v3 = .int .i64 x3_1 ∧ v4 = .int .i64 x4_1 ∧ Aside0 (bastionlaw14_large.l0 kq l0 x3_1 x4_1 = some r) ∧ Aside0 (kq ≤ k) ∧ Drawn0 w w')
  case atStart => exact ⟨((l0.length : Int)), (0), (by first | rfl | (simp; done) | (simp [*]; done)), (by first | rfl | (simp; done) | (simp [*]; done)), H', ⟨Nat.le_refl _⟩, by repeat (first | exact Drawn0.refl _ | apply Drawn0.step)⟩
  case round =>
    clear H'
    obtain ⟨x3_1, x4_1, rfl, rfl, HA, HK1, ⟨m1, rfl⟩⟩ := hrel
    cases gk with
    | zero => exact absurd HA.out (by simp [bastionlaw14_large.l0])
    | succ k1 =>
      have H := HA.out
      clear HA
      simp only [bastionlaw14_large.l0] at H
      have HC2 := Aside0.mk H
      clear H
      go_upto_region 3 with (fail)
      repeat (go_quiet (fail); go_upto_region 3 with (fail))
      go_cut [15] (fun v15 wc => ∃ (kq : Nat) (x15_1 : Bool), v15 = .bool x15_1 ∧ Aside0 (bastionlaw14_large.j1 kq l0 x3_1 x4_1 x15_1 = some r) ∧ Aside0 (kq ≤ k1) ∧ Drawn0 w wc)
      case first =>
        have H := HC2.out
        clear HC2
        by_cases c3 : x4_1 < (l0.length : Int)
        · rw [if_pos c3] at H
          have c3b0 : decide (x4_1 < (l0.length : Int)) = true := decide_eq_true c3
          clear c3
          (first | rw [c3b0] | (simp only [i64_w, i32_w]; rw [c3b0]) | skip)
          have H' := Aside0.mk H
          clear H
          go_wp2
          repeat (go_quiet (fail); try go_wp2)
          go_meet
          case rel => exact ⟨_, (decide (x4_1 < 100)), (by first | rfl | (simp; done) | (simp [*]; done)), H', ⟨by have := HK1.out; first | omega | exact Nat.le_refl _⟩, by repeat (first | exact Drawn0.refl _ | apply Drawn0.step)⟩
        · rw [if_neg c3] at H
          have c3b0 : decide (x4_1 < (l0.length : Int)) = false := decide_eq_false c3
          clear c3
          (first | rw [c3b0] | (simp only [i64_w, i32_w]; rw [c3b0]) | skip)
          have H' := Aside0.mk H
          clear H
          go_wp2
          repeat (go_quiet (fail); try go_wp2)
          go_meet
          case rel => exact ⟨_, (false), (by first | rfl | (simp; done) | (simp [*]; done)), H', ⟨by have := HK1.out; first | omega | exact Nat.le_refl _⟩, by repeat (first | exact Drawn0.refl _ | apply Drawn0.step)⟩
      case rest =>
        clear HC2
        try clear p2
        try clear c3
        try clear c3b0
        obtain ⟨kq, x15_1, rfl, HA, HJ1, ⟨mc1, rfl⟩⟩ := hcut
        cases kq with
        | zero => exact absurd HA.out (by simp [bastionlaw14_large.j1])
        | succ kj1 =>
          have H := HA.out
          clear HA
          simp only [bastionlaw14_large.j1] at H
          by_cases c4 : x15_1 = true
          · subst c4
            have H1 : (if 0 ≤ x4_1 then (if x4_1 < (l0.length : Int) then (bastionlaw14_large.l1 kj1 l0 (wrap64 ((wrap64 (x3_1 + (((rd_T42 l0 x4_1).f1).length : Int))) + (((rd_T42 l0 x4_1).f0).size : Int))) x4_1 0) else (none)) else (none)) = some r := by rw [if_pos rfl] at H; exact H
            clear H
            have H := H1
            clear H1
            by_cases c5 : 0 ≤ x4_1
            · rw [if_pos c5] at H
              have c5b0 : decide (0 ≤ x4_1) = true := decide_eq_true c5
              clear c5
              by_cases c6 : x4_1 < (l0.length : Int)
              · rw [if_pos c6] at H
                have c6b0 : decide (x4_1 < (l0.length : Int)) = true := decide_eq_true c6
                clear c6
                have H' := Aside0.mk H
                clear H
                have p101 : 0 ≤ (x4_1 : Int) := of_decide_eq_true (by first | (with_reducible assumption) | assumption)
                have q101 : x4_1 < (l0.length : Int) := of_decide_eq_true (by first | (with_reducible assumption) | assumption)
                obtain ⟨ad101, A101_1, c101_1, e101, hx101_0, hx101_1, hl101_1, hi101_1⟩ := at_T42 HR0.out x4_1 p101 q101
                cases e101
                have HR101_1 := Aside0.mk hi101_1
                have HC101_1 := Aside0.mk hl101_1
                clear hi101_1 hl101_1
                replace p101 := eq_true p101
                replace q101 := eq_true q101
                have p102 : 0 ≤ (x4_1 : Int) := of_decide_eq_true (by first | (with_reducible assumption) | assumption)
                have q102 : x4_1 < (l0.length : Int) := of_decide_eq_true (by first | (with_reducible assumption) | assumption)
                obtain ⟨ad102, A102_1, c102_1, e102, hx102_0, hx102_1, hl102_1, hi102_1⟩ := at_T42 HR0.out x4_1 p102 q102
                obtain rfl : ad101 = ad102 := (by injection e102)
                have HR102_1 := Aside0.mk hi102_1
                have HC102_1 := Aside0.mk hl102_1
                clear hi102_1 hl102_1
                replace p102 := eq_true p102
                replace q102 := eq_true q102
                have ea_ := Option.some.inj (hx101_1.symm.trans hx102_1)
                injection ea_ with ea_ en_ ec_
                subst ea_
                subst ec_
                clear en_
                go_wp2
                repeat (go_quiet (fail); try go_wp2)
                go_loopg [3, 5] kj1 (fun kq v3 v5 w' => ∃ (x3_3 : Int) (x5_3 : Int), v3 = .int .i64 x3_3 ∧ v5 = .int .i64 x5_3 ∧ Aside0 (bastionlaw14_large.l1 kq l0 x3_3 x4_1 x5_3 = some r) ∧ Aside0 (kq ≤ kj1) ∧ Drawn0 w w')
                case atStart => exact ⟨(wrap64 ((wrap64 (x3_1 + (((rd_T42 l0 x4_1).f1).length : Int))) + (((rd_T42 l0 x4_1).f0).size : Int))), (0), (by first | rfl | (simp; done) | (simp [*]; done)), (by first | rfl | (simp; done) | (simp [*]; done)), H', ⟨Nat.le_refl _⟩, by repeat (first | exact Drawn0.refl _ | apply Drawn0.step)⟩
                case round =>
                  clear H'
                  try clear c1
                  try clear p1
                  try clear q1
                  try clear hx1
                  try clear p2
                  try clear c3
                  try clear c3b0
                  try clear c4
                  try clear c5
                  try clear c5b0
                  try clear c6
                  try clear c6b0
                  try clear p6
                  try clear hx101_0
                  try clear hx101_1
                  try clear hx102_0
                  try clear hx102_1
                  try clear p101
                  try clear p102
                  try clear p2
                  try clear q101
                  try clear q102
                  obtain ⟨x3_3, x5_3, rfl, rfl, HA, HK3, ⟨m3, rfl⟩⟩ := hrel
                  cases gk with
                  | zero => exact absurd HA.out (by simp [bastionlaw14_large.l1])
                  | succ k3 =>
                    have H := HA.out
                    clear HA
                    simp only [bastionlaw14_large.l1] at H
                    by_cases c7 : 0 ≤ x4_1
                    · rw [if_pos c7] at H
                      have c7b0 : decide (0 ≤ x4_1) = true := decide_eq_true c7
                      clear c7
                      by_cases c8 : x4_1 < (l0.length : Int)
                      · rw [if_pos c8] at H
                        have c8b0 : decide (x4_1 < (l0.length : Int)) = true := decide_eq_true c8
                        clear c8
                        by_cases c9 : x5_3 < (((rd_T42 l0 x4_1).f1).length : Int)
                        · rw [if_pos c9] at H
                          have c9b0 : decide (x5_3 < (((rd_T42 l0 x4_1).f1).length : Int)) = true := decide_eq_true c9
                          clear c9
                          by_cases c10 : x5_3 < 100
                          · rw [if_pos c10] at H
                            have c10b0 : decide (x5_3 < 100) = true := decide_eq_true c10
                            clear c10
                            by_cases c11 : 0 ≤ x5_3
                            · rw [if_pos c11] at H
                              have c11b0 : decide (0 ≤ x5_3) = true := decide_eq_true c11
                              clear c11
                              have H' := Aside0.mk H
                              clear H
                              have p103 : 0 ≤ (x4_1 : Int) := of_decide_eq_true (by first | (with_reducible assumption) | assumption)
                              have q103 : x4_1 < (l0.length : Int) := of_decide_eq_true (by first | (with_reducible assumption) | assumption)
                              obtain ⟨ad103, A103_1, c103_1, e103, hx103_0, hx103_1, hl103_1, hi103_1⟩ := at_T42 HR0.out x4_1 p103 q103
                              obtain rfl : ad101 = ad103 := (by injection e103)
                              have HR103_1 := Aside0.mk hi103_1
                              have HC103_1 := Aside0.mk hl103_1
                              clear hi103_1 hl103_1
                              replace p103 := eq_true p103
                              replace q103 := eq_true q103
                              have p104 : 0 ≤ (x4_1 : Int) := of_decide_eq_true (by first | (with_reducible assumption) | assumption)
                              have q104 : x4_1 < (l0.length : Int) := of_decide_eq_true (by first | (with_reducible assumption) | assumption)
                              obtain ⟨ad104, A104_1, c104_1, e104, hx104_0, hx104_1, hl104_1, hi104_1⟩ := at_T42 HR0.out x4_1 p104 q104
                              obtain rfl : ad101 = ad104 := (by injection e104)
                              have HR104_1 := Aside0.mk hi104_1
                              have HC104_1 := Aside0.mk hl104_1
                              clear hi104_1 hl104_1
                              replace p104 := eq_true p104
                              replace q104 := eq_true q104
                              have ea_ := Option.some.inj (hx103_1.symm.trans hx104_1)
                              injection ea_ with ea_ en_ ec_
                              subst ea_
                              subst ec_
                              clear en_
                              have p105 : 0 ≤ (x5_3 : Int) := of_decide_eq_true (by first | (with_reducible assumption) | assumption)
                              have q105 : x5_3 < (((rd_T42 l0 x4_1).f1).length : Int) := of_decide_eq_true (by first | (with_reducible assumption) | assumption)
                              obtain ⟨ad105, e105, hx105_0⟩ := Kd.at_string HR104_1.out x5_3 p105 q105
                              cases e105
                              replace p105 := eq_true p105
                              replace q105 := eq_true q105
                              go_wp2
                              repeat (go_quiet (fail); try go_wp2)
                              go_roundg k3
                              case measure => have := HK1.out; have := HJ1.out; have := HK3.out; omega
                              case rel => exact ⟨(wrap64 (x3_3 + ((rdOf ByteArray.empty ((rd_T42 l0 x4_1).f1) x5_3).size : Int))), (wrap64 (x5_3 + 1)), (by first | rfl | (simp; done) | (simp [*]; done)), (by first | rfl | (simp; done) | (simp [*]; done)), H', ⟨by have := HK1.out; have := HJ1.out; have := HK3.out; omega⟩, by repeat (first | exact Drawn0.refl _ | apply Drawn0.step)⟩
                            · rw [if_neg c11] at H
                              exact absurd H (by simp)
                          · rw [if_neg c10] at H
                            have c10b0 : decide (x5_3 < 100) = false := decide_eq_false c10
                            clear c10
                            have H' := Aside0.mk H
                            clear H
                            have p103 : 0 ≤ (x4_1 : Int) := of_decide_eq_true (by first | (with_reducible assumption) | assumption)
                            have q103 : x4_1 < (l0.length : Int) := of_decide_eq_true (by first | (with_reducible assumption) | assumption)
                            obtain ⟨ad103, A103_1, c103_1, e103, hx103_0, hx103_1, hl103_1, hi103_1⟩ := at_T42 HR0.out x4_1 p103 q103
                            obtain rfl : ad101 = ad103 := (by injection e103)
                            have HR103_1 := Aside0.mk hi103_1
                            have HC103_1 := Aside0.mk hl103_1
                            clear hi103_1 hl103_1
                            replace p103 := eq_true p103
                            replace q103 := eq_true q103
                            go_wp2
                            repeat (go_quiet (fail); try go_wp2)
                            go_roundg k3
                            case measure => have := HK1.out; have := HJ1.out; have := HK3.out; omega
                            case rel => exact ⟨(x3_3), (wrap64 (x4_1 + 1)), (by first | rfl | (simp; done) | (simp [*]; done)), (by first | rfl | (simp; done) | (simp [*]; done)), H', ⟨by have := HK1.out; have := HJ1.out; have := HK3.out; omega⟩, by repeat (first | exact Drawn0.refl _ | apply Drawn0.step)⟩
                        · rw [if_neg c9] at H
                          have c9b0 : decide (x5_3 < (((rd_T42 l0 x4_1).f1).length : Int)) = false := decide_eq_false c9
                          clear c9
                          have H' := Aside0.mk H
                          clear H
                          have p103 : 0 ≤ (x4_1 : Int) := of_decide_eq_true (by first | (with_reducible assumption) | assumption)
                          have q103 : x4_1 < (l0.length : Int) := of_decide_eq_true (by first | (with_reducible assumption) | assumption)
                          obtain ⟨ad103, A103_1, c103_1, e103, hx103_0, hx103_1, hl103_1, hi103_1⟩ := at_T42 HR0.out x4_1 p103 q103
                          obtain rfl : ad101 = ad103 := (by injection e103)
                          have HR103_1 := Aside0.mk hi103_1
                          have HC103_1 := Aside0.mk hl103_1
                          clear hi103_1 hl103_1
                          replace p103 := eq_true p103
                          replace q103 := eq_true q103
                          go_wp2
                          repeat (go_quiet (fail); try go_wp2)
                          go_roundg k3
                          case measure => have := HK1.out; have := HJ1.out; have := HK3.out; omega
                          case rel => exact ⟨(x3_3), (wrap64 (x4_1 + 1)), (by first | rfl | (simp; done) | (simp [*]; done)), (by first | rfl | (simp; done) | (simp [*]; done)), H', ⟨by have := HK1.out; have := HJ1.out; have := HK3.out; omega⟩, by repeat (first | exact Drawn0.refl _ | apply Drawn0.step)⟩
                      · rw [if_neg c8] at H
                        exact absurd H (by simp)
                    · rw [if_neg c7] at H
                      exact absurd H (by simp)
              · rw [if_neg c6] at H
                exact absurd H (by simp)
            · rw [if_neg c5] at H
              exact absurd H (by simp)
          · replace c4 := Bool.eq_false_iff.mpr c4
            subst c4
            have H1 : (some (decide (x3_1 > 3000))) = some r := by rw [if_neg (show ¬ (false = true) by decide)] at H; exact H
            clear H
            have H := H1
            clear H1
            obtain rfl := Option.some.inj H
            go_wp2
            repeat (go_quiet (fail); try go_wp2)
            go_ret
            exact ⟨by first | rfl | (simp; done) | (simp [*]; done), by repeat (first | exact Drawn0.refl _ | apply Drawn0.step)⟩

/-! ### bastionlaw14_long: function 9 -/
def bastionlaw14_long.l0 : Nat → List ByteArray → Int → Int → Option (Bool)
  | 0, _, _, _ => none
  | k + 1, x0, x3, x4 => if x4 < (x0.length : Int) then (if x4 < 1000 then (if 0 ≤ x4 then (bastionlaw14_long.l0 k x0 (wrap64 (x3 + ((rdOf ByteArray.empty x0 x4).size : Int))) (wrap64 (x4 + 1))) else (none)) else (some (decide (x3 > 3000)))) else (some (decide (x3 > 3000)))
def bastionlaw14_long.f (k : Nat) (l0 : List ByteArray) : Option (Bool) := bastionlaw14_long.l0 k l0 (l0.length : Int) 0
theorem bastionlaw14_long.mono_l : ∀ k, (∀ y0 y1 y2, LeO (bastionlaw14_long.l0 k y0 y1 y2) (bastionlaw14_long.l0 (k + 1) y0 y1 y2))
  | 0 => fun _ _ _ r h => by simp [bastionlaw14_long.l0] at h
  | k + 1 => by
    have ih0 := bastionlaw14_long.mono_l k
    · intro y0 y1 y2
      unfold bastionlaw14_long.l0
      repeat' first
      | (with_reducible exact ih0 _ _ _)
      | (with_reducible exact LeO.refl _)
      | (with_reducible exact LeO.none _)
      | (with_reducible refine LeO.ite ?_ ?_)
      | (with_reducible refine LeO.bind ?_ (fun _ => ?_))
      | exact ih0 _ _ _
      | exact LeO.none _
      | refine LeO.ite ?_ ?_
      | refine LeO.bind ?_ (fun _ => ?_)
theorem bastionlaw14_long.mono : ∀ a0 k, LeO (bastionlaw14_long.f k a0) (bastionlaw14_long.f (k + 1) a0) := by
  intro a0 k
  have ih0 := bastionlaw14_long.mono_l k
  unfold bastionlaw14_long.f
  repeat' first
      | (with_reducible exact ih0 _ _ _)
      | (with_reducible exact LeO.refl _)
      | (with_reducible exact LeO.none _)
      | (with_reducible refine LeO.ite ?_ ?_)
      | (with_reducible refine LeO.bind ?_ (fun _ => ?_))
      | exact ih0 _ _ _
      | exact LeO.none _
      | refine LeO.ite ?_ ?_
      | refine LeO.bind ?_ (fun _ => ?_)
set_option maxHeartbeats 8000000 in
set_option maxRecDepth 100000 in
theorem bastionlaw14_long.calls (k : Nat) (A0 : Option Addr) (c0 : Nat) (l0 : List ByteArray) (r : Bool) (w : World) (hr0 : Kd.C Kd.string w A0 l0.length l0) (hc0 : l0.length ≤ c0) (h : bastionlaw14_long.f k l0 = some r) :
    Calls Tryd.prog 9 #[.slice A0 l0.length c0] w fun e w' => e = .returned (.bool r) ∧ Drawn0 w w' := by
  have HR0 := Aside0.mk hr0
  have HC0 := Aside0.mk hc0
  clear hr0 hc0
  have H : (bastionlaw14_long.l0 k l0 (l0.length : Int) 0) = some r := h
  clear h
  have H' := Aside0.mk H
  clear H
  go_enter Tryd.func9, Tryd.ntmps9
  go_wp2
  go_loopg [3, 4] k (fun kq v3 v4 w' => ∃ (x3_1 : Int) (x4_1 : Int), v3 = .int .i64 x3_1 ∧ v4 = .int .i64 x4_1 ∧ Aside0 (bastionlaw14_long.l0 kq l0 x3_1 x4_1 = some r) ∧ Aside0 (kq ≤ k) ∧ Drawn0 w w')
  case atStart => exact ⟨((l0.length : Int)), (0), (by first | rfl | (simp; done) | (simp [*]; done)), (by first | rfl | (simp; done) | (simp [*]; done)), H', ⟨Nat.le_refl _⟩, by repeat (first | exact Drawn0.refl _ | apply Drawn0.step)⟩
  case round =>
    clear H'
    obtain ⟨x3_1, x4_1, rfl, rfl, HA, HK1, ⟨m1, rfl⟩⟩ := hrel
    cases gk with
    | zero => exact absurd HA.out (by simp [bastionlaw14_long.l0])
    | succ k1 =>
      have H := HA.out
      clear HA
      simp only [bastionlaw14_long.l0] at H
      by_cases c2 : x4_1 < (l0.length : Int)
      · rw [if_pos c2] at H
        have c2b0 : decide (x4_1 < (l0.length : Int)) = true := decide_eq_true c2
        clear c2
        by_cases c3 : x4_1 < 1000
        · rw [if_pos c3] at H
          have c3b0 : decide (x4_1 < 1000) = true := decide_eq_true c3
          clear c3
          by_cases c4 : 0 ≤ x4_1
          · rw [if_pos c4] at H
            have c4b0 : decide (0 ≤ x4_1) = true := decide_eq_true c4
            clear c4
            have H' := Aside0.mk H
            clear H
            have p106 : 0 ≤ (x4_1 : Int) := of_decide_eq_true (by first | (with_reducible assumption) | assumption)
            have q106 : x4_1 < (l0.length : Int) := of_decide_eq_true (by first | (with_reducible assumption) | assumption)
            obtain ⟨ad106, e106, hx106_0⟩ := Kd.at_string HR0.out x4_1 p106 q106
            cases e106
            replace p106 := eq_true p106
            replace q106 := eq_true q106
            go_wp2
            go_roundg k1
            case measure => have := HK1.out; omega
            case rel => exact ⟨(wrap64 (x3_1 + ((rdOf ByteArray.empty l0 x4_1).size : Int))), (wrap64 (x4_1 + 1)), (by first | rfl | (simp; done) | (simp [*]; done)), (by first | rfl | (simp; done) | (simp [*]; done)), H', ⟨by have := HK1.out; omega⟩, by repeat (first | exact Drawn0.refl _ | apply Drawn0.step)⟩
          · rw [if_neg c4] at H
            exact absurd H (by simp)
        · rw [if_neg c3] at H
          have c3b0 : decide (x4_1 < 1000) = false := decide_eq_false c3
          clear c3
          obtain rfl := Option.some.inj H
          go_wp2
          go_ret
          exact ⟨by first | rfl | (simp; done) | (simp [*]; done), by repeat (first | exact Drawn0.refl _ | apply Drawn0.step)⟩
      · rw [if_neg c2] at H
        have c2b0 : decide (x4_1 < (l0.length : Int)) = false := decide_eq_false c2
        clear c2
        obtain rfl := Option.some.inj H
        go_wp2
        go_ret
        exact ⟨by first | rfl | (simp; done) | (simp [*]; done), by repeat (first | exact Drawn0.refl _ | apply Drawn0.step)⟩

theorem bytes_drop (s : ByteArray) (i : Nat) (h : i < s.size) : (bytesOf s).drop i = (s[i].toNat : Int) :: (bytesOf s).drop (i + 1) := by
  have hl : i < (bytesOf s).length := by rw [bytesOf_length]; exact h
  rw [List.drop_eq_getElem_cons hl]
  congr 1
  simp [bytesOf]
  rfl
theorem bytes_end (s : ByteArray) (i : Nat) (h : s.size ≤ i) : (bytesOf s).drop i = [] := List.drop_eq_nil_of_le (by rw [bytesOf_length]; exact h)
theorem strOfNums_bytesOf (s : ByteArray) : strOfNums (bytesOf s) = s := by
  unfold strOfNums bytesOf
  rw [List.map_map]
  have : (fun n : Int => UInt8.ofNat n.toNat) ∘ (fun b : UInt8 => (b.toNat : Int)) = id := by
    funext b; simp
  rw [this, List.map_id]
theorem u8_lo (b : UInt8) : 0 ≤ (b.toNat : Int) := by omega
theorem u8_hi (b : UInt8) : (b.toNat : Int) ≤ 255 := by have := b.toNat_lt; omega
theorem strOfNums_drop (s : ByteArray) (i : Nat) : strOfNums ((bytesOf s).drop i) = s.extract i s.size := by
  have h : s.extract i s.size = strOfNums (bytesOf (s.extract i s.size)) := (strOfNums_bytesOf _).symm
  rw [h]
  congr 1
  simp only [bytesOf, ByteArray.data_extract, Array.toList_extract, List.extract_eq_take_drop, List.map_drop, List.map_take]
  rw [List.take_of_length_le (by rw [List.length_drop, List.length_map, data_length]; exact Nat.le_refl _)]

def unU8 (l : List UInt8) : List Int := l.map fun b => (b.toNat : Int)
theorem unU8_append (a b : List UInt8) : unU8 (a ++ b) = unU8 a ++ unU8 b := List.map_append
theorem unU8_length (a : List UInt8) : (unU8 a).length = a.length := List.length_map _
theorem strOfNums_un (l : List UInt8) : strOfNums (unU8 l) = ⟨l.toArray⟩ := by
  unfold strOfNums unU8
  rw [List.map_map]
  have : (fun n : Int => UInt8.ofNat n.toNat) ∘ (fun b : UInt8 => (b.toNat : Int)) = id := by
    funext b; simp
  rw [this, List.map_id]
theorem bytesOf_un (s : ByteArray) : bytesOf s = unU8 s.data.toList := rfl
theorem bytesOf_tail (s : ByteArray) (i : Nat) : bytesOf (s.extract i s.size) = (bytesOf s).drop i := by
  simp only [bytesOf, ByteArray.data_extract, Array.toList_extract, List.extract_eq_take_drop, List.map_drop, List.map_take]
  rw [List.take_of_length_le (by rw [List.length_drop, List.length_map, data_length]; exact Nat.le_refl _)]
theorem bytesOf_cons {s : ByteArray} (h : 0 < s.size) : bytesOf s = (s[0].toNat : Int) :: (bytesOf s).drop 1 := by
  have := bytes_drop s 0 h
  rw [List.drop_zero] at this
  exact this
theorem bytesOf_empty {s : ByteArray} (h : s.size = 0) : bytesOf s = [] := List.eq_nil_of_length_eq_zero (by rw [bytesOf_length]; exact h)
theorem toList_empty {s : ByteArray} (h : s.size = 0) : s.toList.isEmpty = true := by
  rw [Lib.toList_data, List.isEmpty_iff]
  exact List.eq_nil_of_length_eq_zero (by rw [data_length]; exact h)
theorem toList_nonempty {s : ByteArray} (h : 0 < s.size) : (!s.toList.isEmpty) = true := by
  rw [Lib.toList_data]
  cases hd : s.data.toList with
  | nil => have := data_length s; rw [hd] at this; simp at this; omega
  | cons x r => rfl
theorem toList_nonempty' {s : ByteArray} (h : 0 < s.size) : s.toList.isEmpty = false := by
  have := toList_nonempty h
  simpa using this
theorem one_byte {s : ByteArray} (h : s.size = 1) : ∃ c : UInt8, s = ⟨#[c]⟩ := by
  refine ⟨s[0]'(by omega), ?_⟩
  apply ByteArray.ext
  apply Array.ext
  · exact h
  · intro i hi hi'
    have : i = 0 := by simp at hi'; omega
    subst this
    rfl
theorem bytes_take (s : ByteArray) (i : Nat) (h : i < s.size) : (bytesOf s).take (i + 1) = (bytesOf s).take i ++ [(s[i].toNat : Int)] := by
  have hl : i < (bytesOf s).length := by rw [bytesOf_length]; exact h
  rw [List.take_succ_eq_append_getElem hl]
  congr 2
  simp [bytesOf]
  rfl

theorem plainElem_val {P : Program} {e : TypeId} {v : Value} {d : DataW Unit} {ps : List MemPlace} (h : plainElem P e v = some (d, ps)) : ∃ l : Lit, d = .lit l ∧ v = l.value ∧ ps = [] := by
  unfold plainElem at h
  split at h
  · cases h; exact ⟨_, rfl, rfl, rfl⟩
  · split at h
    · rename_i hq
      cases h; exact ⟨_, rfl, by rw [hq.1]; rfl, rfl⟩
    · cases h
  · split at h
    · cases h; exact ⟨_, rfl, by simp [Lit.value], rfl⟩
    · cases h
  · cases h

/-- Block b is a map of at most n entries; what stands at each key. -/
def MapIs {κ : Type} (kl : κ → Lit) (w : World) (P : Program) (K E : TypeId) (b n : Nat) (F : κ → Option Lit) : Prop :=
  ∃ D : DataW Unit, Maps.IsMap D ∧ w.ownsMap P K (plainElem P E) b n D ∧ ∀ k, (∀ x, F k = some x → Maps.has D (kl k) = true ∧ ∀ z, D.atKey (kl k) z = .lit x) ∧ (F k = none → Maps.has D (kl k) = false)

section
variable {κ : Type} {kl : κ → Lit} {w w' : World} {P : Program} {K E : TypeId} {b n : Nat} {F : κ → Option Lit}
theorem MapIs.made (w : World) (P : Program) (K E : TypeId) : MapIs kl (w.alloc (.map #[] 0)) P K E w.heap.size 0 (fun _ => none) :=
  ⟨.map [], Maps.isMap_empty, World.ownsMap_made w P K _, fun k => ⟨(fun x h => by cases h), fun _ => rfl⟩⟩
theorem MapIs.kept {row : Option Nat} (h : MapIs kl w P K E b n F) (hg : w.grownBy w' row) (hne : some b ≠ row) : MapIs kl w' P K E b n F := by
  obtain ⟨D, h1, h2, h3⟩ := h
  exact ⟨D, h1, h2.kept hg hne, h3⟩
theorem MapIs.lt (h : MapIs kl w P K E b n F) : b < w.heap.size := by
  obtain ⟨D, h1, h2, h3⟩ := h
  exact h2.lt
theorem MapIs.alloc (h : MapIs kl w P K E b n F) (o : Obj) : MapIs kl (w.alloc o) P K E b n F := by
  obtain ⟨D, h1, h2, h3⟩ := h
  exact ⟨D, h1, h2.alloc o, h3⟩
theorem MapIs.drew (h : MapIs kl w P K E b n F) : MapIs kl w.drew P K E b n F := h
theorem MapIs.drewN (h : MapIs kl w P K E b n F) (m : Nat) : MapIs kl (w.drewN m) P K E b n F := h
theorem MapIs.mono {n' : Nat} (h : MapIs kl w P K E b n F) (hn : n ≤ n') : MapIs kl w P K E b n' F := by
  obtain ⟨D, h1, h2, h3⟩ := h
  exact ⟨D, h1, h2.mono hn, h3⟩
theorem MapIs.same (h : MapIs kl w P K E b n F) (hb : w'.heap[b]? = w.heap[b]?) : MapIs kl w' P K E b n F := by
  obtain ⟨D, h1, ⟨es, clock, e1, e2⟩, h3⟩ := h
  exact ⟨D, h1, ⟨es, clock, hb.trans e1, e2⟩, h3⟩
theorem MapIs.put [DecidableEq κ] {t : TypeId} (h : MapIs kl w P K E b n F) (hk : ∀ a, WideAt.IsKeyLit (kl a)) (hinj : ∀ a c, kl a = kl c → a = c) (hK : Go.Maps.Keyed P K) (ht : P.underlying t = some (.map K E)) (hn : n < maxLen) {key val : Value} (k : κ) (x : Lit)
    (hkey : keyOf P K key = some (kl k)) (hv : plainElem (H := Unit) P E val = some (.lit x, [])) :
    ∃ w', (Instr.mapUpdate t (.map (some b)) key val).run P w = .ok () w' ∧ MapIs kl w' P K E b (n + 1) (fun k' => if k' = k then some x else F k') ∧ w.grownBy w' (some b) := by
  obtain ⟨D, h1, h2, h3⟩ := h
  obtain ⟨w', e1, e2, e3⟩ := h2.update hK ht hn hkey hv
  refine ⟨w', e1, ⟨_, h1.put _ _, e2, fun k' => ?_⟩, e3⟩
  by_cases hkk : k' = k
  · subst hkk
    simp only [if_true]
    refine ⟨fun y hy => ?_, fun hy => by cases hy⟩
    cases hy
    exact ⟨Maps.has_put_same h1 (hk _) _, fun z => Maps.atKey_put_same h1 (hk _) _ _⟩
  · have hne : kl k' ≠ kl k := fun e => hkk (hinj _ _ e)
    simp only [if_neg hkk]
    refine ⟨fun y hy => ?_, fun hy => ?_⟩
    · rw [Maps.has_put_other hne]
      exact ⟨((h3 k').1 y hy).1, fun z => by rw [Maps.atKey_put_other hne]; exact ((h3 k').1 y hy).2 z⟩
    · rw [Maps.has_put_other hne]
      exact (h3 k').2 hy
end
section
variable {κ : Type} {kl : κ → Lit} (w : World) {P : Program} {K E : TypeId} {b n : Nat} {F : κ → Option Lit} {ops : Array Oper} {rest : List Oper} {o : Oper} {a : Act} {Q : Exit → Act → World → Prop}
theorem wpList_look_ok (hg : o.guard = none) (m x : Operand) (t : TypeId) (hop : o.op = Op.lookup t m x true) (hK : Go.Maps.Keyed P K) (ht : P.underlying t = some (.map K E))
    (zl : Lit) (hz : (zeroValue E).run P w = .ok zl.value w) (hzd : plainElem (H := Unit) P E zl.value = some (.lit zl, []))
    (hm : a.eval m = .map (some b)) (h : MapIs kl w P K E b n F) (key : Value) (k : κ) (hx : a.eval x = key) (hkey : keyOf P K key = some (kl k))
    (hKK : wpList P ops Q rest (a.put o.dst (.tuple #[((F k).getD zl).value, .bool (F k).isSome])) w) :
    wpList P ops Q (o :: rest) a w := by
  obtain ⟨D, h1, h2, h3⟩ := h
  refine wpList_lookup_own_ok w hg m x t hop K E hK ht (plainElem P E) hz (.lit zl) [] hzd b n D hm h2 key (kl k) hx hkey (fun v ps hv => ?_)
  obtain ⟨l, e1, rfl, _⟩ := plainElem_val hv
  cases hF : F k with
  | none =>
    have h4 := (h3 k).2 hF
    rw [Maps.atKey_of_not_has h4] at e1
    cases e1
    rw [h4]
    rw [hF] at hKK
    exact hKK
  | some y =>
    obtain ⟨h4, h5⟩ := (h3 k).1 y hF
    rw [h5] at e1
    cases e1
    rw [h4]
    rw [hF] at hKK
    exact hKK
theorem wpList_look (hg : o.guard = none) (m x : Operand) (t : TypeId) (hop : o.op = Op.lookup t m x false) (hK : Go.Maps.Keyed P K) (ht : P.underlying t = some (.map K E))
    (zl : Lit) (hz : (zeroValue E).run P w = .ok zl.value w) (hzd : plainElem (H := Unit) P E zl.value = some (.lit zl, []))
    (hm : a.eval m = .map (some b)) (h : MapIs kl w P K E b n F) (key : Value) (k : κ) (hx : a.eval x = key) (hkey : keyOf P K key = some (kl k))
    (hKK : wpList P ops Q rest (a.put o.dst ((F k).getD zl).value) w) :
    wpList P ops Q (o :: rest) a w := by
  obtain ⟨D, h1, h2, h3⟩ := h
  refine wpList_plain hg fun K' hK' => ?_
  obtain ⟨v, ps, hrun, hv⟩ := h2.lookup hK ht hz hzd hkey
  obtain ⟨l, e1, rfl, _⟩ := plainElem_val hv
  unfold Oper.wp
  simp only [execOp, hop, hm, hx, hrun, Result.andThen, Sem.run_bind, Sem.run_pure]
  refine hK' _ _ ?_
  cases hF : F k with
  | none =>
    have h4 := (h3 k).2 hF
    rw [Maps.atKey_of_not_has h4] at e1
    cases e1
    rw [hF] at hKK
    exact hKK
  | some y =>
    obtain ⟨h4, h5⟩ := (h3 k).1 y hF
    rw [h5] at e1
    cases e1
    rw [hF] at hKK
    exact hKK
theorem wpList_lookv (hg : o.guard = none) (m x : Operand) (t : TypeId) (hop : o.op = Op.lookup t m x false) (hK : Go.Maps.Keyed P K) (ht : P.underlying t = some (.map K E))
    (zl : Lit) (hz : (zeroValue E).run P w = .ok zl.value w) (hzd : plainElem (H := Unit) P E zl.value = some (.lit zl, []))
    (hm : a.eval m = .map (some b)) (h : MapIs kl w P K E b n F) (key : Value) (k : κ) (hx : a.eval x = key) (hkey : keyOf P K key = some (kl k)) (v : Value) (hv : ((F k).getD zl).value = v)
    (hKK : wpList P ops Q rest (a.put o.dst v) w) :
    wpList P ops Q (o :: rest) a w := by subst hv; exact wpList_look w hg m x t hop hK ht zl hz hzd hm h key k hx hkey hKK
theorem wpList_mput [DecidableEq κ] (hg : o.guard = none) (m x v : Operand) (t : TypeId) (hop : o.op = Op.mapUpdate t m x v) (hk : ∀ a, WideAt.IsKeyLit (kl a)) (hinj : ∀ a c, kl a = kl c → a = c) (hK : Go.Maps.Keyed P K) (ht : P.underlying t = some (.map K E))
    (hm : a.eval m = .map (some b)) (h : MapIs kl w P K E b n F) (hn : n < maxLen) (key val : Value) (k : κ) (xl : Lit) (hx : a.eval x = key) (hv : a.eval v = val) (hkey : keyOf P K key = some (kl k)) (hval : plainElem (H := Unit) P E val = some (.lit xl, []))
    (hKK : ∀ w', MapIs kl w' P K E b (n + 1) (fun k' => if k' = k then some xl else F k') → w.grownBy w' (some b) → wpList P ops Q rest (a.put o.dst undef) w') :
    wpList P ops Q (o :: rest) a w := by
  refine wpList_plain hg fun K' hK' => ?_
  obtain ⟨w', hrun, r1, r2⟩ := h.put hk hinj hK ht hn k xl hkey hval
  unfold Oper.wp
  simp [execOp, hop, hm, hx, hv, hrun, Result.andThen]
  exact hK' _ _ (hKK w' r1 r2)
end
def klU8 (c : Int) : Lit := .int .u8 c
def klStr (s : ByteArray) : Lit := .string s.data.toList
theorem klU8_inj : ∀ a c, klU8 a = klU8 c → a = c := fun a c h => by injection h
theorem klStr_inj : ∀ a c, klStr a = klStr c → a = c := fun a c h => by
  injection h with h
  exact ByteArray.ext (Array.ext' h)
theorem u8_plain {P : Program} {e : TypeId} (he : P.underlying e = some (.int .u8)) (c : Int) (h0 : 0 ≤ c) (h1 : c ≤ 255) : plainElem (H := Unit) P e (.int .u8 c) = some (.lit (.int .u8 c), []) :=
  plainElem_int he (by have e1 : IntKind.u8.min = 0 := rfl; have e2 : IntKind.u8.max = 255 := rfl; simp only [Lit.wf, Bool.and_eq_true, decide_eq_true_eq, e1, e2]; omega)
theorem u8_key {P : Program} {e : TypeId} (he : P.underlying e = some (.int .u8)) (c : Int) (h0 : 0 ≤ c) (h1 : c ≤ 255) : keyOf P e (.int .u8 c) = some (klU8 c) :=
  Maps.keyOf_int_mk he (by have e1 : IntKind.u8.min = 0 := rfl; have e2 : IntKind.u8.max = 255 := rfl; simp only [Lit.wf, Bool.and_eq_true, decide_eq_true_eq, e1, e2]; omega)

/-! ### matrix_check: function 22 -/
def chkL : List S49 → List (List UInt8) → Int → Int
  | [], _, n => if 24 < n then 3 else 0
  | x :: r, seen, n => if x.f0.data.toList ∈ seen then 6 else if x.f1.length = 0 then 1 else chkL r (x.f0.data.toList :: seen) (if n ≤ 24 then n * min (x.f1.length : Int) 25 else n)
theorem chkL_snoc (x : S49) (r : List S49) (seen : List (List UInt8)) (n : Int) (h : x.f0.data.toList ∉ seen) (h1 : x.f1.length ≠ 0) : chkL (x :: r) seen n = chkL r (x.f0.data.toList :: seen) (if n ≤ 24 then n * min (x.f1.length : Int) 25 else n) := by rw [chkL, if_neg h, if_neg h1]
def klL (l : List UInt8) : Lit := .string l
theorem klL_inj : ∀ a c, klL a = klL c → a = c := fun a c h => by injection h
theorem klL_key : ∀ a, WideAt.IsKeyLit (klL a) := fun a => trivial
def seenF (seen : List (List UInt8)) (s : List UInt8) : Option Lit := if s ∈ seen then some (.bool true) else none
theorem seenF_cons (seen : List (List UInt8)) (x : List UInt8) : (fun k => if k = x then some (.bool true) else seenF seen k) = seenF (x :: seen) := by
  funext k
  unfold seenF
  by_cases h : k = x
  · rw [if_pos h, if_pos (by rw [h]; exact List.mem_cons_self ..)]
  · rw [if_neg h]
    by_cases h2 : k ∈ seen
    · rw [if_pos h2, if_pos (List.mem_cons_of_mem _ h2)]
    · rw [if_neg h2, if_neg (by rw [List.mem_cons, not_or]; exact ⟨h, h2⟩)]
theorem drop_rd (l : List S49) (i : Nat) (h : i < l.length) : l.drop i = rd_T49 l i :: l.drop (i + 1) := by
  rw [List.drop_eq_getElem_cons h]
  congr 1
  unfold rd_T49
  rw [Int.toNat_natCast, List.getD_eq_getElem?_getD, List.getElem?_eq_getElem h, Option.getD_some]
theorem rd_mem (l : List S49) (i : Nat) (h : i < l.length) : rd_T49 l i ∈ l := by
  unfold rd_T49
  rw [Int.toNat_natCast, List.getD_eq_getElem?_getD, List.getElem?_eq_getElem h, Option.getD_some]
  exact List.getElem_mem h
theorem matrix_check.copy {w wr w1 : World} {x : S49} {A : Option Addr} {c : Nat} (hw : Below w.heap.size w wr) (hg : (wr.alloc (.cells #[.string x.f0, .slice A x.f1.length c] 49)).grownBy w1 (some w.heap.size)) (hlt : w.heap.size < wr.heap.size) :
    w1.cell? ⟨wr.heap.size, 1, none⟩ = some (.slice A x.f1.length c) :=
  (blk_cell (blk_grown (blk_new wr _) hg (by intro e; injection e with e; omega)) 1).trans rfl
theorem chk_mul (n : Int) (m : Nat) (h0 : 0 ≤ n) (h1 : n ≤ 24) (hm : m ≤ 25) : 0 ≤ n * (m : Int) ∧ n * (m : Int) ≤ 600 := by
  have a : n * (m : Int) ≤ 24 * 25 := Int.mul_le_mul h1 (by omega) (by omega) (by omega)
  exact ⟨Int.mul_nonneg h0 (by omega), a⟩
theorem chk_mulA (n : Int) (m : Nat) (h0 : 0 ≤ n) (h1 : n ≤ 24) (hm : 25 ≤ m) : wrap64 (n * 25) = n * min (m : Int) 25 := by
  rw [show min (m : Int) 25 = 25 by omega]
  unfold wrap64
  omega
theorem chk_mulB (n : Int) (m : Nat) (h0 : 0 ≤ n) (h1 : n ≤ 24) (hm : m ≤ 25) : wrap64 (n * (m : Int)) = n * min (m : Int) 25 := by
  rw [show min (m : Int) 25 = m by omega]
  have := chk_mul n m h0 h1 hm
  unfold wrap64
  omega
theorem chk_bound (n : Int) (m : Nat) (h0 : 0 ≤ n) (h1 : n ≤ 24) : 0 ≤ (if n ≤ 24 then n * min (m : Int) 25 else n) ∧ (if n ≤ 24 then n * min (m : Int) 25 else n) ≤ 600 := by
  rw [if_pos h1]
  by_cases h : m ≤ 25
  · rw [show min (m : Int) 25 = m by omega]; exact chk_mul n m h0 h1 h
  · rw [show min (m : Int) 25 = ((25 : Nat) : Int) by omega]; exact chk_mul n 25 h0 h1 (by omega)
def matrix_check.Post (w : World) (q : Int) (e : Ending) (w' : World) : Prop := e = .returned (.int .i64 q) ∧ Below w.heap.size w w'
set_option maxHeartbeats 4000000 in
set_option maxRecDepth 100000 in
theorem matrix_check.walk (A : Option Addr) (c : Nat) (l : List S49) (w : World) (hl : l.length ≤ 140737488355328) (hsz : ∀ x ∈ l, x.f0.size ≤ 9223372036854775807) (hr : Kd.C k49 w A l.length l) :
    Calls Tryd.prog 22 #[.slice A l.length c] w fun e w' => matrix_check.Post w (chkL l [] 1) e w' := by
  generalize hq : chkL l [] 1 = q
  have HQ := Aside0.mk hq
  have HR := Aside0.mk hr
  have HZ := Aside0.mk hsz
  have hmm := @run_makeMap Tryd.prog
  clear hq hr hsz
  go_enter Tryd.func22, Tryd.ntmps22
  go_wp2
  go_loopg [10, 3] l.length (fun m v10 v3 wr => ∃ (i : Nat) (n : Int) (seen : List (List UInt8)), v10 = .int .i64 i ∧ v3 = .int .i64 n ∧ Aside0 (0 ≤ n ∧ n ≤ 600) ∧ Aside0 (chkL (l.drop i) seen n = q) ∧ Aside0 (i + m = l.length) ∧ Aside0 (MapIs klL wr Tryd.prog 9 4 w.heap.size i (seenF seen)) ∧ Aside0 (Below w.heap.size w wr))
  case atStart => exact ⟨0, 1, [], rfl, rfl, ⟨by omega⟩, HQ, ⟨by omega⟩, ⟨by rw [show seenF [] = (fun _ => none) from rfl]; exact MapIs.made w _ _ _⟩, ⟨(Below.refl _ _).alloc (Nat.le_refl _) _⟩⟩
  case round =>
    clear HQ
    obtain ⟨i, n, seen, rfl, rfl, HN, HA, HM, HT, HW⟩ := hrel
    have hm := HM.out
    obtain ⟨hn0, hn1⟩ := HN.out
    by_cases hlt : i < l.length
    · obtain ⟨ad, A1, c1, rfl, hc0, hc1, hl1, hr1⟩ := at_T49 (Kd.C_below HR.out HW.out) i (by omega) (by omega)
      have hz := HZ.out _ (rd_mem l i hlt)
      rw [drop_rd l i hlt] at HA
      generalize rd_T49 l i = x at *
      have HC := Aside0.mk hr1
      clear hr1
      simp only [Int.toNat_natCast] at hc0 hc1
      have hkey : keyOf Tryd.prog 9 (.string x.f0) = some (klL x.f0.data.toList) := Go.WideMaps.keyOf_string_mk Tryd.underlying9 (by unfold maxLen; omega)
      have HKEY := Aside0.mk hkey
      clear hkey hz
      by_cases hs : x.f0.data.toList ∈ seen
      · have hv : ((seenF seen x.f0.data.toList).getD (.bool false)).value = .bool true := by unfold seenF; rw [if_pos hs]; rfl
        have h1 := HA.out
        rw [chkL, if_pos hs] at h1
        have H1 := Aside0.mk h1
        have HV := Aside0.mk hv
        clear h1 hv hs
        go_wp2_with (at_lookup; refine wpList_lookv _ rfl _ _ 59 rfl (Go.Maps.string_keyed Tryd.underlying9) Tryd.underlying59 (.bool false) (Tryd.zeroValue4 _) (plainElem_bool Tryd.underlying4 false) rfl (HT.out.alloc _) _ x.f0.data.toList rfl HKEY.out _ HV.out ?_)
        go_ret
        exact ⟨by rw [← H1.out]; rfl, (HW.out.alloc HW.out.size _)⟩
      have hv : ((seenF seen x.f0.data.toList).getD (.bool false)).value = .bool false := by unfold seenF; rw [if_neg hs]; rfl
      have HV := Aside0.mk hv
      clear hv
      by_cases h0 : x.f1.length = 0
      · have h1 := HA.out
        rw [chkL, if_neg hs, if_pos h0] at h1
        have H1 := Aside0.mk h1
        clear h1 hs
        go_wp2_with (at_lookup; refine wpList_lookv _ rfl _ _ 59 rfl (Go.Maps.string_keyed Tryd.underlying9) Tryd.underlying59 (.bool false) (Tryd.zeroValue4 _) (plainElem_bool Tryd.underlying4 false) rfl (HT.out.alloc _) _ x.f0.data.toList rfl HKEY.out _ HV.out ?_)
        go_ret
        exact ⟨by rw [← H1.out]; rfl, (HW.out.alloc HW.out.size _)⟩
      have h1 := HA.out
      rw [chkL_snoc _ _ _ _ hs h0] at h1
      have H1 := Aside0.mk h1
      clear h1 hs HA
      by_cases h24 : n ≤ 24
      · go_wp2_with (first
          | (at_lookup; refine wpList_lookv _ rfl _ _ 59 rfl (Go.Maps.string_keyed Tryd.underlying9) Tryd.underlying59 (.bool false) (Tryd.zeroValue4 _) (plainElem_bool Tryd.underlying4 false) rfl (HT.out.alloc _) _ x.f0.data.toList rfl HKEY.out _ HV.out ?_)
          | (at_mapUpdate; refine wpList_mput _ rfl _ _ _ 59 rfl klL_key klL_inj (Go.Maps.string_keyed Tryd.underlying9) Tryd.underlying59 rfl (HT.out.alloc _) (by unfold maxLen; omega) _ _ x.f0.data.toList (.bool true) rfl rfl HKEY.out (plainElem_bool Tryd.underlying4 true) ?_; intro w1 hT1 hg1; have hcx := matrix_check.copy HW.out hg1 HT.out.lt; have HT1 := Aside0.mk hT1; have HG1 := Aside0.mk hg1; clear hT1 hg1))
        all_goals
          go_roundg (gk - 1)
          case measure => omega
          case rel =>
            refine ⟨i + 1, _, x.f0.data.toList :: seen, rfl, ?_, ⟨chk_bound n x.f1.length hn0 h24⟩, H1, ⟨by omega⟩, ⟨by rw [← seenF_cons]; exact HT1.out⟩, ⟨(HW.out.alloc HW.out.size _).grown HG1.out (by have := HW.out.size; simp; omega) (fun k e => by cases e; exact Nat.le_refl _)⟩⟩
            rw [if_pos h24]; first | exact congrArg _ (chk_mulA n x.f1.length hn0 h24 (by omega)) | exact congrArg _ (chk_mulB n x.f1.length hn0 h24 (by omega))
      · have h24' : 24 < n := by omega
        go_wp2_with (first
          | (at_lookup; refine wpList_lookv _ rfl _ _ 59 rfl (Go.Maps.string_keyed Tryd.underlying9) Tryd.underlying59 (.bool false) (Tryd.zeroValue4 _) (plainElem_bool Tryd.underlying4 false) rfl (HT.out.alloc _) _ x.f0.data.toList rfl HKEY.out _ HV.out ?_)
          | (at_mapUpdate; refine wpList_mput _ rfl _ _ _ 59 rfl klL_key klL_inj (Go.Maps.string_keyed Tryd.underlying9) Tryd.underlying59 rfl (HT.out.alloc _) (by unfold maxLen; omega) _ _ x.f0.data.toList (.bool true) rfl rfl HKEY.out (plainElem_bool Tryd.underlying4 true) ?_; intro w1 hT1 hg1; have hcx := matrix_check.copy HW.out hg1 HT.out.lt; have HT1 := Aside0.mk hT1; have HG1 := Aside0.mk hg1; clear hT1 hg1))
        all_goals
          go_roundg (gk - 1)
          case measure => omega
          case rel =>
            refine ⟨i + 1, _, x.f0.data.toList :: seen, rfl, ?_, ⟨by rw [if_neg (by omega)]; omega⟩, H1, ⟨by omega⟩, ⟨by rw [← seenF_cons]; exact HT1.out⟩, ⟨(HW.out.alloc HW.out.size _).grown HG1.out (by have := HW.out.size; simp; omega) (fun k e => by cases e; exact Nat.le_refl _)⟩⟩
            rw [if_neg (by omega)]
    · have h1 := HA.out
      rw [List.drop_eq_nil_of_le (by omega), chkL] at h1
      by_cases h24 : 24 < n
      · rw [if_pos h24] at h1
        have H1 := Aside0.mk h1
        clear h1
        go_wp2
        go_ret
        exact ⟨by rw [← H1.out]; rfl, HW.out⟩
      · rw [if_neg h24] at h1
        have H1 := Aside0.mk h1
        clear h1
        go_wp2
        go_ret
        exact ⟨by rw [← H1.out]; rfl, HW.out⟩
def matrix_check.f (l0 : List S49) : Option Int := if l0.length ≤ 140737488355328 ∧ l0.all (fun x => decide (x.f0.size ≤ 9223372036854775807)) = true then some (chkL l0 [] 1) else none
theorem matrix_check.calls (A0 : Option Addr) (c0 : Nat) (l0 : List (S49)) (r : Int) (w : World) (hr0 : Kd.C k49 w A0 l0.length l0) (hc0 : l0.length ≤ c0) (h : matrix_check.f l0 = some r) :
    Calls Tryd.prog 22 #[.slice A0 l0.length c0] w fun e w' => e = .returned (.int .i64 r) ∧ Below w.heap.size w w' := by
  unfold matrix_check.f at h
  by_cases hc : l0.length ≤ 140737488355328 ∧ l0.all (fun x => decide (x.f0.size ≤ 9223372036854775807)) = true
  case neg => rw [if_neg hc] at h; cases h
  rw [if_pos hc] at h
  injection h with h
  subst h
  exact matrix_check.walk A0 c0 l0 w hc.1 (fun x hx => of_decide_eq_true (List.all_eq_true.1 hc.2 x hx)) hr0

end Go.Proofs.YtifgdhmbjlfnhaaDoor.M
