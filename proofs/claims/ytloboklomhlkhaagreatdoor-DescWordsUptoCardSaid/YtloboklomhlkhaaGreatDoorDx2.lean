-- Written by wip/xprint.py: the kit's print with functions proved by hand in their places. Not trusted: Lean checks it.
import Derived.Test.YtloboklomhlkhaaGreatDoorDx0
import Derived.Test.YtloboklomhlkhaaGreatDoorDx1
namespace Go.Proofs.YtloboklomhlkhaaGreatDoor.D
open Go.RowKit Go.Proofs.YtloboklomhlkhaaGreatDoorW.PrintWords Go.Proofs.YtloboklomhlkhaaGreatDoorW.PrintLast Go.Proofs.YtloboklomhlkhaaGreatDoorW.PrintMore
attribute [local go_sem] max2_int min2_int max_two min_two max_three min_three max_four min_four   -- for this text's walks alone
set_option linter.unusedVariables false
set_option linter.unusedSimpArgs false

/-! ### desc_Path: function 6 -/
mutual
def desc_Path.l0 : Nat → ByteArray → List ByteArray → Int → Int → Option (Bool)
  | 0, _, _, _, _ => none
  | k + 1, x0, x8, x9, x10 => if x10 < x9 then (if 0 ≤ x10 then (if x10 < (x8.length : Int) then (if (rdOf ByteArray.empty x8 x10).toList = ([] : List UInt8) then (desc_Path.j1 k x0 (rdOf ByteArray.empty x8 x10) x8 x9 x10 true) else (if (rdOf ByteArray.empty x8 x10).toList = ([46] : List UInt8) then (desc_Path.j1 k x0 (rdOf ByteArray.empty x8 x10) x8 x9 x10 true) else (desc_Path.j1 k x0 (rdOf ByteArray.empty x8 x10) x8 x9 x10 ((rdOf ByteArray.empty x8 x10).toList == ([46, 46] : List UInt8))))) else (none)) else (none)) else (some (decide ((x0.size : Int) ≤ 48)))
def desc_Path.j1 : Nat → ByteArray → ByteArray → List ByteArray → Int → Int → Bool → Option (Bool)
  | 0, _, _, _, _, _, _ => none
  | k + 1, x0, x4, x8, x9, x10, x23 => if x23 = true then (some false) else (desc_Path.l1 k x0 x4 x8 x9 x10 (x4.size : Int) 0)
def desc_Path.l1 : Nat → ByteArray → ByteArray → List ByteArray → Int → Int → Int → Int → Option (Bool)
  | 0, _, _, _, _, _, _, _ => none
  | k + 1, x0, x4, x8, x9, x10, x25, x26 => if x26 < x25 then (if 0 ≤ x26 then (if x26 < (x4.size : Int) then (if (bt x4 x26) ≥ 97 then (if (bt x4 x26) ≤ 122 then (desc_Path.l1 k x0 x4 x8 x9 x10 x25 (wrap64 (x26 + 1))) else (if (bt x4 x26) ≥ 65 then (if (bt x4 x26) ≤ 90 then (desc_Path.l1 k x0 x4 x8 x9 x10 x25 (wrap64 (x26 + 1))) else (if (bt x4 x26) ≥ 48 then (if (bt x4 x26) ≤ 57 then (desc_Path.l1 k x0 x4 x8 x9 x10 x25 (wrap64 (x26 + 1))) else (if (bt x4 x26) = 45 then (desc_Path.l1 k x0 x4 x8 x9 x10 x25 (wrap64 (x26 + 1))) else (if (bt x4 x26) = 95 then (desc_Path.l1 k x0 x4 x8 x9 x10 x25 (wrap64 (x26 + 1))) else (if ((bt x4 x26) = 46) then (desc_Path.l1 k x0 x4 x8 x9 x10 x25 (wrap64 (x26 + 1))) else (some false))))) else (if (bt x4 x26) = 45 then (desc_Path.l1 k x0 x4 x8 x9 x10 x25 (wrap64 (x26 + 1))) else (if (bt x4 x26) = 95 then (desc_Path.l1 k x0 x4 x8 x9 x10 x25 (wrap64 (x26 + 1))) else (if ((bt x4 x26) = 46) then (desc_Path.l1 k x0 x4 x8 x9 x10 x25 (wrap64 (x26 + 1))) else (some false)))))) else (if (bt x4 x26) ≥ 48 then (if (bt x4 x26) ≤ 57 then (desc_Path.l1 k x0 x4 x8 x9 x10 x25 (wrap64 (x26 + 1))) else (if (bt x4 x26) = 45 then (desc_Path.l1 k x0 x4 x8 x9 x10 x25 (wrap64 (x26 + 1))) else (if (bt x4 x26) = 95 then (desc_Path.l1 k x0 x4 x8 x9 x10 x25 (wrap64 (x26 + 1))) else (if ((bt x4 x26) = 46) then (desc_Path.l1 k x0 x4 x8 x9 x10 x25 (wrap64 (x26 + 1))) else (some false))))) else (if (bt x4 x26) = 45 then (desc_Path.l1 k x0 x4 x8 x9 x10 x25 (wrap64 (x26 + 1))) else (if (bt x4 x26) = 95 then (desc_Path.l1 k x0 x4 x8 x9 x10 x25 (wrap64 (x26 + 1))) else (if ((bt x4 x26) = 46) then (desc_Path.l1 k x0 x4 x8 x9 x10 x25 (wrap64 (x26 + 1))) else (some false))))))) else (if (bt x4 x26) ≥ 65 then (if (bt x4 x26) ≤ 90 then (desc_Path.l1 k x0 x4 x8 x9 x10 x25 (wrap64 (x26 + 1))) else (if (bt x4 x26) ≥ 48 then (if (bt x4 x26) ≤ 57 then (desc_Path.l1 k x0 x4 x8 x9 x10 x25 (wrap64 (x26 + 1))) else (if (bt x4 x26) = 45 then (desc_Path.l1 k x0 x4 x8 x9 x10 x25 (wrap64 (x26 + 1))) else (if (bt x4 x26) = 95 then (desc_Path.l1 k x0 x4 x8 x9 x10 x25 (wrap64 (x26 + 1))) else (if ((bt x4 x26) = 46) then (desc_Path.l1 k x0 x4 x8 x9 x10 x25 (wrap64 (x26 + 1))) else (some false))))) else (if (bt x4 x26) = 45 then (desc_Path.l1 k x0 x4 x8 x9 x10 x25 (wrap64 (x26 + 1))) else (if (bt x4 x26) = 95 then (desc_Path.l1 k x0 x4 x8 x9 x10 x25 (wrap64 (x26 + 1))) else (if ((bt x4 x26) = 46) then (desc_Path.l1 k x0 x4 x8 x9 x10 x25 (wrap64 (x26 + 1))) else (some false)))))) else (if (bt x4 x26) ≥ 48 then (if (bt x4 x26) ≤ 57 then (desc_Path.l1 k x0 x4 x8 x9 x10 x25 (wrap64 (x26 + 1))) else (if (bt x4 x26) = 45 then (desc_Path.l1 k x0 x4 x8 x9 x10 x25 (wrap64 (x26 + 1))) else (if (bt x4 x26) = 95 then (desc_Path.l1 k x0 x4 x8 x9 x10 x25 (wrap64 (x26 + 1))) else (if ((bt x4 x26) = 46) then (desc_Path.l1 k x0 x4 x8 x9 x10 x25 (wrap64 (x26 + 1))) else (some false))))) else (if (bt x4 x26) = 45 then (desc_Path.l1 k x0 x4 x8 x9 x10 x25 (wrap64 (x26 + 1))) else (if (bt x4 x26) = 95 then (desc_Path.l1 k x0 x4 x8 x9 x10 x25 (wrap64 (x26 + 1))) else (if ((bt x4 x26) = 46) then (desc_Path.l1 k x0 x4 x8 x9 x10 x25 (wrap64 (x26 + 1))) else (some false))))))) else (none)) else (none)) else (desc_Path.l0 k x0 x8 x9 (wrap64 (x10 + 1)))
end
def desc_Path.f (k : Nat) (a0 : ByteArray) : Option (Bool) := (strings_Split.f a0 (⟨#[47]⟩ : ByteArray)).bind fun t105 => (desc_Path.l0 k a0 t105 (t105.length : Int) 0)
theorem desc_Path.mono_l : ∀ k, (∀ y0 y1 y2 y3, LeO (desc_Path.l0 k y0 y1 y2 y3) (desc_Path.l0 (k + 1) y0 y1 y2 y3)) ∧ (∀ y0 y1 y2 y3 y4 y5, LeO (desc_Path.j1 k y0 y1 y2 y3 y4 y5) (desc_Path.j1 (k + 1) y0 y1 y2 y3 y4 y5)) ∧ (∀ y0 y1 y2 y3 y4 y5 y6, LeO (desc_Path.l1 k y0 y1 y2 y3 y4 y5 y6) (desc_Path.l1 (k + 1) y0 y1 y2 y3 y4 y5 y6))
  | 0 => ⟨fun _ _ _ _ r h => by simp [desc_Path.l0] at h, fun _ _ _ _ _ _ r h => by simp [desc_Path.j1] at h, fun _ _ _ _ _ _ _ r h => by simp [desc_Path.l1] at h⟩
  | k + 1 => by
    obtain ⟨ih0, ih1, ih2⟩ := desc_Path.mono_l k
    refine ⟨?_, ?_, ?_⟩
    · intro y0 y1 y2 y3
      unfold desc_Path.l0
      repeat' first
      | (with_reducible exact ih0 _ _ _ _)
      | (with_reducible exact ih1 _ _ _ _ _ _)
      | (with_reducible exact ih2 _ _ _ _ _ _ _)
      | (with_reducible exact LeO.refl _)
      | (with_reducible exact LeO.none _)
      | (with_reducible refine LeO.ite ?_ ?_)
      | (with_reducible refine LeO.bind ?_ (fun _ => ?_))
      | exact ih0 _ _ _ _
      | exact ih1 _ _ _ _ _ _
      | exact ih2 _ _ _ _ _ _ _
      | exact LeO.none _
      | refine LeO.ite ?_ ?_
      | refine LeO.bind ?_ (fun _ => ?_)
    · intro y0 y1 y2 y3 y4 y5
      unfold desc_Path.j1
      repeat' first
      | (with_reducible exact ih0 _ _ _ _)
      | (with_reducible exact ih1 _ _ _ _ _ _)
      | (with_reducible exact ih2 _ _ _ _ _ _ _)
      | (with_reducible exact LeO.refl _)
      | (with_reducible exact LeO.none _)
      | (with_reducible refine LeO.ite ?_ ?_)
      | (with_reducible refine LeO.bind ?_ (fun _ => ?_))
      | exact ih0 _ _ _ _
      | exact ih1 _ _ _ _ _ _
      | exact ih2 _ _ _ _ _ _ _
      | exact LeO.none _
      | refine LeO.ite ?_ ?_
      | refine LeO.bind ?_ (fun _ => ?_)
    · intro y0 y1 y2 y3 y4 y5 y6
      unfold desc_Path.l1
      repeat' first
      | (with_reducible exact ih0 _ _ _ _)
      | (with_reducible exact ih1 _ _ _ _ _ _)
      | (with_reducible exact ih2 _ _ _ _ _ _ _)
      | (with_reducible exact LeO.refl _)
      | (with_reducible exact LeO.none _)
      | (with_reducible refine LeO.ite ?_ ?_)
      | (with_reducible refine LeO.bind ?_ (fun _ => ?_))
      | exact ih0 _ _ _ _
      | exact ih1 _ _ _ _ _ _
      | exact ih2 _ _ _ _ _ _ _
      | exact LeO.none _
      | refine LeO.ite ?_ ?_
      | refine LeO.bind ?_ (fun _ => ?_)
theorem desc_Path.mono : ∀ a0 k, LeO (desc_Path.f k a0) (desc_Path.f (k + 1) a0) := by
  intro a0 k
  obtain ⟨ih0, ih1, ih2⟩ := desc_Path.mono_l k
  unfold desc_Path.f
  repeat' first
      | (with_reducible exact ih0 _ _ _ _)
      | (with_reducible exact ih1 _ _ _ _ _ _)
      | (with_reducible exact ih2 _ _ _ _ _ _ _)
      | (with_reducible exact LeO.refl _)
      | (with_reducible exact LeO.none _)
      | (with_reducible refine LeO.ite ?_ ?_)
      | (with_reducible refine LeO.bind ?_ (fun _ => ?_))
      | exact ih0 _ _ _ _
      | exact ih1 _ _ _ _ _ _
      | exact ih2 _ _ _ _ _ _ _
      | exact LeO.none _
      | refine LeO.ite ?_ ?_
      | refine LeO.bind ?_ (fun _ => ?_)
set_option maxHeartbeats 8000000 in
set_option maxRecDepth 100000 in
theorem desc_Path.calls (k : Nat) (a0 : ByteArray) (r : Bool) (w : World) (h : desc_Path.f k a0 = some r) :
    Calls Tryz.prog 6 #[.string a0] w fun e w' => e = .returned (.bool r) ∧ Below w.heap.size w w' := by
  have HB := Aside0.mk (Below.refl w.heap.size w)
  have H : ((strings_Split.f a0 (⟨#[47]⟩ : ByteArray)).bind fun t105 => (desc_Path.l0 k a0 t105 (t105.length : Int) 0)) = some r := h
  clear h
  replace H := Option.bind_eq_some_iff.mp H
  obtain ⟨t105, A20, H⟩ := H
  replace H : (desc_Path.l0 k a0 t105 (t105.length : Int) 0) = some r := H
  have A2 := Aside0.mk A20
  clear A20
  have H' := Aside0.mk H
  clear H
  go_enter Tryz.func6, Tryz.ntmps6
  go_wp2_with (first | ((with_reducible refine gate_callee (f := 12) rfl ?_); refine goesL_ (some 8) rfl rfl Tryz.func12 (by kernel_rfl) rfl #[.string a0, .string (⟨#[47]⟩ : ByteArray)] rfl (by (try simp only [List.map_toArray, List.map_cons, List.map_nil]); first | done | rfl | (simp only [List.length_drop, List.length_take]; rfl)) ?_; (with_reducible refine (strings_Split.calls a0 (⟨#[47]⟩ : ByteArray) t105 _ A2.out).mono ?_); rintro e w3 ⟨v106, rfl, ho0, hb⟩; refine ⟨_, rfl, ?_⟩; have n0_ := Aside0.mk (Kd.R_lower ho0 (below_size (by repeat (first | (with_reducible first | exact HB.out | apply below_alloc | apply pw_below_drewN | apply below_drew1) | exact HB.out)))); have n1_ := Aside0.mk (below_step (by repeat (first | (with_reducible first | exact HB.out | apply below_alloc | apply pw_below_drewN | apply below_drew1) | exact HB.out)) hb); clear HB; have HO107 := n0_; have HB := n1_; clear n0_ n1_; (try clear hb); (try clear hb2); (try clear hk); (try clear hi); (try clear ho0); obtain ⟨Ao4, co4, eo4⟩ := Kd.R_slice HO107.out; subst eo4))
  go_loopg [10] k (fun kq v10 w' => ∃ (x10_1 : Int), v10 = .int .i64 x10_1 ∧ Aside0 (desc_Path.l0 kq a0 t105 (t105.length : Int) x10_1 = some r) ∧ Aside0 (kq ≤ k) ∧ Aside0 (Kd.R Kd.string 9 w' w.heap.size (fun _ => True) (.slice Ao4 t105.length co4) t105) ∧ Aside0 (Below w.heap.size w w'))
  case atStart => exact ⟨(0), (by first | rfl | (simp; done) | (simp [*]; done)), H', ⟨Nat.le_refl _⟩, ⟨by (with_reducible repeat (first | apply Kd.R_alloc | apply Kd.R_drewN | apply Kd.R_drew)); exact HO107.out⟩, ⟨by repeat (first | (with_reducible first | exact HB.out | apply below_alloc | apply pw_below_drewN | apply below_drew1) | exact HB.out)⟩⟩
  case round =>
    clear H'
    try clear c1
    try clear p2
    obtain ⟨x10_1, rfl, HA, HK1, HO_8, HB⟩ := hrel
    cases gk with
    | zero => exact absurd HA.out (by simp [desc_Path.l0])
    | succ k1 =>
      have H := HA.out
      clear HA
      simp only [desc_Path.l0] at H
      by_cases c5 : x10_1 < (t105.length : Int)
      · rw [if_pos c5] at H
        have c5b0 : decide (x10_1 < (t105.length : Int)) = true := decide_eq_true c5
        clear c5
        by_cases c6 : 0 ≤ x10_1
        · rw [if_pos c6] at H
          have c6b0 : decide (0 ≤ x10_1) = true := decide_eq_true c6
          clear c6
          by_cases c7 : x10_1 < (t105.length : Int)
          · rw [if_pos c7] at H
            have c7b0 : decide (x10_1 < (t105.length : Int)) = true := decide_eq_true c7
            clear c7
            have HC8 := Aside0.mk H
            clear H
            have p108 : 0 ≤ (x10_1 : Int) := of_decide_eq_true (by first | (with_reducible assumption) | assumption)
            have q108 : x10_1 < (t105.length : Int) := of_decide_eq_true (by first | (with_reducible assumption) | assumption)
            obtain ⟨ad108, e108, hx108_0⟩ := Kd.at_string (Kd.R_reads' HO_8.out).2.2 x10_1 p108 q108
            cases e108
            replace p108 := eq_true p108
            replace q108 := eq_true q108
            go_upto_region 4 with (fail)
            go_cut [23] (fun v23 wc => ∃ (kq : Nat) (x23_7 : Bool), v23 = .bool x23_7 ∧ Aside0 (desc_Path.j1 kq a0 (rdOf ByteArray.empty t105 x10_1) t105 (t105.length : Int) x10_1 x23_7 = some r) ∧ Aside0 (kq ≤ k1) ∧ Aside0 (Kd.R Kd.string 9 wc w.heap.size (fun _ => True) (.slice (some ad108) t105.length co4) t105) ∧ Aside0 (Below w.heap.size w wc))
            case first =>
              have H := HC8.out
              clear HC8
              by_cases c9 : (rdOf ByteArray.empty t105 x10_1).toList = ([] : List UInt8)
              · rw [if_pos c9] at H
                have c9b0 : ((rdOf ByteArray.empty t105 x10_1).toList == ([] : List UInt8)) = true := beq_iff_eq.mpr c9
                have c9b1 : ((rdOf ByteArray.empty t105 x10_1).toList != ([] : List UInt8)) = false := bne_eq_false_iff_eq.mpr c9
                clear c9
                (first | rw [c9b0] | (simp only [i64_w, i32_w]; rw [c9b0]) | skip)
                have H' := Aside0.mk H
                clear H
                go_wp2
                go_meet
                case rel => exact ⟨_, (true), (by first | rfl | (simp; done) | (simp [*]; done)), H', ⟨by have := HK1.out; first | omega | exact Nat.le_refl _⟩, ⟨by (with_reducible repeat (first | apply Kd.R_alloc | apply Kd.R_drewN | apply Kd.R_drew)); exact HO_8.out⟩, ⟨by repeat (first | (with_reducible first | exact HB.out | apply below_alloc | apply pw_below_drewN | apply below_drew1) | exact HB.out)⟩⟩
              · rw [if_neg c9] at H
                have c9b0 : ((rdOf ByteArray.empty t105 x10_1).toList == ([] : List UInt8)) = false := beq_eq_false_iff_ne.mpr c9
                have c9b1 : ((rdOf ByteArray.empty t105 x10_1).toList != ([] : List UInt8)) = true := bne_iff_ne.mpr c9
                (first | rw [c9b0] | (simp only [i64_w, i32_w]; rw [c9b0]) | skip)
                by_cases c10 : (rdOf ByteArray.empty t105 x10_1).toList = ([46] : List UInt8)
                · rw [if_pos c10] at H
                  have c10b0 : ((rdOf ByteArray.empty t105 x10_1).toList == ([46] : List UInt8)) = true := beq_iff_eq.mpr c10
                  have c10b1 : ((rdOf ByteArray.empty t105 x10_1).toList != ([46] : List UInt8)) = false := bne_eq_false_iff_eq.mpr c10
                  clear c10
                  have H' := Aside0.mk H
                  clear H
                  go_wp2
                  go_meet
                  case rel => exact ⟨_, (true), (by first | rfl | (simp; done) | (simp [*]; done)), H', ⟨by have := HK1.out; first | omega | exact Nat.le_refl _⟩, ⟨by (with_reducible repeat (first | apply Kd.R_alloc | apply Kd.R_drewN | apply Kd.R_drew)); exact HO_8.out⟩, ⟨by repeat (first | (with_reducible first | exact HB.out | apply below_alloc | apply pw_below_drewN | apply below_drew1) | exact HB.out)⟩⟩
                · rw [if_neg c10] at H
                  have c10b0 : ((rdOf ByteArray.empty t105 x10_1).toList == ([46] : List UInt8)) = false := beq_eq_false_iff_ne.mpr c10
                  have c10b1 : ((rdOf ByteArray.empty t105 x10_1).toList != ([46] : List UInt8)) = true := bne_iff_ne.mpr c10
                  have H' := Aside0.mk H
                  clear H
                  go_wp2
                  go_meet
                  case rel => exact ⟨_, (((rdOf ByteArray.empty t105 x10_1).toList == ([46, 46] : List UInt8))), (by first | rfl | (simp; done) | (simp [*]; done)), H', ⟨by have := HK1.out; first | omega | exact Nat.le_refl _⟩, ⟨by (with_reducible repeat (first | apply Kd.R_alloc | apply Kd.R_drewN | apply Kd.R_drew)); exact HO_8.out⟩, ⟨by repeat (first | (with_reducible first | exact HB.out | apply below_alloc | apply pw_below_drewN | apply below_drew1) | exact HB.out)⟩⟩
            case rest =>
              clear HC8
              try clear c1
              try clear p1
              try clear q1
              try clear hx1
              try clear p2
              try clear c5
              try clear c5b0
              try clear c6
              try clear c6b0
              try clear c7
              try clear c7b0
              try clear c9
              try clear c9b0
              try clear c9b1
              try clear c10
              try clear c10b0
              try clear c10b1
              try clear p10
              try clear q10
              try clear hx10
              try clear hx108_0
              try clear p108
              try clear p2
              try clear q108
              obtain ⟨kq, x23_7, rfl, HA, HJ7, HO_8, HB⟩ := hcut
              cases kq with
              | zero => exact absurd HA.out (by simp [desc_Path.j1])
              | succ kj7 =>
                have H := HA.out
                clear HA
                simp only [desc_Path.j1] at H
                by_cases c11 : x23_7 = true
                · subst c11
                  have H1 : (some false) = some r := by rw [if_pos rfl] at H; exact H
                  clear H
                  have H := H1
                  clear H1
                  obtain rfl := Option.some.inj H
                  go_wp2
                  go_ret
                  exact ⟨by first | rfl | (simp [errW_none, errW_some] <;> rfl) | (simp [*, errW_none, errW_some] <;> rfl), by repeat (first | (with_reducible first | exact HB.out | apply below_alloc | apply pw_below_drewN | apply below_drew1) | exact HB.out)⟩
                · replace c11 := Bool.eq_false_iff.mpr c11
                  subst c11
                  have H1 : (desc_Path.l1 kj7 a0 (rdOf ByteArray.empty t105 x10_1) t105 (t105.length : Int) x10_1 ((rdOf ByteArray.empty t105 x10_1).size : Int) 0) = some r := by rw [if_neg (show ¬ (false = true) by decide)] at H; exact H
                  clear H
                  have H := H1
                  clear H1
                  have H' := Aside0.mk H
                  clear H
                  go_wp2
                  go_loopg [26] kj7 (fun kq v26 w' => ∃ (x26_3 : Int), v26 = .int .i64 x26_3 ∧ Aside0 (desc_Path.l1 kq a0 (rdOf ByteArray.empty t105 x10_1) t105 (t105.length : Int) x10_1 ((rdOf ByteArray.empty t105 x10_1).size : Int) x26_3 = some r) ∧ Aside0 (kq ≤ kj7) ∧ Aside0 (Kd.R Kd.string 9 w' w.heap.size (fun _ => True) (.slice (some ad108) t105.length co4) t105) ∧ Aside0 (Below w.heap.size w w'))
                  case atStart => exact ⟨(0), (by first | rfl | (simp; done) | (simp [*]; done)), H', ⟨Nat.le_refl _⟩, ⟨by (with_reducible repeat (first | apply Kd.R_alloc | apply Kd.R_drewN | apply Kd.R_drew)); exact HO_8.out⟩, ⟨by repeat (first | (with_reducible first | exact HB.out | apply below_alloc | apply pw_below_drewN | apply below_drew1) | exact HB.out)⟩⟩
                  case round =>
                    clear H'
                    try clear c1
                    try clear p1
                    try clear q1
                    try clear hx1
                    try clear p2
                    try clear c5
                    try clear c5b0
                    try clear c6
                    try clear c6b0
                    try clear c7
                    try clear c7b0
                    try clear c9
                    try clear c9b0
                    try clear c9b1
                    try clear c10
                    try clear c10b0
                    try clear c10b1
                    try clear p10
                    try clear q10
                    try clear hx10
                    try clear c11
                    try clear hx108_0
                    try clear p1
                    try clear p10
                    try clear p108
                    try clear p2
                    try clear q1
                    try clear q10
                    try clear q108
                    obtain ⟨x26_3, rfl, HA, HK3, HO_8, HB⟩ := hrel
                    cases gk with
                    | zero => exact absurd HA.out (by simp [desc_Path.l1])
                    | succ k3 =>
                      have H := HA.out
                      clear HA
                      simp only [desc_Path.l1] at H
                      by_cases c12 : x26_3 < ((rdOf ByteArray.empty t105 x10_1).size : Int)
                      · rw [if_pos c12] at H
                        have c12b0 : decide (x26_3 < ((rdOf ByteArray.empty t105 x10_1).size : Int)) = true := decide_eq_true c12
                        clear c12
                        by_cases c13 : 0 ≤ x26_3
                        · rw [if_pos c13] at H
                          have c13b0 : decide (0 ≤ x26_3) = true := decide_eq_true c13
                          clear c13
                          by_cases c14 : x26_3 < ((rdOf ByteArray.empty t105 x10_1).size : Int)
                          · rw [if_pos c14] at H
                            have c14b0 : decide (x26_3 < ((rdOf ByteArray.empty t105 x10_1).size : Int)) = true := decide_eq_true c14
                            clear c14
                            by_cases c16 : (bt (rdOf ByteArray.empty t105 x10_1) x26_3) ≥ 97
                            · rw [if_pos c16] at H
                              have c16b0 : decide (97 ≤ (bt (rdOf ByteArray.empty t105 x10_1) x26_3)) = true := decide_eq_true c16
                              clear c16
                              by_cases c17 : (bt (rdOf ByteArray.empty t105 x10_1) x26_3) ≤ 122
                              · rw [if_pos c17] at H
                                have c17b0 : decide ((bt (rdOf ByteArray.empty t105 x10_1) x26_3) ≤ 122) = true := decide_eq_true c17
                                clear c17
                                have H' := Aside0.mk H
                                clear H
                                have p15 : 0 ≤ (x26_3 : Int) := of_decide_eq_true (by first | (with_reducible assumption) | assumption)
                                have q15 : x26_3 < ((rdOf ByteArray.empty t105 x10_1).size : Int) := of_decide_eq_true (by first | (with_reducible assumption) | assumption)
                                have hx15 := bt_at (rdOf ByteArray.empty t105 x10_1) x26_3
                                replace p15 := eq_true p15
                                replace q15 := eq_true q15
                                go_wp2
                                go_roundg k3
                                case measure => have := HK1.out; have := HJ7.out; have := HK3.out; omega
                                case rel => exact ⟨(wrap64 (x26_3 + 1)), (by first | rfl | (simp; done) | (simp [*]; done)), H', ⟨by have := HK1.out; have := HJ7.out; have := HK3.out; omega⟩, ⟨by (with_reducible repeat (first | apply Kd.R_alloc | apply Kd.R_drewN | apply Kd.R_drew)); exact HO_8.out⟩, ⟨by repeat (first | (with_reducible first | exact HB.out | apply below_alloc | apply pw_below_drewN | apply below_drew1) | exact HB.out)⟩⟩
                              · rw [if_neg c17] at H
                                have c17b0 : decide ((bt (rdOf ByteArray.empty t105 x10_1) x26_3) ≤ 122) = false := decide_eq_false c17
                                clear c17
                                by_cases c18 : (bt (rdOf ByteArray.empty t105 x10_1) x26_3) ≥ 65
                                · rw [if_pos c18] at H
                                  have c18b0 : decide (65 ≤ (bt (rdOf ByteArray.empty t105 x10_1) x26_3)) = true := decide_eq_true c18
                                  clear c18
                                  by_cases c19 : (bt (rdOf ByteArray.empty t105 x10_1) x26_3) ≤ 90
                                  · rw [if_pos c19] at H
                                    have c19b0 : decide ((bt (rdOf ByteArray.empty t105 x10_1) x26_3) ≤ 90) = true := decide_eq_true c19
                                    clear c19
                                    have H' := Aside0.mk H
                                    clear H
                                    have p15 : 0 ≤ (x26_3 : Int) := of_decide_eq_true (by first | (with_reducible assumption) | assumption)
                                    have q15 : x26_3 < ((rdOf ByteArray.empty t105 x10_1).size : Int) := of_decide_eq_true (by first | (with_reducible assumption) | assumption)
                                    have hx15 := bt_at (rdOf ByteArray.empty t105 x10_1) x26_3
                                    replace p15 := eq_true p15
                                    replace q15 := eq_true q15
                                    go_wp2
                                    go_roundg k3
                                    case measure => have := HK1.out; have := HJ7.out; have := HK3.out; omega
                                    case rel => exact ⟨(wrap64 (x26_3 + 1)), (by first | rfl | (simp; done) | (simp [*]; done)), H', ⟨by have := HK1.out; have := HJ7.out; have := HK3.out; omega⟩, ⟨by (with_reducible repeat (first | apply Kd.R_alloc | apply Kd.R_drewN | apply Kd.R_drew)); exact HO_8.out⟩, ⟨by repeat (first | (with_reducible first | exact HB.out | apply below_alloc | apply pw_below_drewN | apply below_drew1) | exact HB.out)⟩⟩
                                  · rw [if_neg c19] at H
                                    have c19b0 : decide ((bt (rdOf ByteArray.empty t105 x10_1) x26_3) ≤ 90) = false := decide_eq_false c19
                                    clear c19
                                    by_cases c20 : (bt (rdOf ByteArray.empty t105 x10_1) x26_3) ≥ 48
                                    · rw [if_pos c20] at H
                                      have c20b0 : decide (48 ≤ (bt (rdOf ByteArray.empty t105 x10_1) x26_3)) = true := decide_eq_true c20
                                      clear c20
                                      by_cases c21 : (bt (rdOf ByteArray.empty t105 x10_1) x26_3) ≤ 57
                                      · rw [if_pos c21] at H
                                        have c21b0 : decide ((bt (rdOf ByteArray.empty t105 x10_1) x26_3) ≤ 57) = true := decide_eq_true c21
                                        clear c21
                                        have H' := Aside0.mk H
                                        clear H
                                        have p15 : 0 ≤ (x26_3 : Int) := of_decide_eq_true (by first | (with_reducible assumption) | assumption)
                                        have q15 : x26_3 < ((rdOf ByteArray.empty t105 x10_1).size : Int) := of_decide_eq_true (by first | (with_reducible assumption) | assumption)
                                        have hx15 := bt_at (rdOf ByteArray.empty t105 x10_1) x26_3
                                        replace p15 := eq_true p15
                                        replace q15 := eq_true q15
                                        go_wp2
                                        go_roundg k3
                                        case measure => have := HK1.out; have := HJ7.out; have := HK3.out; omega
                                        case rel => exact ⟨(wrap64 (x26_3 + 1)), (by first | rfl | (simp; done) | (simp [*]; done)), H', ⟨by have := HK1.out; have := HJ7.out; have := HK3.out; omega⟩, ⟨by (with_reducible repeat (first | apply Kd.R_alloc | apply Kd.R_drewN | apply Kd.R_drew)); exact HO_8.out⟩, ⟨by repeat (first | (with_reducible first | exact HB.out | apply below_alloc | apply pw_below_drewN | apply below_drew1) | exact HB.out)⟩⟩
                                      · rw [if_neg c21] at H
                                        have c21b0 : decide ((bt (rdOf ByteArray.empty t105 x10_1) x26_3) ≤ 57) = false := decide_eq_false c21
                                        clear c21
                                        by_cases c22 : (bt (rdOf ByteArray.empty t105 x10_1) x26_3) = 45
                                        · rw [if_pos c22] at H
                                          have c22b0 : ((bt (rdOf ByteArray.empty t105 x10_1) x26_3) == 45) = true := beq_iff_eq.mpr c22
                                          have c22b1 : ((bt (rdOf ByteArray.empty t105 x10_1) x26_3) != 45) = false := bne_eq_false_iff_eq.mpr c22
                                          clear c22
                                          have H' := Aside0.mk H
                                          clear H
                                          have p15 : 0 ≤ (x26_3 : Int) := of_decide_eq_true (by first | (with_reducible assumption) | assumption)
                                          have q15 : x26_3 < ((rdOf ByteArray.empty t105 x10_1).size : Int) := of_decide_eq_true (by first | (with_reducible assumption) | assumption)
                                          have hx15 := bt_at (rdOf ByteArray.empty t105 x10_1) x26_3
                                          replace p15 := eq_true p15
                                          replace q15 := eq_true q15
                                          go_wp2
                                          go_roundg k3
                                          case measure => have := HK1.out; have := HJ7.out; have := HK3.out; omega
                                          case rel => exact ⟨(wrap64 (x26_3 + 1)), (by first | rfl | (simp; done) | (simp [*]; done)), H', ⟨by have := HK1.out; have := HJ7.out; have := HK3.out; omega⟩, ⟨by (with_reducible repeat (first | apply Kd.R_alloc | apply Kd.R_drewN | apply Kd.R_drew)); exact HO_8.out⟩, ⟨by repeat (first | (with_reducible first | exact HB.out | apply below_alloc | apply pw_below_drewN | apply below_drew1) | exact HB.out)⟩⟩
                                        · rw [if_neg c22] at H
                                          have c22b0 : ((bt (rdOf ByteArray.empty t105 x10_1) x26_3) == 45) = false := beq_eq_false_iff_ne.mpr c22
                                          have c22b1 : ((bt (rdOf ByteArray.empty t105 x10_1) x26_3) != 45) = true := bne_iff_ne.mpr c22
                                          by_cases c23 : (bt (rdOf ByteArray.empty t105 x10_1) x26_3) = 95
                                          · rw [if_pos c23] at H
                                            have c23b0 : ((bt (rdOf ByteArray.empty t105 x10_1) x26_3) == 95) = true := beq_iff_eq.mpr c23
                                            have c23b1 : ((bt (rdOf ByteArray.empty t105 x10_1) x26_3) != 95) = false := bne_eq_false_iff_eq.mpr c23
                                            clear c23
                                            have H' := Aside0.mk H
                                            clear H
                                            have p15 : 0 ≤ (x26_3 : Int) := of_decide_eq_true (by first | (with_reducible assumption) | assumption)
                                            have q15 : x26_3 < ((rdOf ByteArray.empty t105 x10_1).size : Int) := of_decide_eq_true (by first | (with_reducible assumption) | assumption)
                                            have hx15 := bt_at (rdOf ByteArray.empty t105 x10_1) x26_3
                                            replace p15 := eq_true p15
                                            replace q15 := eq_true q15
                                            go_wp2
                                            go_roundg k3
                                            case measure => have := HK1.out; have := HJ7.out; have := HK3.out; omega
                                            case rel => exact ⟨(wrap64 (x26_3 + 1)), (by first | rfl | (simp; done) | (simp [*]; done)), H', ⟨by have := HK1.out; have := HJ7.out; have := HK3.out; omega⟩, ⟨by (with_reducible repeat (first | apply Kd.R_alloc | apply Kd.R_drewN | apply Kd.R_drew)); exact HO_8.out⟩, ⟨by repeat (first | (with_reducible first | exact HB.out | apply below_alloc | apply pw_below_drewN | apply below_drew1) | exact HB.out)⟩⟩
                                          · rw [if_neg c23] at H
                                            have c23b0 : ((bt (rdOf ByteArray.empty t105 x10_1) x26_3) == 95) = false := beq_eq_false_iff_ne.mpr c23
                                            have c23b1 : ((bt (rdOf ByteArray.empty t105 x10_1) x26_3) != 95) = true := bne_iff_ne.mpr c23
                                            by_cases c24 : ((bt (rdOf ByteArray.empty t105 x10_1) x26_3) = 46)
                                            · rw [if_pos c24] at H
                                              have c24b0 : ((bt (rdOf ByteArray.empty t105 x10_1) x26_3) == 46) = true := beq_iff_eq.mpr c24
                                              have c24b1 : ((bt (rdOf ByteArray.empty t105 x10_1) x26_3) != 46) = false := bne_eq_false_iff_eq.mpr c24
                                              clear c24
                                              have H' := Aside0.mk H
                                              clear H
                                              have p15 : 0 ≤ (x26_3 : Int) := of_decide_eq_true (by first | (with_reducible assumption) | assumption)
                                              have q15 : x26_3 < ((rdOf ByteArray.empty t105 x10_1).size : Int) := of_decide_eq_true (by first | (with_reducible assumption) | assumption)
                                              have hx15 := bt_at (rdOf ByteArray.empty t105 x10_1) x26_3
                                              replace p15 := eq_true p15
                                              replace q15 := eq_true q15
                                              go_wp2
                                              go_roundg k3
                                              case measure => have := HK1.out; have := HJ7.out; have := HK3.out; omega
                                              case rel => exact ⟨(wrap64 (x26_3 + 1)), (by first | rfl | (simp; done) | (simp [*]; done)), H', ⟨by have := HK1.out; have := HJ7.out; have := HK3.out; omega⟩, ⟨by (with_reducible repeat (first | apply Kd.R_alloc | apply Kd.R_drewN | apply Kd.R_drew)); exact HO_8.out⟩, ⟨by repeat (first | (with_reducible first | exact HB.out | apply below_alloc | apply pw_below_drewN | apply below_drew1) | exact HB.out)⟩⟩
                                            · rw [if_neg c24] at H
                                              have c24b0 : ((bt (rdOf ByteArray.empty t105 x10_1) x26_3) == 46) = false := beq_eq_false_iff_ne.mpr c24
                                              have c24b1 : ((bt (rdOf ByteArray.empty t105 x10_1) x26_3) != 46) = true := bne_iff_ne.mpr c24
                                              obtain rfl := Option.some.inj H
                                              have p15 : 0 ≤ (x26_3 : Int) := of_decide_eq_true (by first | (with_reducible assumption) | assumption)
                                              have q15 : x26_3 < ((rdOf ByteArray.empty t105 x10_1).size : Int) := of_decide_eq_true (by first | (with_reducible assumption) | assumption)
                                              have hx15 := bt_at (rdOf ByteArray.empty t105 x10_1) x26_3
                                              replace p15 := eq_true p15
                                              replace q15 := eq_true q15
                                              go_wp2
                                              go_ret
                                              exact ⟨by first | rfl | (simp [errW_none, errW_some] <;> rfl) | (simp [*, errW_none, errW_some] <;> rfl), by repeat (first | (with_reducible first | exact HB.out | apply below_alloc | apply pw_below_drewN | apply below_drew1) | exact HB.out)⟩
                                    · rw [if_neg c20] at H
                                      have c20b0 : decide (48 ≤ (bt (rdOf ByteArray.empty t105 x10_1) x26_3)) = false := decide_eq_false c20
                                      clear c20
                                      by_cases c25 : (bt (rdOf ByteArray.empty t105 x10_1) x26_3) = 45
                                      · rw [if_pos c25] at H
                                        have c25b0 : ((bt (rdOf ByteArray.empty t105 x10_1) x26_3) == 45) = true := beq_iff_eq.mpr c25
                                        have c25b1 : ((bt (rdOf ByteArray.empty t105 x10_1) x26_3) != 45) = false := bne_eq_false_iff_eq.mpr c25
                                        clear c25
                                        have H' := Aside0.mk H
                                        clear H
                                        have p15 : 0 ≤ (x26_3 : Int) := of_decide_eq_true (by first | (with_reducible assumption) | assumption)
                                        have q15 : x26_3 < ((rdOf ByteArray.empty t105 x10_1).size : Int) := of_decide_eq_true (by first | (with_reducible assumption) | assumption)
                                        have hx15 := bt_at (rdOf ByteArray.empty t105 x10_1) x26_3
                                        replace p15 := eq_true p15
                                        replace q15 := eq_true q15
                                        go_wp2
                                        go_roundg k3
                                        case measure => have := HK1.out; have := HJ7.out; have := HK3.out; omega
                                        case rel => exact ⟨(wrap64 (x26_3 + 1)), (by first | rfl | (simp; done) | (simp [*]; done)), H', ⟨by have := HK1.out; have := HJ7.out; have := HK3.out; omega⟩, ⟨by (with_reducible repeat (first | apply Kd.R_alloc | apply Kd.R_drewN | apply Kd.R_drew)); exact HO_8.out⟩, ⟨by repeat (first | (with_reducible first | exact HB.out | apply below_alloc | apply pw_below_drewN | apply below_drew1) | exact HB.out)⟩⟩
                                      · rw [if_neg c25] at H
                                        have c25b0 : ((bt (rdOf ByteArray.empty t105 x10_1) x26_3) == 45) = false := beq_eq_false_iff_ne.mpr c25
                                        have c25b1 : ((bt (rdOf ByteArray.empty t105 x10_1) x26_3) != 45) = true := bne_iff_ne.mpr c25
                                        by_cases c26 : (bt (rdOf ByteArray.empty t105 x10_1) x26_3) = 95
                                        · rw [if_pos c26] at H
                                          have c26b0 : ((bt (rdOf ByteArray.empty t105 x10_1) x26_3) == 95) = true := beq_iff_eq.mpr c26
                                          have c26b1 : ((bt (rdOf ByteArray.empty t105 x10_1) x26_3) != 95) = false := bne_eq_false_iff_eq.mpr c26
                                          clear c26
                                          have H' := Aside0.mk H
                                          clear H
                                          have p15 : 0 ≤ (x26_3 : Int) := of_decide_eq_true (by first | (with_reducible assumption) | assumption)
                                          have q15 : x26_3 < ((rdOf ByteArray.empty t105 x10_1).size : Int) := of_decide_eq_true (by first | (with_reducible assumption) | assumption)
                                          have hx15 := bt_at (rdOf ByteArray.empty t105 x10_1) x26_3
                                          replace p15 := eq_true p15
                                          replace q15 := eq_true q15
                                          go_wp2
                                          go_roundg k3
                                          case measure => have := HK1.out; have := HJ7.out; have := HK3.out; omega
                                          case rel => exact ⟨(wrap64 (x26_3 + 1)), (by first | rfl | (simp; done) | (simp [*]; done)), H', ⟨by have := HK1.out; have := HJ7.out; have := HK3.out; omega⟩, ⟨by (with_reducible repeat (first | apply Kd.R_alloc | apply Kd.R_drewN | apply Kd.R_drew)); exact HO_8.out⟩, ⟨by repeat (first | (with_reducible first | exact HB.out | apply below_alloc | apply pw_below_drewN | apply below_drew1) | exact HB.out)⟩⟩
                                        · rw [if_neg c26] at H
                                          have c26b0 : ((bt (rdOf ByteArray.empty t105 x10_1) x26_3) == 95) = false := beq_eq_false_iff_ne.mpr c26
                                          have c26b1 : ((bt (rdOf ByteArray.empty t105 x10_1) x26_3) != 95) = true := bne_iff_ne.mpr c26
                                          by_cases c27 : ((bt (rdOf ByteArray.empty t105 x10_1) x26_3) = 46)
                                          · rw [if_pos c27] at H
                                            have c27b0 : ((bt (rdOf ByteArray.empty t105 x10_1) x26_3) == 46) = true := beq_iff_eq.mpr c27
                                            have c27b1 : ((bt (rdOf ByteArray.empty t105 x10_1) x26_3) != 46) = false := bne_eq_false_iff_eq.mpr c27
                                            clear c27
                                            have H' := Aside0.mk H
                                            clear H
                                            have p15 : 0 ≤ (x26_3 : Int) := of_decide_eq_true (by first | (with_reducible assumption) | assumption)
                                            have q15 : x26_3 < ((rdOf ByteArray.empty t105 x10_1).size : Int) := of_decide_eq_true (by first | (with_reducible assumption) | assumption)
                                            have hx15 := bt_at (rdOf ByteArray.empty t105 x10_1) x26_3
                                            replace p15 := eq_true p15
                                            replace q15 := eq_true q15
                                            go_wp2
                                            go_roundg k3
                                            case measure => have := HK1.out; have := HJ7.out; have := HK3.out; omega
                                            case rel => exact ⟨(wrap64 (x26_3 + 1)), (by first | rfl | (simp; done) | (simp [*]; done)), H', ⟨by have := HK1.out; have := HJ7.out; have := HK3.out; omega⟩, ⟨by (with_reducible repeat (first | apply Kd.R_alloc | apply Kd.R_drewN | apply Kd.R_drew)); exact HO_8.out⟩, ⟨by repeat (first | (with_reducible first | exact HB.out | apply below_alloc | apply pw_below_drewN | apply below_drew1) | exact HB.out)⟩⟩
                                          · rw [if_neg c27] at H
                                            have c27b0 : ((bt (rdOf ByteArray.empty t105 x10_1) x26_3) == 46) = false := beq_eq_false_iff_ne.mpr c27
                                            have c27b1 : ((bt (rdOf ByteArray.empty t105 x10_1) x26_3) != 46) = true := bne_iff_ne.mpr c27
                                            obtain rfl := Option.some.inj H
                                            have p15 : 0 ≤ (x26_3 : Int) := of_decide_eq_true (by first | (with_reducible assumption) | assumption)
                                            have q15 : x26_3 < ((rdOf ByteArray.empty t105 x10_1).size : Int) := of_decide_eq_true (by first | (with_reducible assumption) | assumption)
                                            have hx15 := bt_at (rdOf ByteArray.empty t105 x10_1) x26_3
                                            replace p15 := eq_true p15
                                            replace q15 := eq_true q15
                                            go_wp2
                                            go_ret
                                            exact ⟨by first | rfl | (simp [errW_none, errW_some] <;> rfl) | (simp [*, errW_none, errW_some] <;> rfl), by repeat (first | (with_reducible first | exact HB.out | apply below_alloc | apply pw_below_drewN | apply below_drew1) | exact HB.out)⟩
                                · rw [if_neg c18] at H
                                  have c18b0 : decide (65 ≤ (bt (rdOf ByteArray.empty t105 x10_1) x26_3)) = false := decide_eq_false c18
                                  clear c18
                                  by_cases c28 : (bt (rdOf ByteArray.empty t105 x10_1) x26_3) ≥ 48
                                  · rw [if_pos c28] at H
                                    have c28b0 : decide (48 ≤ (bt (rdOf ByteArray.empty t105 x10_1) x26_3)) = true := decide_eq_true c28
                                    clear c28
                                    by_cases c29 : (bt (rdOf ByteArray.empty t105 x10_1) x26_3) ≤ 57
                                    · rw [if_pos c29] at H
                                      have c29b0 : decide ((bt (rdOf ByteArray.empty t105 x10_1) x26_3) ≤ 57) = true := decide_eq_true c29
                                      clear c29
                                      have H' := Aside0.mk H
                                      clear H
                                      have p15 : 0 ≤ (x26_3 : Int) := of_decide_eq_true (by first | (with_reducible assumption) | assumption)
                                      have q15 : x26_3 < ((rdOf ByteArray.empty t105 x10_1).size : Int) := of_decide_eq_true (by first | (with_reducible assumption) | assumption)
                                      have hx15 := bt_at (rdOf ByteArray.empty t105 x10_1) x26_3
                                      replace p15 := eq_true p15
                                      replace q15 := eq_true q15
                                      go_wp2
                                      go_roundg k3
                                      case measure => have := HK1.out; have := HJ7.out; have := HK3.out; omega
                                      case rel => exact ⟨(wrap64 (x26_3 + 1)), (by first | rfl | (simp; done) | (simp [*]; done)), H', ⟨by have := HK1.out; have := HJ7.out; have := HK3.out; omega⟩, ⟨by (with_reducible repeat (first | apply Kd.R_alloc | apply Kd.R_drewN | apply Kd.R_drew)); exact HO_8.out⟩, ⟨by repeat (first | (with_reducible first | exact HB.out | apply below_alloc | apply pw_below_drewN | apply below_drew1) | exact HB.out)⟩⟩
                                    · rw [if_neg c29] at H
                                      have c29b0 : decide ((bt (rdOf ByteArray.empty t105 x10_1) x26_3) ≤ 57) = false := decide_eq_false c29
                                      clear c29
                                      by_cases c30 : (bt (rdOf ByteArray.empty t105 x10_1) x26_3) = 45
                                      · rw [if_pos c30] at H
                                        have c30b0 : ((bt (rdOf ByteArray.empty t105 x10_1) x26_3) == 45) = true := beq_iff_eq.mpr c30
                                        have c30b1 : ((bt (rdOf ByteArray.empty t105 x10_1) x26_3) != 45) = false := bne_eq_false_iff_eq.mpr c30
                                        clear c30
                                        have H' := Aside0.mk H
                                        clear H
                                        have p15 : 0 ≤ (x26_3 : Int) := of_decide_eq_true (by first | (with_reducible assumption) | assumption)
                                        have q15 : x26_3 < ((rdOf ByteArray.empty t105 x10_1).size : Int) := of_decide_eq_true (by first | (with_reducible assumption) | assumption)
                                        have hx15 := bt_at (rdOf ByteArray.empty t105 x10_1) x26_3
                                        replace p15 := eq_true p15
                                        replace q15 := eq_true q15
                                        go_wp2
                                        go_roundg k3
                                        case measure => have := HK1.out; have := HJ7.out; have := HK3.out; omega
                                        case rel => exact ⟨(wrap64 (x26_3 + 1)), (by first | rfl | (simp; done) | (simp [*]; done)), H', ⟨by have := HK1.out; have := HJ7.out; have := HK3.out; omega⟩, ⟨by (with_reducible repeat (first | apply Kd.R_alloc | apply Kd.R_drewN | apply Kd.R_drew)); exact HO_8.out⟩, ⟨by repeat (first | (with_reducible first | exact HB.out | apply below_alloc | apply pw_below_drewN | apply below_drew1) | exact HB.out)⟩⟩
                                      · rw [if_neg c30] at H
                                        have c30b0 : ((bt (rdOf ByteArray.empty t105 x10_1) x26_3) == 45) = false := beq_eq_false_iff_ne.mpr c30
                                        have c30b1 : ((bt (rdOf ByteArray.empty t105 x10_1) x26_3) != 45) = true := bne_iff_ne.mpr c30
                                        by_cases c31 : (bt (rdOf ByteArray.empty t105 x10_1) x26_3) = 95
                                        · rw [if_pos c31] at H
                                          have c31b0 : ((bt (rdOf ByteArray.empty t105 x10_1) x26_3) == 95) = true := beq_iff_eq.mpr c31
                                          have c31b1 : ((bt (rdOf ByteArray.empty t105 x10_1) x26_3) != 95) = false := bne_eq_false_iff_eq.mpr c31
                                          clear c31
                                          have H' := Aside0.mk H
                                          clear H
                                          have p15 : 0 ≤ (x26_3 : Int) := of_decide_eq_true (by first | (with_reducible assumption) | assumption)
                                          have q15 : x26_3 < ((rdOf ByteArray.empty t105 x10_1).size : Int) := of_decide_eq_true (by first | (with_reducible assumption) | assumption)
                                          have hx15 := bt_at (rdOf ByteArray.empty t105 x10_1) x26_3
                                          replace p15 := eq_true p15
                                          replace q15 := eq_true q15
                                          go_wp2
                                          go_roundg k3
                                          case measure => have := HK1.out; have := HJ7.out; have := HK3.out; omega
                                          case rel => exact ⟨(wrap64 (x26_3 + 1)), (by first | rfl | (simp; done) | (simp [*]; done)), H', ⟨by have := HK1.out; have := HJ7.out; have := HK3.out; omega⟩, ⟨by (with_reducible repeat (first | apply Kd.R_alloc | apply Kd.R_drewN | apply Kd.R_drew)); exact HO_8.out⟩, ⟨by repeat (first | (with_reducible first | exact HB.out | apply below_alloc | apply pw_below_drewN | apply below_drew1) | exact HB.out)⟩⟩
                                        · rw [if_neg c31] at H
                                          have c31b0 : ((bt (rdOf ByteArray.empty t105 x10_1) x26_3) == 95) = false := beq_eq_false_iff_ne.mpr c31
                                          have c31b1 : ((bt (rdOf ByteArray.empty t105 x10_1) x26_3) != 95) = true := bne_iff_ne.mpr c31
                                          by_cases c32 : ((bt (rdOf ByteArray.empty t105 x10_1) x26_3) = 46)
                                          · rw [if_pos c32] at H
                                            have c32b0 : ((bt (rdOf ByteArray.empty t105 x10_1) x26_3) == 46) = true := beq_iff_eq.mpr c32
                                            have c32b1 : ((bt (rdOf ByteArray.empty t105 x10_1) x26_3) != 46) = false := bne_eq_false_iff_eq.mpr c32
                                            clear c32
                                            have H' := Aside0.mk H
                                            clear H
                                            have p15 : 0 ≤ (x26_3 : Int) := of_decide_eq_true (by first | (with_reducible assumption) | assumption)
                                            have q15 : x26_3 < ((rdOf ByteArray.empty t105 x10_1).size : Int) := of_decide_eq_true (by first | (with_reducible assumption) | assumption)
                                            have hx15 := bt_at (rdOf ByteArray.empty t105 x10_1) x26_3
                                            replace p15 := eq_true p15
                                            replace q15 := eq_true q15
                                            go_wp2
                                            go_roundg k3
                                            case measure => have := HK1.out; have := HJ7.out; have := HK3.out; omega
                                            case rel => exact ⟨(wrap64 (x26_3 + 1)), (by first | rfl | (simp; done) | (simp [*]; done)), H', ⟨by have := HK1.out; have := HJ7.out; have := HK3.out; omega⟩, ⟨by (with_reducible repeat (first | apply Kd.R_alloc | apply Kd.R_drewN | apply Kd.R_drew)); exact HO_8.out⟩, ⟨by repeat (first | (with_reducible first | exact HB.out | apply below_alloc | apply pw_below_drewN | apply below_drew1) | exact HB.out)⟩⟩
                                          · rw [if_neg c32] at H
                                            have c32b0 : ((bt (rdOf ByteArray.empty t105 x10_1) x26_3) == 46) = false := beq_eq_false_iff_ne.mpr c32
                                            have c32b1 : ((bt (rdOf ByteArray.empty t105 x10_1) x26_3) != 46) = true := bne_iff_ne.mpr c32
                                            obtain rfl := Option.some.inj H
                                            have p15 : 0 ≤ (x26_3 : Int) := of_decide_eq_true (by first | (with_reducible assumption) | assumption)
                                            have q15 : x26_3 < ((rdOf ByteArray.empty t105 x10_1).size : Int) := of_decide_eq_true (by first | (with_reducible assumption) | assumption)
                                            have hx15 := bt_at (rdOf ByteArray.empty t105 x10_1) x26_3
                                            replace p15 := eq_true p15
                                            replace q15 := eq_true q15
                                            go_wp2
                                            go_ret
                                            exact ⟨by first | rfl | (simp [errW_none, errW_some] <;> rfl) | (simp [*, errW_none, errW_some] <;> rfl), by repeat (first | (with_reducible first | exact HB.out | apply below_alloc | apply pw_below_drewN | apply below_drew1) | exact HB.out)⟩
                                  · rw [if_neg c28] at H
                                    have c28b0 : decide (48 ≤ (bt (rdOf ByteArray.empty t105 x10_1) x26_3)) = false := decide_eq_false c28
                                    clear c28
                                    by_cases c33 : (bt (rdOf ByteArray.empty t105 x10_1) x26_3) = 45
                                    · rw [if_pos c33] at H
                                      have c33b0 : ((bt (rdOf ByteArray.empty t105 x10_1) x26_3) == 45) = true := beq_iff_eq.mpr c33
                                      have c33b1 : ((bt (rdOf ByteArray.empty t105 x10_1) x26_3) != 45) = false := bne_eq_false_iff_eq.mpr c33
                                      clear c33
                                      have H' := Aside0.mk H
                                      clear H
                                      have p15 : 0 ≤ (x26_3 : Int) := of_decide_eq_true (by first | (with_reducible assumption) | assumption)
                                      have q15 : x26_3 < ((rdOf ByteArray.empty t105 x10_1).size : Int) := of_decide_eq_true (by first | (with_reducible assumption) | assumption)
                                      have hx15 := bt_at (rdOf ByteArray.empty t105 x10_1) x26_3
                                      replace p15 := eq_true p15
                                      replace q15 := eq_true q15
                                      go_wp2
                                      go_roundg k3
                                      case measure => have := HK1.out; have := HJ7.out; have := HK3.out; omega
                                      case rel => exact ⟨(wrap64 (x26_3 + 1)), (by first | rfl | (simp; done) | (simp [*]; done)), H', ⟨by have := HK1.out; have := HJ7.out; have := HK3.out; omega⟩, ⟨by (with_reducible repeat (first | apply Kd.R_alloc | apply Kd.R_drewN | apply Kd.R_drew)); exact HO_8.out⟩, ⟨by repeat (first | (with_reducible first | exact HB.out | apply below_alloc | apply pw_below_drewN | apply below_drew1) | exact HB.out)⟩⟩
                                    · rw [if_neg c33] at H
                                      have c33b0 : ((bt (rdOf ByteArray.empty t105 x10_1) x26_3) == 45) = false := beq_eq_false_iff_ne.mpr c33
                                      have c33b1 : ((bt (rdOf ByteArray.empty t105 x10_1) x26_3) != 45) = true := bne_iff_ne.mpr c33
                                      by_cases c34 : (bt (rdOf ByteArray.empty t105 x10_1) x26_3) = 95
                                      · rw [if_pos c34] at H
                                        have c34b0 : ((bt (rdOf ByteArray.empty t105 x10_1) x26_3) == 95) = true := beq_iff_eq.mpr c34
                                        have c34b1 : ((bt (rdOf ByteArray.empty t105 x10_1) x26_3) != 95) = false := bne_eq_false_iff_eq.mpr c34
                                        clear c34
                                        have H' := Aside0.mk H
                                        clear H
                                        have p15 : 0 ≤ (x26_3 : Int) := of_decide_eq_true (by first | (with_reducible assumption) | assumption)
                                        have q15 : x26_3 < ((rdOf ByteArray.empty t105 x10_1).size : Int) := of_decide_eq_true (by first | (with_reducible assumption) | assumption)
                                        have hx15 := bt_at (rdOf ByteArray.empty t105 x10_1) x26_3
                                        replace p15 := eq_true p15
                                        replace q15 := eq_true q15
                                        go_wp2
                                        go_roundg k3
                                        case measure => have := HK1.out; have := HJ7.out; have := HK3.out; omega
                                        case rel => exact ⟨(wrap64 (x26_3 + 1)), (by first | rfl | (simp; done) | (simp [*]; done)), H', ⟨by have := HK1.out; have := HJ7.out; have := HK3.out; omega⟩, ⟨by (with_reducible repeat (first | apply Kd.R_alloc | apply Kd.R_drewN | apply Kd.R_drew)); exact HO_8.out⟩, ⟨by repeat (first | (with_reducible first | exact HB.out | apply below_alloc | apply pw_below_drewN | apply below_drew1) | exact HB.out)⟩⟩
                                      · rw [if_neg c34] at H
                                        have c34b0 : ((bt (rdOf ByteArray.empty t105 x10_1) x26_3) == 95) = false := beq_eq_false_iff_ne.mpr c34
                                        have c34b1 : ((bt (rdOf ByteArray.empty t105 x10_1) x26_3) != 95) = true := bne_iff_ne.mpr c34
                                        by_cases c35 : ((bt (rdOf ByteArray.empty t105 x10_1) x26_3) = 46)
                                        · rw [if_pos c35] at H
                                          have c35b0 : ((bt (rdOf ByteArray.empty t105 x10_1) x26_3) == 46) = true := beq_iff_eq.mpr c35
                                          have c35b1 : ((bt (rdOf ByteArray.empty t105 x10_1) x26_3) != 46) = false := bne_eq_false_iff_eq.mpr c35
                                          clear c35
                                          have H' := Aside0.mk H
                                          clear H
                                          have p15 : 0 ≤ (x26_3 : Int) := of_decide_eq_true (by first | (with_reducible assumption) | assumption)
                                          have q15 : x26_3 < ((rdOf ByteArray.empty t105 x10_1).size : Int) := of_decide_eq_true (by first | (with_reducible assumption) | assumption)
                                          have hx15 := bt_at (rdOf ByteArray.empty t105 x10_1) x26_3
                                          replace p15 := eq_true p15
                                          replace q15 := eq_true q15
                                          go_wp2
                                          go_roundg k3
                                          case measure => have := HK1.out; have := HJ7.out; have := HK3.out; omega
                                          case rel => exact ⟨(wrap64 (x26_3 + 1)), (by first | rfl | (simp; done) | (simp [*]; done)), H', ⟨by have := HK1.out; have := HJ7.out; have := HK3.out; omega⟩, ⟨by (with_reducible repeat (first | apply Kd.R_alloc | apply Kd.R_drewN | apply Kd.R_drew)); exact HO_8.out⟩, ⟨by repeat (first | (with_reducible first | exact HB.out | apply below_alloc | apply pw_below_drewN | apply below_drew1) | exact HB.out)⟩⟩
                                        · rw [if_neg c35] at H
                                          have c35b0 : ((bt (rdOf ByteArray.empty t105 x10_1) x26_3) == 46) = false := beq_eq_false_iff_ne.mpr c35
                                          have c35b1 : ((bt (rdOf ByteArray.empty t105 x10_1) x26_3) != 46) = true := bne_iff_ne.mpr c35
                                          obtain rfl := Option.some.inj H
                                          have p15 : 0 ≤ (x26_3 : Int) := of_decide_eq_true (by first | (with_reducible assumption) | assumption)
                                          have q15 : x26_3 < ((rdOf ByteArray.empty t105 x10_1).size : Int) := of_decide_eq_true (by first | (with_reducible assumption) | assumption)
                                          have hx15 := bt_at (rdOf ByteArray.empty t105 x10_1) x26_3
                                          replace p15 := eq_true p15
                                          replace q15 := eq_true q15
                                          go_wp2
                                          go_ret
                                          exact ⟨by first | rfl | (simp [errW_none, errW_some] <;> rfl) | (simp [*, errW_none, errW_some] <;> rfl), by repeat (first | (with_reducible first | exact HB.out | apply below_alloc | apply pw_below_drewN | apply below_drew1) | exact HB.out)⟩
                            · rw [if_neg c16] at H
                              have c16b0 : decide (97 ≤ (bt (rdOf ByteArray.empty t105 x10_1) x26_3)) = false := decide_eq_false c16
                              clear c16
                              by_cases c36 : (bt (rdOf ByteArray.empty t105 x10_1) x26_3) ≥ 65
                              · rw [if_pos c36] at H
                                have c36b0 : decide (65 ≤ (bt (rdOf ByteArray.empty t105 x10_1) x26_3)) = true := decide_eq_true c36
                                clear c36
                                by_cases c37 : (bt (rdOf ByteArray.empty t105 x10_1) x26_3) ≤ 90
                                · rw [if_pos c37] at H
                                  have c37b0 : decide ((bt (rdOf ByteArray.empty t105 x10_1) x26_3) ≤ 90) = true := decide_eq_true c37
                                  clear c37
                                  have H' := Aside0.mk H
                                  clear H
                                  have p15 : 0 ≤ (x26_3 : Int) := of_decide_eq_true (by first | (with_reducible assumption) | assumption)
                                  have q15 : x26_3 < ((rdOf ByteArray.empty t105 x10_1).size : Int) := of_decide_eq_true (by first | (with_reducible assumption) | assumption)
                                  have hx15 := bt_at (rdOf ByteArray.empty t105 x10_1) x26_3
                                  replace p15 := eq_true p15
                                  replace q15 := eq_true q15
                                  go_wp2
                                  go_roundg k3
                                  case measure => have := HK1.out; have := HJ7.out; have := HK3.out; omega
                                  case rel => exact ⟨(wrap64 (x26_3 + 1)), (by first | rfl | (simp; done) | (simp [*]; done)), H', ⟨by have := HK1.out; have := HJ7.out; have := HK3.out; omega⟩, ⟨by (with_reducible repeat (first | apply Kd.R_alloc | apply Kd.R_drewN | apply Kd.R_drew)); exact HO_8.out⟩, ⟨by repeat (first | (with_reducible first | exact HB.out | apply below_alloc | apply pw_below_drewN | apply below_drew1) | exact HB.out)⟩⟩
                                · rw [if_neg c37] at H
                                  have c37b0 : decide ((bt (rdOf ByteArray.empty t105 x10_1) x26_3) ≤ 90) = false := decide_eq_false c37
                                  clear c37
                                  by_cases c38 : (bt (rdOf ByteArray.empty t105 x10_1) x26_3) ≥ 48
                                  · rw [if_pos c38] at H
                                    have c38b0 : decide (48 ≤ (bt (rdOf ByteArray.empty t105 x10_1) x26_3)) = true := decide_eq_true c38
                                    clear c38
                                    by_cases c39 : (bt (rdOf ByteArray.empty t105 x10_1) x26_3) ≤ 57
                                    · rw [if_pos c39] at H
                                      have c39b0 : decide ((bt (rdOf ByteArray.empty t105 x10_1) x26_3) ≤ 57) = true := decide_eq_true c39
                                      clear c39
                                      have H' := Aside0.mk H
                                      clear H
                                      have p15 : 0 ≤ (x26_3 : Int) := of_decide_eq_true (by first | (with_reducible assumption) | assumption)
                                      have q15 : x26_3 < ((rdOf ByteArray.empty t105 x10_1).size : Int) := of_decide_eq_true (by first | (with_reducible assumption) | assumption)
                                      have hx15 := bt_at (rdOf ByteArray.empty t105 x10_1) x26_3
                                      replace p15 := eq_true p15
                                      replace q15 := eq_true q15
                                      go_wp2
                                      go_roundg k3
                                      case measure => have := HK1.out; have := HJ7.out; have := HK3.out; omega
                                      case rel => exact ⟨(wrap64 (x26_3 + 1)), (by first | rfl | (simp; done) | (simp [*]; done)), H', ⟨by have := HK1.out; have := HJ7.out; have := HK3.out; omega⟩, ⟨by (with_reducible repeat (first | apply Kd.R_alloc | apply Kd.R_drewN | apply Kd.R_drew)); exact HO_8.out⟩, ⟨by repeat (first | (with_reducible first | exact HB.out | apply below_alloc | apply pw_below_drewN | apply below_drew1) | exact HB.out)⟩⟩
                                    · rw [if_neg c39] at H
                                      have c39b0 : decide ((bt (rdOf ByteArray.empty t105 x10_1) x26_3) ≤ 57) = false := decide_eq_false c39
                                      clear c39
                                      by_cases c40 : (bt (rdOf ByteArray.empty t105 x10_1) x26_3) = 45
                                      · rw [if_pos c40] at H
                                        have c40b0 : ((bt (rdOf ByteArray.empty t105 x10_1) x26_3) == 45) = true := beq_iff_eq.mpr c40
                                        have c40b1 : ((bt (rdOf ByteArray.empty t105 x10_1) x26_3) != 45) = false := bne_eq_false_iff_eq.mpr c40
                                        clear c40
                                        have H' := Aside0.mk H
                                        clear H
                                        have p15 : 0 ≤ (x26_3 : Int) := of_decide_eq_true (by first | (with_reducible assumption) | assumption)
                                        have q15 : x26_3 < ((rdOf ByteArray.empty t105 x10_1).size : Int) := of_decide_eq_true (by first | (with_reducible assumption) | assumption)
                                        have hx15 := bt_at (rdOf ByteArray.empty t105 x10_1) x26_3
                                        replace p15 := eq_true p15
                                        replace q15 := eq_true q15
                                        go_wp2
                                        go_roundg k3
                                        case measure => have := HK1.out; have := HJ7.out; have := HK3.out; omega
                                        case rel => exact ⟨(wrap64 (x26_3 + 1)), (by first | rfl | (simp; done) | (simp [*]; done)), H', ⟨by have := HK1.out; have := HJ7.out; have := HK3.out; omega⟩, ⟨by (with_reducible repeat (first | apply Kd.R_alloc | apply Kd.R_drewN | apply Kd.R_drew)); exact HO_8.out⟩, ⟨by repeat (first | (with_reducible first | exact HB.out | apply below_alloc | apply pw_below_drewN | apply below_drew1) | exact HB.out)⟩⟩
                                      · rw [if_neg c40] at H
                                        have c40b0 : ((bt (rdOf ByteArray.empty t105 x10_1) x26_3) == 45) = false := beq_eq_false_iff_ne.mpr c40
                                        have c40b1 : ((bt (rdOf ByteArray.empty t105 x10_1) x26_3) != 45) = true := bne_iff_ne.mpr c40
                                        by_cases c41 : (bt (rdOf ByteArray.empty t105 x10_1) x26_3) = 95
                                        · rw [if_pos c41] at H
                                          have c41b0 : ((bt (rdOf ByteArray.empty t105 x10_1) x26_3) == 95) = true := beq_iff_eq.mpr c41
                                          have c41b1 : ((bt (rdOf ByteArray.empty t105 x10_1) x26_3) != 95) = false := bne_eq_false_iff_eq.mpr c41
                                          clear c41
                                          have H' := Aside0.mk H
                                          clear H
                                          have p15 : 0 ≤ (x26_3 : Int) := of_decide_eq_true (by first | (with_reducible assumption) | assumption)
                                          have q15 : x26_3 < ((rdOf ByteArray.empty t105 x10_1).size : Int) := of_decide_eq_true (by first | (with_reducible assumption) | assumption)
                                          have hx15 := bt_at (rdOf ByteArray.empty t105 x10_1) x26_3
                                          replace p15 := eq_true p15
                                          replace q15 := eq_true q15
                                          go_wp2
                                          go_roundg k3
                                          case measure => have := HK1.out; have := HJ7.out; have := HK3.out; omega
                                          case rel => exact ⟨(wrap64 (x26_3 + 1)), (by first | rfl | (simp; done) | (simp [*]; done)), H', ⟨by have := HK1.out; have := HJ7.out; have := HK3.out; omega⟩, ⟨by (with_reducible repeat (first | apply Kd.R_alloc | apply Kd.R_drewN | apply Kd.R_drew)); exact HO_8.out⟩, ⟨by repeat (first | (with_reducible first | exact HB.out | apply below_alloc | apply pw_below_drewN | apply below_drew1) | exact HB.out)⟩⟩
                                        · rw [if_neg c41] at H
                                          have c41b0 : ((bt (rdOf ByteArray.empty t105 x10_1) x26_3) == 95) = false := beq_eq_false_iff_ne.mpr c41
                                          have c41b1 : ((bt (rdOf ByteArray.empty t105 x10_1) x26_3) != 95) = true := bne_iff_ne.mpr c41
                                          by_cases c42 : ((bt (rdOf ByteArray.empty t105 x10_1) x26_3) = 46)
                                          · rw [if_pos c42] at H
                                            have c42b0 : ((bt (rdOf ByteArray.empty t105 x10_1) x26_3) == 46) = true := beq_iff_eq.mpr c42
                                            have c42b1 : ((bt (rdOf ByteArray.empty t105 x10_1) x26_3) != 46) = false := bne_eq_false_iff_eq.mpr c42
                                            clear c42
                                            have H' := Aside0.mk H
                                            clear H
                                            have p15 : 0 ≤ (x26_3 : Int) := of_decide_eq_true (by first | (with_reducible assumption) | assumption)
                                            have q15 : x26_3 < ((rdOf ByteArray.empty t105 x10_1).size : Int) := of_decide_eq_true (by first | (with_reducible assumption) | assumption)
                                            have hx15 := bt_at (rdOf ByteArray.empty t105 x10_1) x26_3
                                            replace p15 := eq_true p15
                                            replace q15 := eq_true q15
                                            go_wp2
                                            go_roundg k3
                                            case measure => have := HK1.out; have := HJ7.out; have := HK3.out; omega
                                            case rel => exact ⟨(wrap64 (x26_3 + 1)), (by first | rfl | (simp; done) | (simp [*]; done)), H', ⟨by have := HK1.out; have := HJ7.out; have := HK3.out; omega⟩, ⟨by (with_reducible repeat (first | apply Kd.R_alloc | apply Kd.R_drewN | apply Kd.R_drew)); exact HO_8.out⟩, ⟨by repeat (first | (with_reducible first | exact HB.out | apply below_alloc | apply pw_below_drewN | apply below_drew1) | exact HB.out)⟩⟩
                                          · rw [if_neg c42] at H
                                            have c42b0 : ((bt (rdOf ByteArray.empty t105 x10_1) x26_3) == 46) = false := beq_eq_false_iff_ne.mpr c42
                                            have c42b1 : ((bt (rdOf ByteArray.empty t105 x10_1) x26_3) != 46) = true := bne_iff_ne.mpr c42
                                            obtain rfl := Option.some.inj H
                                            have p15 : 0 ≤ (x26_3 : Int) := of_decide_eq_true (by first | (with_reducible assumption) | assumption)
                                            have q15 : x26_3 < ((rdOf ByteArray.empty t105 x10_1).size : Int) := of_decide_eq_true (by first | (with_reducible assumption) | assumption)
                                            have hx15 := bt_at (rdOf ByteArray.empty t105 x10_1) x26_3
                                            replace p15 := eq_true p15
                                            replace q15 := eq_true q15
                                            go_wp2
                                            go_ret
                                            exact ⟨by first | rfl | (simp [errW_none, errW_some] <;> rfl) | (simp [*, errW_none, errW_some] <;> rfl), by repeat (first | (with_reducible first | exact HB.out | apply below_alloc | apply pw_below_drewN | apply below_drew1) | exact HB.out)⟩
                                  · rw [if_neg c38] at H
                                    have c38b0 : decide (48 ≤ (bt (rdOf ByteArray.empty t105 x10_1) x26_3)) = false := decide_eq_false c38
                                    clear c38
                                    by_cases c43 : (bt (rdOf ByteArray.empty t105 x10_1) x26_3) = 45
                                    · rw [if_pos c43] at H
                                      have c43b0 : ((bt (rdOf ByteArray.empty t105 x10_1) x26_3) == 45) = true := beq_iff_eq.mpr c43
                                      have c43b1 : ((bt (rdOf ByteArray.empty t105 x10_1) x26_3) != 45) = false := bne_eq_false_iff_eq.mpr c43
                                      clear c43
                                      have H' := Aside0.mk H
                                      clear H
                                      have p15 : 0 ≤ (x26_3 : Int) := of_decide_eq_true (by first | (with_reducible assumption) | assumption)
                                      have q15 : x26_3 < ((rdOf ByteArray.empty t105 x10_1).size : Int) := of_decide_eq_true (by first | (with_reducible assumption) | assumption)
                                      have hx15 := bt_at (rdOf ByteArray.empty t105 x10_1) x26_3
                                      replace p15 := eq_true p15
                                      replace q15 := eq_true q15
                                      go_wp2
                                      go_roundg k3
                                      case measure => have := HK1.out; have := HJ7.out; have := HK3.out; omega
                                      case rel => exact ⟨(wrap64 (x26_3 + 1)), (by first | rfl | (simp; done) | (simp [*]; done)), H', ⟨by have := HK1.out; have := HJ7.out; have := HK3.out; omega⟩, ⟨by (with_reducible repeat (first | apply Kd.R_alloc | apply Kd.R_drewN | apply Kd.R_drew)); exact HO_8.out⟩, ⟨by repeat (first | (with_reducible first | exact HB.out | apply below_alloc | apply pw_below_drewN | apply below_drew1) | exact HB.out)⟩⟩
                                    · rw [if_neg c43] at H
                                      have c43b0 : ((bt (rdOf ByteArray.empty t105 x10_1) x26_3) == 45) = false := beq_eq_false_iff_ne.mpr c43
                                      have c43b1 : ((bt (rdOf ByteArray.empty t105 x10_1) x26_3) != 45) = true := bne_iff_ne.mpr c43
                                      by_cases c44 : (bt (rdOf ByteArray.empty t105 x10_1) x26_3) = 95
                                      · rw [if_pos c44] at H
                                        have c44b0 : ((bt (rdOf ByteArray.empty t105 x10_1) x26_3) == 95) = true := beq_iff_eq.mpr c44
                                        have c44b1 : ((bt (rdOf ByteArray.empty t105 x10_1) x26_3) != 95) = false := bne_eq_false_iff_eq.mpr c44
                                        clear c44
                                        have H' := Aside0.mk H
                                        clear H
                                        have p15 : 0 ≤ (x26_3 : Int) := of_decide_eq_true (by first | (with_reducible assumption) | assumption)
                                        have q15 : x26_3 < ((rdOf ByteArray.empty t105 x10_1).size : Int) := of_decide_eq_true (by first | (with_reducible assumption) | assumption)
                                        have hx15 := bt_at (rdOf ByteArray.empty t105 x10_1) x26_3
                                        replace p15 := eq_true p15
                                        replace q15 := eq_true q15
                                        go_wp2
                                        go_roundg k3
                                        case measure => have := HK1.out; have := HJ7.out; have := HK3.out; omega
                                        case rel => exact ⟨(wrap64 (x26_3 + 1)), (by first | rfl | (simp; done) | (simp [*]; done)), H', ⟨by have := HK1.out; have := HJ7.out; have := HK3.out; omega⟩, ⟨by (with_reducible repeat (first | apply Kd.R_alloc | apply Kd.R_drewN | apply Kd.R_drew)); exact HO_8.out⟩, ⟨by repeat (first | (with_reducible first | exact HB.out | apply below_alloc | apply pw_below_drewN | apply below_drew1) | exact HB.out)⟩⟩
                                      · rw [if_neg c44] at H
                                        have c44b0 : ((bt (rdOf ByteArray.empty t105 x10_1) x26_3) == 95) = false := beq_eq_false_iff_ne.mpr c44
                                        have c44b1 : ((bt (rdOf ByteArray.empty t105 x10_1) x26_3) != 95) = true := bne_iff_ne.mpr c44
                                        by_cases c45 : ((bt (rdOf ByteArray.empty t105 x10_1) x26_3) = 46)
                                        · rw [if_pos c45] at H
                                          have c45b0 : ((bt (rdOf ByteArray.empty t105 x10_1) x26_3) == 46) = true := beq_iff_eq.mpr c45
                                          have c45b1 : ((bt (rdOf ByteArray.empty t105 x10_1) x26_3) != 46) = false := bne_eq_false_iff_eq.mpr c45
                                          clear c45
                                          have H' := Aside0.mk H
                                          clear H
                                          have p15 : 0 ≤ (x26_3 : Int) := of_decide_eq_true (by first | (with_reducible assumption) | assumption)
                                          have q15 : x26_3 < ((rdOf ByteArray.empty t105 x10_1).size : Int) := of_decide_eq_true (by first | (with_reducible assumption) | assumption)
                                          have hx15 := bt_at (rdOf ByteArray.empty t105 x10_1) x26_3
                                          replace p15 := eq_true p15
                                          replace q15 := eq_true q15
                                          go_wp2
                                          go_roundg k3
                                          case measure => have := HK1.out; have := HJ7.out; have := HK3.out; omega
                                          case rel => exact ⟨(wrap64 (x26_3 + 1)), (by first | rfl | (simp; done) | (simp [*]; done)), H', ⟨by have := HK1.out; have := HJ7.out; have := HK3.out; omega⟩, ⟨by (with_reducible repeat (first | apply Kd.R_alloc | apply Kd.R_drewN | apply Kd.R_drew)); exact HO_8.out⟩, ⟨by repeat (first | (with_reducible first | exact HB.out | apply below_alloc | apply pw_below_drewN | apply below_drew1) | exact HB.out)⟩⟩
                                        · rw [if_neg c45] at H
                                          have c45b0 : ((bt (rdOf ByteArray.empty t105 x10_1) x26_3) == 46) = false := beq_eq_false_iff_ne.mpr c45
                                          have c45b1 : ((bt (rdOf ByteArray.empty t105 x10_1) x26_3) != 46) = true := bne_iff_ne.mpr c45
                                          obtain rfl := Option.some.inj H
                                          have p15 : 0 ≤ (x26_3 : Int) := of_decide_eq_true (by first | (with_reducible assumption) | assumption)
                                          have q15 : x26_3 < ((rdOf ByteArray.empty t105 x10_1).size : Int) := of_decide_eq_true (by first | (with_reducible assumption) | assumption)
                                          have hx15 := bt_at (rdOf ByteArray.empty t105 x10_1) x26_3
                                          replace p15 := eq_true p15
                                          replace q15 := eq_true q15
                                          go_wp2
                                          go_ret
                                          exact ⟨by first | rfl | (simp [errW_none, errW_some] <;> rfl) | (simp [*, errW_none, errW_some] <;> rfl), by repeat (first | (with_reducible first | exact HB.out | apply below_alloc | apply pw_below_drewN | apply below_drew1) | exact HB.out)⟩
                              · rw [if_neg c36] at H
                                have c36b0 : decide (65 ≤ (bt (rdOf ByteArray.empty t105 x10_1) x26_3)) = false := decide_eq_false c36
                                clear c36
                                by_cases c46 : (bt (rdOf ByteArray.empty t105 x10_1) x26_3) ≥ 48
                                · rw [if_pos c46] at H
                                  have c46b0 : decide (48 ≤ (bt (rdOf ByteArray.empty t105 x10_1) x26_3)) = true := decide_eq_true c46
                                  clear c46
                                  by_cases c47 : (bt (rdOf ByteArray.empty t105 x10_1) x26_3) ≤ 57
                                  · rw [if_pos c47] at H
                                    have c47b0 : decide ((bt (rdOf ByteArray.empty t105 x10_1) x26_3) ≤ 57) = true := decide_eq_true c47
                                    clear c47
                                    have H' := Aside0.mk H
                                    clear H
                                    have p15 : 0 ≤ (x26_3 : Int) := of_decide_eq_true (by first | (with_reducible assumption) | assumption)
                                    have q15 : x26_3 < ((rdOf ByteArray.empty t105 x10_1).size : Int) := of_decide_eq_true (by first | (with_reducible assumption) | assumption)
                                    have hx15 := bt_at (rdOf ByteArray.empty t105 x10_1) x26_3
                                    replace p15 := eq_true p15
                                    replace q15 := eq_true q15
                                    go_wp2
                                    go_roundg k3
                                    case measure => have := HK1.out; have := HJ7.out; have := HK3.out; omega
                                    case rel => exact ⟨(wrap64 (x26_3 + 1)), (by first | rfl | (simp; done) | (simp [*]; done)), H', ⟨by have := HK1.out; have := HJ7.out; have := HK3.out; omega⟩, ⟨by (with_reducible repeat (first | apply Kd.R_alloc | apply Kd.R_drewN | apply Kd.R_drew)); exact HO_8.out⟩, ⟨by repeat (first | (with_reducible first | exact HB.out | apply below_alloc | apply pw_below_drewN | apply below_drew1) | exact HB.out)⟩⟩
                                  · rw [if_neg c47] at H
                                    have c47b0 : decide ((bt (rdOf ByteArray.empty t105 x10_1) x26_3) ≤ 57) = false := decide_eq_false c47
                                    clear c47
                                    by_cases c48 : (bt (rdOf ByteArray.empty t105 x10_1) x26_3) = 45
                                    · rw [if_pos c48] at H
                                      have c48b0 : ((bt (rdOf ByteArray.empty t105 x10_1) x26_3) == 45) = true := beq_iff_eq.mpr c48
                                      have c48b1 : ((bt (rdOf ByteArray.empty t105 x10_1) x26_3) != 45) = false := bne_eq_false_iff_eq.mpr c48
                                      clear c48
                                      have H' := Aside0.mk H
                                      clear H
                                      have p15 : 0 ≤ (x26_3 : Int) := of_decide_eq_true (by first | (with_reducible assumption) | assumption)
                                      have q15 : x26_3 < ((rdOf ByteArray.empty t105 x10_1).size : Int) := of_decide_eq_true (by first | (with_reducible assumption) | assumption)
                                      have hx15 := bt_at (rdOf ByteArray.empty t105 x10_1) x26_3
                                      replace p15 := eq_true p15
                                      replace q15 := eq_true q15
                                      go_wp2
                                      go_roundg k3
                                      case measure => have := HK1.out; have := HJ7.out; have := HK3.out; omega
                                      case rel => exact ⟨(wrap64 (x26_3 + 1)), (by first | rfl | (simp; done) | (simp [*]; done)), H', ⟨by have := HK1.out; have := HJ7.out; have := HK3.out; omega⟩, ⟨by (with_reducible repeat (first | apply Kd.R_alloc | apply Kd.R_drewN | apply Kd.R_drew)); exact HO_8.out⟩, ⟨by repeat (first | (with_reducible first | exact HB.out | apply below_alloc | apply pw_below_drewN | apply below_drew1) | exact HB.out)⟩⟩
                                    · rw [if_neg c48] at H
                                      have c48b0 : ((bt (rdOf ByteArray.empty t105 x10_1) x26_3) == 45) = false := beq_eq_false_iff_ne.mpr c48
                                      have c48b1 : ((bt (rdOf ByteArray.empty t105 x10_1) x26_3) != 45) = true := bne_iff_ne.mpr c48
                                      by_cases c49 : (bt (rdOf ByteArray.empty t105 x10_1) x26_3) = 95
                                      · rw [if_pos c49] at H
                                        have c49b0 : ((bt (rdOf ByteArray.empty t105 x10_1) x26_3) == 95) = true := beq_iff_eq.mpr c49
                                        have c49b1 : ((bt (rdOf ByteArray.empty t105 x10_1) x26_3) != 95) = false := bne_eq_false_iff_eq.mpr c49
                                        clear c49
                                        have H' := Aside0.mk H
                                        clear H
                                        have p15 : 0 ≤ (x26_3 : Int) := of_decide_eq_true (by first | (with_reducible assumption) | assumption)
                                        have q15 : x26_3 < ((rdOf ByteArray.empty t105 x10_1).size : Int) := of_decide_eq_true (by first | (with_reducible assumption) | assumption)
                                        have hx15 := bt_at (rdOf ByteArray.empty t105 x10_1) x26_3
                                        replace p15 := eq_true p15
                                        replace q15 := eq_true q15
                                        go_wp2
                                        go_roundg k3
                                        case measure => have := HK1.out; have := HJ7.out; have := HK3.out; omega
                                        case rel => exact ⟨(wrap64 (x26_3 + 1)), (by first | rfl | (simp; done) | (simp [*]; done)), H', ⟨by have := HK1.out; have := HJ7.out; have := HK3.out; omega⟩, ⟨by (with_reducible repeat (first | apply Kd.R_alloc | apply Kd.R_drewN | apply Kd.R_drew)); exact HO_8.out⟩, ⟨by repeat (first | (with_reducible first | exact HB.out | apply below_alloc | apply pw_below_drewN | apply below_drew1) | exact HB.out)⟩⟩
                                      · rw [if_neg c49] at H
                                        have c49b0 : ((bt (rdOf ByteArray.empty t105 x10_1) x26_3) == 95) = false := beq_eq_false_iff_ne.mpr c49
                                        have c49b1 : ((bt (rdOf ByteArray.empty t105 x10_1) x26_3) != 95) = true := bne_iff_ne.mpr c49
                                        by_cases c50 : ((bt (rdOf ByteArray.empty t105 x10_1) x26_3) = 46)
                                        · rw [if_pos c50] at H
                                          have c50b0 : ((bt (rdOf ByteArray.empty t105 x10_1) x26_3) == 46) = true := beq_iff_eq.mpr c50
                                          have c50b1 : ((bt (rdOf ByteArray.empty t105 x10_1) x26_3) != 46) = false := bne_eq_false_iff_eq.mpr c50
                                          clear c50
                                          have H' := Aside0.mk H
                                          clear H
                                          have p15 : 0 ≤ (x26_3 : Int) := of_decide_eq_true (by first | (with_reducible assumption) | assumption)
                                          have q15 : x26_3 < ((rdOf ByteArray.empty t105 x10_1).size : Int) := of_decide_eq_true (by first | (with_reducible assumption) | assumption)
                                          have hx15 := bt_at (rdOf ByteArray.empty t105 x10_1) x26_3
                                          replace p15 := eq_true p15
                                          replace q15 := eq_true q15
                                          go_wp2
                                          go_roundg k3
                                          case measure => have := HK1.out; have := HJ7.out; have := HK3.out; omega
                                          case rel => exact ⟨(wrap64 (x26_3 + 1)), (by first | rfl | (simp; done) | (simp [*]; done)), H', ⟨by have := HK1.out; have := HJ7.out; have := HK3.out; omega⟩, ⟨by (with_reducible repeat (first | apply Kd.R_alloc | apply Kd.R_drewN | apply Kd.R_drew)); exact HO_8.out⟩, ⟨by repeat (first | (with_reducible first | exact HB.out | apply below_alloc | apply pw_below_drewN | apply below_drew1) | exact HB.out)⟩⟩
                                        · rw [if_neg c50] at H
                                          have c50b0 : ((bt (rdOf ByteArray.empty t105 x10_1) x26_3) == 46) = false := beq_eq_false_iff_ne.mpr c50
                                          have c50b1 : ((bt (rdOf ByteArray.empty t105 x10_1) x26_3) != 46) = true := bne_iff_ne.mpr c50
                                          obtain rfl := Option.some.inj H
                                          have p15 : 0 ≤ (x26_3 : Int) := of_decide_eq_true (by first | (with_reducible assumption) | assumption)
                                          have q15 : x26_3 < ((rdOf ByteArray.empty t105 x10_1).size : Int) := of_decide_eq_true (by first | (with_reducible assumption) | assumption)
                                          have hx15 := bt_at (rdOf ByteArray.empty t105 x10_1) x26_3
                                          replace p15 := eq_true p15
                                          replace q15 := eq_true q15
                                          go_wp2
                                          go_ret
                                          exact ⟨by first | rfl | (simp [errW_none, errW_some] <;> rfl) | (simp [*, errW_none, errW_some] <;> rfl), by repeat (first | (with_reducible first | exact HB.out | apply below_alloc | apply pw_below_drewN | apply below_drew1) | exact HB.out)⟩
                                · rw [if_neg c46] at H
                                  have c46b0 : decide (48 ≤ (bt (rdOf ByteArray.empty t105 x10_1) x26_3)) = false := decide_eq_false c46
                                  clear c46
                                  by_cases c51 : (bt (rdOf ByteArray.empty t105 x10_1) x26_3) = 45
                                  · rw [if_pos c51] at H
                                    have c51b0 : ((bt (rdOf ByteArray.empty t105 x10_1) x26_3) == 45) = true := beq_iff_eq.mpr c51
                                    have c51b1 : ((bt (rdOf ByteArray.empty t105 x10_1) x26_3) != 45) = false := bne_eq_false_iff_eq.mpr c51
                                    clear c51
                                    have H' := Aside0.mk H
                                    clear H
                                    have p15 : 0 ≤ (x26_3 : Int) := of_decide_eq_true (by first | (with_reducible assumption) | assumption)
                                    have q15 : x26_3 < ((rdOf ByteArray.empty t105 x10_1).size : Int) := of_decide_eq_true (by first | (with_reducible assumption) | assumption)
                                    have hx15 := bt_at (rdOf ByteArray.empty t105 x10_1) x26_3
                                    replace p15 := eq_true p15
                                    replace q15 := eq_true q15
                                    go_wp2
                                    go_roundg k3
                                    case measure => have := HK1.out; have := HJ7.out; have := HK3.out; omega
                                    case rel => exact ⟨(wrap64 (x26_3 + 1)), (by first | rfl | (simp; done) | (simp [*]; done)), H', ⟨by have := HK1.out; have := HJ7.out; have := HK3.out; omega⟩, ⟨by (with_reducible repeat (first | apply Kd.R_alloc | apply Kd.R_drewN | apply Kd.R_drew)); exact HO_8.out⟩, ⟨by repeat (first | (with_reducible first | exact HB.out | apply below_alloc | apply pw_below_drewN | apply below_drew1) | exact HB.out)⟩⟩
                                  · rw [if_neg c51] at H
                                    have c51b0 : ((bt (rdOf ByteArray.empty t105 x10_1) x26_3) == 45) = false := beq_eq_false_iff_ne.mpr c51
                                    have c51b1 : ((bt (rdOf ByteArray.empty t105 x10_1) x26_3) != 45) = true := bne_iff_ne.mpr c51
                                    by_cases c52 : (bt (rdOf ByteArray.empty t105 x10_1) x26_3) = 95
                                    · rw [if_pos c52] at H
                                      have c52b0 : ((bt (rdOf ByteArray.empty t105 x10_1) x26_3) == 95) = true := beq_iff_eq.mpr c52
                                      have c52b1 : ((bt (rdOf ByteArray.empty t105 x10_1) x26_3) != 95) = false := bne_eq_false_iff_eq.mpr c52
                                      clear c52
                                      have H' := Aside0.mk H
                                      clear H
                                      have p15 : 0 ≤ (x26_3 : Int) := of_decide_eq_true (by first | (with_reducible assumption) | assumption)
                                      have q15 : x26_3 < ((rdOf ByteArray.empty t105 x10_1).size : Int) := of_decide_eq_true (by first | (with_reducible assumption) | assumption)
                                      have hx15 := bt_at (rdOf ByteArray.empty t105 x10_1) x26_3
                                      replace p15 := eq_true p15
                                      replace q15 := eq_true q15
                                      go_wp2
                                      go_roundg k3
                                      case measure => have := HK1.out; have := HJ7.out; have := HK3.out; omega
                                      case rel => exact ⟨(wrap64 (x26_3 + 1)), (by first | rfl | (simp; done) | (simp [*]; done)), H', ⟨by have := HK1.out; have := HJ7.out; have := HK3.out; omega⟩, ⟨by (with_reducible repeat (first | apply Kd.R_alloc | apply Kd.R_drewN | apply Kd.R_drew)); exact HO_8.out⟩, ⟨by repeat (first | (with_reducible first | exact HB.out | apply below_alloc | apply pw_below_drewN | apply below_drew1) | exact HB.out)⟩⟩
                                    · rw [if_neg c52] at H
                                      have c52b0 : ((bt (rdOf ByteArray.empty t105 x10_1) x26_3) == 95) = false := beq_eq_false_iff_ne.mpr c52
                                      have c52b1 : ((bt (rdOf ByteArray.empty t105 x10_1) x26_3) != 95) = true := bne_iff_ne.mpr c52
                                      by_cases c53 : ((bt (rdOf ByteArray.empty t105 x10_1) x26_3) = 46)
                                      · rw [if_pos c53] at H
                                        have c53b0 : ((bt (rdOf ByteArray.empty t105 x10_1) x26_3) == 46) = true := beq_iff_eq.mpr c53
                                        have c53b1 : ((bt (rdOf ByteArray.empty t105 x10_1) x26_3) != 46) = false := bne_eq_false_iff_eq.mpr c53
                                        clear c53
                                        have H' := Aside0.mk H
                                        clear H
                                        have p15 : 0 ≤ (x26_3 : Int) := of_decide_eq_true (by first | (with_reducible assumption) | assumption)
                                        have q15 : x26_3 < ((rdOf ByteArray.empty t105 x10_1).size : Int) := of_decide_eq_true (by first | (with_reducible assumption) | assumption)
                                        have hx15 := bt_at (rdOf ByteArray.empty t105 x10_1) x26_3
                                        replace p15 := eq_true p15
                                        replace q15 := eq_true q15
                                        go_wp2
                                        go_roundg k3
                                        case measure => have := HK1.out; have := HJ7.out; have := HK3.out; omega
                                        case rel => exact ⟨(wrap64 (x26_3 + 1)), (by first | rfl | (simp; done) | (simp [*]; done)), H', ⟨by have := HK1.out; have := HJ7.out; have := HK3.out; omega⟩, ⟨by (with_reducible repeat (first | apply Kd.R_alloc | apply Kd.R_drewN | apply Kd.R_drew)); exact HO_8.out⟩, ⟨by repeat (first | (with_reducible first | exact HB.out | apply below_alloc | apply pw_below_drewN | apply below_drew1) | exact HB.out)⟩⟩
                                      · rw [if_neg c53] at H
                                        have c53b0 : ((bt (rdOf ByteArray.empty t105 x10_1) x26_3) == 46) = false := beq_eq_false_iff_ne.mpr c53
                                        have c53b1 : ((bt (rdOf ByteArray.empty t105 x10_1) x26_3) != 46) = true := bne_iff_ne.mpr c53
                                        obtain rfl := Option.some.inj H
                                        have p15 : 0 ≤ (x26_3 : Int) := of_decide_eq_true (by first | (with_reducible assumption) | assumption)
                                        have q15 : x26_3 < ((rdOf ByteArray.empty t105 x10_1).size : Int) := of_decide_eq_true (by first | (with_reducible assumption) | assumption)
                                        have hx15 := bt_at (rdOf ByteArray.empty t105 x10_1) x26_3
                                        replace p15 := eq_true p15
                                        replace q15 := eq_true q15
                                        go_wp2
                                        go_ret
                                        exact ⟨by first | rfl | (simp [errW_none, errW_some] <;> rfl) | (simp [*, errW_none, errW_some] <;> rfl), by repeat (first | (with_reducible first | exact HB.out | apply below_alloc | apply pw_below_drewN | apply below_drew1) | exact HB.out)⟩
                          · rw [if_neg c14] at H
                            exact absurd H (by simp)
                        · rw [if_neg c13] at H
                          exact absurd H (by simp)
                      · rw [if_neg c12] at H
                        have c12b0 : decide (x26_3 < ((rdOf ByteArray.empty t105 x10_1).size : Int)) = false := decide_eq_false c12
                        clear c12
                        have H' := Aside0.mk H
                        clear H
                        go_wp2
                        go_roundg k3
                        case measure => have := HK1.out; have := HJ7.out; have := HK3.out; omega
                        case rel => exact ⟨(wrap64 (x10_1 + 1)), (by first | rfl | (simp; done) | (simp [*]; done)), H', ⟨by have := HK1.out; have := HJ7.out; have := HK3.out; omega⟩, ⟨by (with_reducible repeat (first | apply Kd.R_alloc | apply Kd.R_drewN | apply Kd.R_drew)); exact HO_8.out⟩, ⟨by repeat (first | (with_reducible first | exact HB.out | apply below_alloc | apply pw_below_drewN | apply below_drew1) | exact HB.out)⟩⟩
          · rw [if_neg c7] at H
            exact absurd H (by simp)
        · rw [if_neg c6] at H
          exact absurd H (by simp)
      · rw [if_neg c5] at H
        have c5b0 : decide (x10_1 < (t105.length : Int)) = false := decide_eq_false c5
        clear c5
        obtain rfl := Option.some.inj H
        go_wp2
        go_ret
        exact ⟨by first | rfl | (simp [errW_none, errW_some] <;> rfl) | (simp [*, errW_none, errW_some] <;> rfl), by repeat (first | (with_reducible first | exact HB.out | apply below_alloc | apply pw_below_drewN | apply below_drew1) | exact HB.out)⟩

end Go.Proofs.YtloboklomhlkhaaGreatDoor.D
