-- Written by wip/xprint.py: the kit's print with functions proved by hand in their places. Not trusted: Lean checks it.
import Derived.Test.YtloboklomhlkhabGreatDoorEx0
import Derived.Test.YtloboklomhlkhabGreatDoorEx1
import Derived.Test.YtloboklomhlkhabGreatDoorEx2
namespace Go.Proofs.YtloboklomhlkhabGreatDoor.E
open Go.RowKit Go.Proofs.YtloboklomhlkhabGreatDoorW.PrintWords Go.Proofs.YtloboklomhlkhabGreatDoorW.PrintLast Go.Proofs.YtloboklomhlkhabGreatDoorW.PrintMore
attribute [local go_sem] max2_int min2_int max_two min_two max_three min_three max_four min_four   -- for this text's walks alone
set_option linter.unusedVariables false
set_option linter.unusedSimpArgs false

/-! ### expand_name: function 14 -/
def expand_name.j0 : Nat → ByteArray → Int → Option (ByteArray × Int × Bool)
  | 0, _, _ => none
  | k + 1, x0, x5 => (expand_run.f k x0).bind fun t103 => (if t103 = 0 then (some ((⟨#[]⟩ : ByteArray), 0, false)) else (if t103 > 24 then (some ((⟨#[]⟩ : ByteArray), 0, false)) else (if x5 > 0 then (if 0 ≤ t103 then (if t103 ≤ (x0.size : Int) then ((strings_HasPrefix.f (x0.extract (t103 : Int).toNat x0.size) (⟨#[125]⟩ : ByteArray)).bind fun t104 => (if t104 = true then (some (x0.extract 0 (t103 : Int).toNat, wrap64 (t103 + x5), true)) else (some ((⟨#[]⟩ : ByteArray), 0, false)))) else (none)) else (none)) else (if 0 ≤ t103 then (if t103 ≤ (x0.size : Int) then (some (x0.extract 0 (t103 : Int).toNat, wrap64 (t103 + x5), true)) else (none)) else (none)))))
def expand_name.f (k : Nat) (a0 : ByteArray) : Option (ByteArray × Int × Bool) := (strings_HasPrefix.f a0 (⟨#[123]⟩ : ByteArray)).bind fun t102 => (if t102 = true then (if 1 ≤ (a0.size : Int) then (expand_name.j0 k (a0.extract 1 a0.size) 2) else (none)) else (expand_name.j0 k a0 0))
theorem expand_name.mono_l : ∀ k, (∀ y0 y1, LeO (expand_name.j0 k y0 y1) (expand_name.j0 (k + 1) y0 y1))
  | 0 => fun _ _ r h => by simp [expand_name.j0] at h
  | k + 1 => by
    have ih0 := expand_name.mono_l k
    · intro y0 y1
      unfold expand_name.j0
      repeat' first
      | (with_reducible exact ih0 _ _)
      | (with_reducible exact expand_run.mono _ _)
      | (with_reducible exact LeO.refl _)
      | (with_reducible exact LeO.none _)
      | (with_reducible refine LeO.ite ?_ ?_)
      | (with_reducible refine LeO.bind ?_ (fun _ => ?_))
      | exact ih0 _ _
      | exact expand_run.mono _ _
      | exact LeO.none _
      | refine LeO.ite ?_ ?_
      | refine LeO.bind ?_ (fun _ => ?_)
theorem expand_name.mono : ∀ a0 k, LeO (expand_name.f k a0) (expand_name.f (k + 1) a0) := by
  intro a0 k
  have ih0 := expand_name.mono_l k
  unfold expand_name.f
  repeat' first
      | (with_reducible exact ih0 _ _)
      | (with_reducible exact expand_run.mono _ _)
      | (with_reducible exact LeO.refl _)
      | (with_reducible exact LeO.none _)
      | (with_reducible refine LeO.ite ?_ ?_)
      | (with_reducible refine LeO.bind ?_ (fun _ => ?_))
      | exact ih0 _ _
      | exact expand_run.mono _ _
      | exact LeO.none _
      | refine LeO.ite ?_ ?_
      | refine LeO.bind ?_ (fun _ => ?_)
set_option maxHeartbeats 8000000 in
set_option maxRecDepth 100000 in
theorem expand_name.calls (k : Nat) (a0 : ByteArray) (r1 : ByteArray) (r2 : Int) (r3 : Bool) (w : World) (h : expand_name.f k a0 = some (r1, r2, r3)) :
    Calls Tryz.prog 14 #[.string a0] w fun e w' => e = .returned (.tuple #[.string r1, .int .i64 r2, .bool r3]) ∧ Drawn0 w w' := by
  have H : ((strings_HasPrefix.f a0 (⟨#[123]⟩ : ByteArray)).bind fun t102 => (if t102 = true then (if 1 ≤ (a0.size : Int) then (expand_name.j0 k (a0.extract 1 a0.size) 2) else (none)) else (expand_name.j0 k a0 0))) = some (r1, r2, r3) := h
  clear h
  replace H := Option.bind_eq_some_iff.mp H
  obtain ⟨t102, A20, H⟩ := H
  replace H : (if t102 = true then (if 1 ≤ (a0.size : Int) then (expand_name.j0 k (a0.extract 1 a0.size) 2) else (none)) else (expand_name.j0 k a0 0)) = some (r1, r2, r3) := H
  have A2 := Aside0.mk A20
  clear A20
  have HC3 := Aside0.mk H
  clear H
  go_enter Tryz.func14, Tryz.ntmps14
  go_upto_if 8 with (first | (go_at_call 12; (with_reducible refine (strings_HasPrefix.calls a0 (⟨#[123]⟩ : ByteArray) t102 _ A2.out).mono ?_); rintro e w' ⟨rfl, ⟨nd, rfl⟩⟩; (try first | exact ⟨rfl, _, World.drewN_drewN _ _ _⟩ | exact ⟨rfl, _, Eq.trans (World.drewN_drewN _ _ _) (congrArg (World.drewN _) (Nat.add_assoc _ _ _))⟩)))
  repeat (go_quiet (first | (go_at_call 12; (with_reducible refine (strings_HasPrefix.calls a0 (⟨#[123]⟩ : ByteArray) t102 _ A2.out).mono ?_); rintro e w' ⟨rfl, ⟨nd, rfl⟩⟩; (try first | exact ⟨rfl, _, World.drewN_drewN _ _ _⟩ | exact ⟨rfl, _, Eq.trans (World.drewN_drewN _ _ _) (congrArg (World.drewN _) (Nat.add_assoc _ _ _))⟩))); go_upto_if 8 with (first | (go_at_call 12; (with_reducible refine (strings_HasPrefix.calls a0 (⟨#[123]⟩ : ByteArray) t102 _ A2.out).mono ?_); rintro e w' ⟨rfl, ⟨nd, rfl⟩⟩; (try first | exact ⟨rfl, _, World.drewN_drewN _ _ _⟩ | exact ⟨rfl, _, Eq.trans (World.drewN_drewN _ _ _) (congrArg (World.drewN _) (Nat.add_assoc _ _ _))⟩))))
  (try simp only [Act.put, List.setIfInBounds_toArray, List.set_cons_zero, List.set_cons_succ])
  go_cut [0, 5] (fun v0 v5 wc => ∃ (kq : Nat) (x0_2 : ByteArray) (x5_2 : Int), v0 = .string x0_2 ∧ v5 = .int .i64 x5_2 ∧ Aside0 (expand_name.j0 kq x0_2 x5_2 = some (r1, r2, r3)) ∧ Aside0 (kq ≤ k) ∧ Drawn0 w wc)
  case first =>
    have H := HC3.out
    clear HC3
    by_cases c4 : t102 = true
    · subst c4
      have H1 : (if 1 ≤ (a0.size : Int) then (expand_name.j0 k (a0.extract 1 a0.size) 2) else (none)) = some (r1, r2, r3) := by rw [if_pos rfl] at H; exact H
      clear H
      have H := H1
      clear H1
      by_cases c5 : 1 ≤ (a0.size : Int)
      · rw [if_pos c5] at H
        have c5b0 := eq_true c5
        have c5b1 : decide (1 ≤ (a0.size : Int)) = true := decide_eq_true c5
        clear c5
        have H' := Aside0.mk H
        clear H
        go_wp2
        repeat (go_quiet (fail); try go_wp2)
        go_meet
        case rel => exact ⟨_, (a0.extract 1 a0.size), (2), (by first | rfl | (simp; done) | (simp [*]; done)), (by first | rfl | (simp; done) | (simp [*]; done)), H', ⟨by first | omega | exact Nat.le_refl _⟩, by repeat (first | exact Drawn0.refl _ | apply Drawn0.step)⟩
      · rw [if_neg c5] at H
        exact absurd H (by simp)
    · replace c4 := Bool.eq_false_iff.mpr c4
      subst c4
      have H1 : (expand_name.j0 k a0 0) = some (r1, r2, r3) := by rw [if_neg (show ¬ (false = true) by decide)] at H; exact H
      clear H
      have H := H1
      clear H1
      have H' := Aside0.mk H
      clear H
      go_wp2
      repeat (go_quiet (fail); try go_wp2)
      go_meet
      case rel => exact ⟨_, (a0), (0), (by first | rfl | (simp; done) | (simp [*]; done)), (by first | rfl | (simp; done) | (simp [*]; done)), H', ⟨by first | omega | exact Nat.le_refl _⟩, by repeat (first | exact Drawn0.refl _ | apply Drawn0.step)⟩
  case rest =>
    clear HC3
    try clear c1
    try clear p2
    try clear c4
    try clear c5
    try clear c5b0
    try clear c5b1
    obtain ⟨kq, x0_2, x5_2, rfl, rfl, HA, HJ2, ⟨mc2, rfl⟩⟩ := hcut
    cases kq with
    | zero => exact absurd HA.out (by simp [expand_name.j0])
    | succ kj2 =>
      have H := HA.out
      clear HA
      simp only [expand_name.j0] at H
      replace H := Option.bind_eq_some_iff.mp H
      obtain ⟨t103, A60, H⟩ := H
      replace H : (if t103 = 0 then (some ((⟨#[]⟩ : ByteArray), 0, false)) else (if t103 > 24 then (some ((⟨#[]⟩ : ByteArray), 0, false)) else (if x5_2 > 0 then (if 0 ≤ t103 then (if t103 ≤ (x0_2.size : Int) then ((strings_HasPrefix.f (x0_2.extract (t103 : Int).toNat x0_2.size) (⟨#[125]⟩ : ByteArray)).bind fun t104 => (if t104 = true then (some (x0_2.extract 0 (t103 : Int).toNat, wrap64 (t103 + x5_2), true)) else (some ((⟨#[]⟩ : ByteArray), 0, false)))) else (none)) else (none)) else (if 0 ≤ t103 then (if t103 ≤ (x0_2.size : Int) then (some (x0_2.extract 0 (t103 : Int).toNat, wrap64 (t103 + x5_2), true)) else (none)) else (none))))) = some (r1, r2, r3) := H
      have A6 := Aside0.mk A60
      clear A60
      by_cases c7 : t103 = 0
      · rw [if_pos c7] at H
        have c7b0 : (t103 == 0) = true := beq_iff_eq.mpr c7
        have c7b1 : (t103 != 0) = false := bne_eq_false_iff_eq.mpr c7
        clear c7
        simp only [Option.some.injEq, Prod.mk.injEq] at H
        obtain ⟨rfl, rfl, rfl⟩ := H
        go_wp2_with (first | (go_at_call 26; (with_reducible refine (expand_run.calls kj2 x0_2 t103 _ A6.out).mono ?_); rintro e w' ⟨rfl, ⟨nd, rfl⟩⟩; (try first | exact ⟨rfl, _, World.drewN_drewN _ _ _⟩ | exact ⟨rfl, _, Eq.trans (World.drewN_drewN _ _ _) (congrArg (World.drewN _) (Nat.add_assoc _ _ _))⟩)))
        repeat (go_quiet (first | (go_at_call 26; (with_reducible refine (expand_run.calls kj2 x0_2 t103 _ A6.out).mono ?_); rintro e w' ⟨rfl, ⟨nd, rfl⟩⟩; (try first | exact ⟨rfl, _, World.drewN_drewN _ _ _⟩ | exact ⟨rfl, _, Eq.trans (World.drewN_drewN _ _ _) (congrArg (World.drewN _) (Nat.add_assoc _ _ _))⟩))); try go_wp2_with (first | (go_at_call 26; (with_reducible refine (expand_run.calls kj2 x0_2 t103 _ A6.out).mono ?_); rintro e w' ⟨rfl, ⟨nd, rfl⟩⟩; (try first | exact ⟨rfl, _, World.drewN_drewN _ _ _⟩ | exact ⟨rfl, _, Eq.trans (World.drewN_drewN _ _ _) (congrArg (World.drewN _) (Nat.add_assoc _ _ _))⟩))))
        go_ret3
        exact ⟨by first | rfl | (simp; done) | (simp [*]; done), by repeat (first | exact Drawn0.refl _ | apply Drawn0.step)⟩
      · rw [if_neg c7] at H
        have c7b0 : (t103 == 0) = false := beq_eq_false_iff_ne.mpr c7
        have c7b1 : (t103 != 0) = true := bne_iff_ne.mpr c7
        by_cases c8 : t103 > 24
        · rw [if_pos c8] at H
          have c8b0 : decide (24 < t103) = true := decide_eq_true c8
          clear c8
          simp only [Option.some.injEq, Prod.mk.injEq] at H
          obtain ⟨rfl, rfl, rfl⟩ := H
          go_wp2_with (first | (go_at_call 26; (with_reducible refine (expand_run.calls kj2 x0_2 t103 _ A6.out).mono ?_); rintro e w' ⟨rfl, ⟨nd, rfl⟩⟩; (try first | exact ⟨rfl, _, World.drewN_drewN _ _ _⟩ | exact ⟨rfl, _, Eq.trans (World.drewN_drewN _ _ _) (congrArg (World.drewN _) (Nat.add_assoc _ _ _))⟩)))
          repeat (go_quiet (first | (go_at_call 26; (with_reducible refine (expand_run.calls kj2 x0_2 t103 _ A6.out).mono ?_); rintro e w' ⟨rfl, ⟨nd, rfl⟩⟩; (try first | exact ⟨rfl, _, World.drewN_drewN _ _ _⟩ | exact ⟨rfl, _, Eq.trans (World.drewN_drewN _ _ _) (congrArg (World.drewN _) (Nat.add_assoc _ _ _))⟩))); try go_wp2_with (first | (go_at_call 26; (with_reducible refine (expand_run.calls kj2 x0_2 t103 _ A6.out).mono ?_); rintro e w' ⟨rfl, ⟨nd, rfl⟩⟩; (try first | exact ⟨rfl, _, World.drewN_drewN _ _ _⟩ | exact ⟨rfl, _, Eq.trans (World.drewN_drewN _ _ _) (congrArg (World.drewN _) (Nat.add_assoc _ _ _))⟩))))
          go_ret3
          exact ⟨by first | rfl | (simp; done) | (simp [*]; done), by repeat (first | exact Drawn0.refl _ | apply Drawn0.step)⟩
        · rw [if_neg c8] at H
          have c8b0 : decide (24 < t103) = false := decide_eq_false c8
          clear c8
          by_cases c9 : x5_2 > 0
          · rw [if_pos c9] at H
            have c9b0 : decide (0 < x5_2) = true := decide_eq_true c9
            clear c9
            by_cases c10 : 0 ≤ t103
            · rw [if_pos c10] at H
              have c10b0 := eq_true c10
              have c10b1 : decide (0 ≤ t103) = true := decide_eq_true c10
              clear c10
              by_cases c11 : t103 ≤ (x0_2.size : Int)
              · rw [if_pos c11] at H
                have c11b0 := eq_true c11
                have c11b1 : decide (t103 ≤ (x0_2.size : Int)) = true := decide_eq_true c11
                clear c11
                replace H := Option.bind_eq_some_iff.mp H
                obtain ⟨t104, A120, H⟩ := H
                replace H : (if t104 = true then (some (x0_2.extract 0 (t103 : Int).toNat, wrap64 (t103 + x5_2), true)) else (some ((⟨#[]⟩ : ByteArray), 0, false))) = some (r1, r2, r3) := H
                have A12 := Aside0.mk A120
                clear A120
                by_cases c13 : t104 = true
                · subst c13
                  have H1 : (some (x0_2.extract 0 (t103 : Int).toNat, wrap64 (t103 + x5_2), true)) = some (r1, r2, r3) := by rw [if_pos rfl] at H; exact H
                  clear H
                  have H := H1
                  clear H1
                  have c14b0 := eq_true (of_decide_eq_true (by first | (with_reducible assumption) | assumption) : 0 ≤ t103)
                  have c15b0 := eq_true (of_decide_eq_true (by first | (with_reducible assumption) | assumption) : t103 ≤ (x0_2.size : Int))
                  simp only [Option.some.injEq, Prod.mk.injEq] at H
                  obtain ⟨rfl, rfl, rfl⟩ := H
                  go_wp2_with (first | (go_at_call 26; (with_reducible refine (expand_run.calls kj2 x0_2 t103 _ A6.out).mono ?_); rintro e w' ⟨rfl, ⟨nd, rfl⟩⟩; (try first | exact ⟨rfl, _, World.drewN_drewN _ _ _⟩ | exact ⟨rfl, _, Eq.trans (World.drewN_drewN _ _ _) (congrArg (World.drewN _) (Nat.add_assoc _ _ _))⟩)) | (go_at_call 12; (with_reducible refine (strings_HasPrefix.calls (x0_2.extract (t103 : Int).toNat x0_2.size) (⟨#[125]⟩ : ByteArray) true _ A12.out).mono ?_); rintro e w' ⟨rfl, ⟨nd, rfl⟩⟩; (try first | exact ⟨rfl, _, World.drewN_drewN _ _ _⟩ | exact ⟨rfl, _, Eq.trans (World.drewN_drewN _ _ _) (congrArg (World.drewN _) (Nat.add_assoc _ _ _))⟩)))
                  repeat (go_quiet (first | (go_at_call 26; (with_reducible refine (expand_run.calls kj2 x0_2 t103 _ A6.out).mono ?_); rintro e w' ⟨rfl, ⟨nd, rfl⟩⟩; (try first | exact ⟨rfl, _, World.drewN_drewN _ _ _⟩ | exact ⟨rfl, _, Eq.trans (World.drewN_drewN _ _ _) (congrArg (World.drewN _) (Nat.add_assoc _ _ _))⟩)) | (go_at_call 12; (with_reducible refine (strings_HasPrefix.calls (x0_2.extract (t103 : Int).toNat x0_2.size) (⟨#[125]⟩ : ByteArray) true _ A12.out).mono ?_); rintro e w' ⟨rfl, ⟨nd, rfl⟩⟩; (try first | exact ⟨rfl, _, World.drewN_drewN _ _ _⟩ | exact ⟨rfl, _, Eq.trans (World.drewN_drewN _ _ _) (congrArg (World.drewN _) (Nat.add_assoc _ _ _))⟩))); try go_wp2_with (first | (go_at_call 26; (with_reducible refine (expand_run.calls kj2 x0_2 t103 _ A6.out).mono ?_); rintro e w' ⟨rfl, ⟨nd, rfl⟩⟩; (try first | exact ⟨rfl, _, World.drewN_drewN _ _ _⟩ | exact ⟨rfl, _, Eq.trans (World.drewN_drewN _ _ _) (congrArg (World.drewN _) (Nat.add_assoc _ _ _))⟩)) | (go_at_call 12; (with_reducible refine (strings_HasPrefix.calls (x0_2.extract (t103 : Int).toNat x0_2.size) (⟨#[125]⟩ : ByteArray) true _ A12.out).mono ?_); rintro e w' ⟨rfl, ⟨nd, rfl⟩⟩; (try first | exact ⟨rfl, _, World.drewN_drewN _ _ _⟩ | exact ⟨rfl, _, Eq.trans (World.drewN_drewN _ _ _) (congrArg (World.drewN _) (Nat.add_assoc _ _ _))⟩))))
                  go_ret3
                  exact ⟨by first | rfl | (simp; done) | (simp [*]; done), by repeat (first | exact Drawn0.refl _ | apply Drawn0.step)⟩
                · replace c13 := Bool.eq_false_iff.mpr c13
                  subst c13
                  have H1 : (some ((⟨#[]⟩ : ByteArray), 0, false)) = some (r1, r2, r3) := by rw [if_neg (show ¬ (false = true) by decide)] at H; exact H
                  clear H
                  have H := H1
                  clear H1
                  simp only [Option.some.injEq, Prod.mk.injEq] at H
                  obtain ⟨rfl, rfl, rfl⟩ := H
                  go_wp2_with (first | (go_at_call 26; (with_reducible refine (expand_run.calls kj2 x0_2 t103 _ A6.out).mono ?_); rintro e w' ⟨rfl, ⟨nd, rfl⟩⟩; (try first | exact ⟨rfl, _, World.drewN_drewN _ _ _⟩ | exact ⟨rfl, _, Eq.trans (World.drewN_drewN _ _ _) (congrArg (World.drewN _) (Nat.add_assoc _ _ _))⟩)) | (go_at_call 12; (with_reducible refine (strings_HasPrefix.calls (x0_2.extract (t103 : Int).toNat x0_2.size) (⟨#[125]⟩ : ByteArray) false _ A12.out).mono ?_); rintro e w' ⟨rfl, ⟨nd, rfl⟩⟩; (try first | exact ⟨rfl, _, World.drewN_drewN _ _ _⟩ | exact ⟨rfl, _, Eq.trans (World.drewN_drewN _ _ _) (congrArg (World.drewN _) (Nat.add_assoc _ _ _))⟩)))
                  repeat (go_quiet (first | (go_at_call 26; (with_reducible refine (expand_run.calls kj2 x0_2 t103 _ A6.out).mono ?_); rintro e w' ⟨rfl, ⟨nd, rfl⟩⟩; (try first | exact ⟨rfl, _, World.drewN_drewN _ _ _⟩ | exact ⟨rfl, _, Eq.trans (World.drewN_drewN _ _ _) (congrArg (World.drewN _) (Nat.add_assoc _ _ _))⟩)) | (go_at_call 12; (with_reducible refine (strings_HasPrefix.calls (x0_2.extract (t103 : Int).toNat x0_2.size) (⟨#[125]⟩ : ByteArray) false _ A12.out).mono ?_); rintro e w' ⟨rfl, ⟨nd, rfl⟩⟩; (try first | exact ⟨rfl, _, World.drewN_drewN _ _ _⟩ | exact ⟨rfl, _, Eq.trans (World.drewN_drewN _ _ _) (congrArg (World.drewN _) (Nat.add_assoc _ _ _))⟩))); try go_wp2_with (first | (go_at_call 26; (with_reducible refine (expand_run.calls kj2 x0_2 t103 _ A6.out).mono ?_); rintro e w' ⟨rfl, ⟨nd, rfl⟩⟩; (try first | exact ⟨rfl, _, World.drewN_drewN _ _ _⟩ | exact ⟨rfl, _, Eq.trans (World.drewN_drewN _ _ _) (congrArg (World.drewN _) (Nat.add_assoc _ _ _))⟩)) | (go_at_call 12; (with_reducible refine (strings_HasPrefix.calls (x0_2.extract (t103 : Int).toNat x0_2.size) (⟨#[125]⟩ : ByteArray) false _ A12.out).mono ?_); rintro e w' ⟨rfl, ⟨nd, rfl⟩⟩; (try first | exact ⟨rfl, _, World.drewN_drewN _ _ _⟩ | exact ⟨rfl, _, Eq.trans (World.drewN_drewN _ _ _) (congrArg (World.drewN _) (Nat.add_assoc _ _ _))⟩))))
                  go_ret3
                  exact ⟨by first | rfl | (simp; done) | (simp [*]; done), by repeat (first | exact Drawn0.refl _ | apply Drawn0.step)⟩
              · rw [if_neg c11] at H
                exact absurd H (by simp)
            · rw [if_neg c10] at H
              exact absurd H (by simp)
          · rw [if_neg c9] at H
            have c9b0 : decide (0 < x5_2) = false := decide_eq_false c9
            clear c9
            by_cases c16 : 0 ≤ t103
            · rw [if_pos c16] at H
              have c16b0 := eq_true c16
              have c16b1 : decide (0 ≤ t103) = true := decide_eq_true c16
              clear c16
              by_cases c17 : t103 ≤ (x0_2.size : Int)
              · rw [if_pos c17] at H
                have c17b0 := eq_true c17
                have c17b1 : decide (t103 ≤ (x0_2.size : Int)) = true := decide_eq_true c17
                clear c17
                simp only [Option.some.injEq, Prod.mk.injEq] at H
                obtain ⟨rfl, rfl, rfl⟩ := H
                go_wp2_with (first | (go_at_call 26; (with_reducible refine (expand_run.calls kj2 x0_2 t103 _ A6.out).mono ?_); rintro e w' ⟨rfl, ⟨nd, rfl⟩⟩; (try first | exact ⟨rfl, _, World.drewN_drewN _ _ _⟩ | exact ⟨rfl, _, Eq.trans (World.drewN_drewN _ _ _) (congrArg (World.drewN _) (Nat.add_assoc _ _ _))⟩)))
                repeat (go_quiet (first | (go_at_call 26; (with_reducible refine (expand_run.calls kj2 x0_2 t103 _ A6.out).mono ?_); rintro e w' ⟨rfl, ⟨nd, rfl⟩⟩; (try first | exact ⟨rfl, _, World.drewN_drewN _ _ _⟩ | exact ⟨rfl, _, Eq.trans (World.drewN_drewN _ _ _) (congrArg (World.drewN _) (Nat.add_assoc _ _ _))⟩))); try go_wp2_with (first | (go_at_call 26; (with_reducible refine (expand_run.calls kj2 x0_2 t103 _ A6.out).mono ?_); rintro e w' ⟨rfl, ⟨nd, rfl⟩⟩; (try first | exact ⟨rfl, _, World.drewN_drewN _ _ _⟩ | exact ⟨rfl, _, Eq.trans (World.drewN_drewN _ _ _) (congrArg (World.drewN _) (Nat.add_assoc _ _ _))⟩))))
                go_ret3
                exact ⟨by first | rfl | (simp; done) | (simp [*]; done), by repeat (first | exact Drawn0.refl _ | apply Drawn0.step)⟩
              · rw [if_neg c17] at H
                exact absurd H (by simp)
            · rw [if_neg c16] at H
              exact absurd H (by simp)

theorem sizeBuilder : (Tryz.prog.info? 48).map (·.size) = some 2 := by kernel_rfl
theorem liesBuilder : liesAt Tryz.prog Tryz.prog.depth 48 (2 / Tryz.prog.cellsOf 48) 0 48 1 = true := by kernel_rfl
theorem infoByte : (Tryz.prog.info? 5).map (fun i => (i.zero, i.size, i.bytes)) = some (some (.int .u8 0), 1, 1) := by kernel_rfl

set_option maxHeartbeats 1000000 in
set_option maxRecDepth 100000 in
theorem copyCheck_used (b : Nat) (w : World) (h0 : w.cell? ⟨b, 0, none⟩ = some (.pointer (some ⟨b, 0, none⟩))) :
    Calls Tryz.prog 24 #[.pointer (some ⟨b, 0, none⟩)] w fun e w' => e = .returned (.tuple #[]) ∧ w' = w := by
  obtain ⟨j, hj, _⟩ := Option.map_eq_some_iff.1 sizeBuilder
  go_enter Tryz.func24, Tryz.ntmps24
  go_wp2
  rw [Lib.run_neq_ptr_same w _ Tryz.underlying45 hj]
  go_wp2
  go_end0
  exact ⟨rfl, rfl⟩

set_option maxHeartbeats 1000000 in
set_option maxRecDepth 100000 in
theorem copyCheck_fresh (b : Nat) (w : World) (h0 : w.cell? ⟨b, 0, none⟩ = some (.pointer none)) (hsh : w.shape? b = some (48, 2)) (hfz : w.frozen? ⟨b, 0, none⟩ = false) :
    Calls Tryz.prog 24 #[.pointer (some ⟨b, 0, none⟩)] w fun e w' => e = .returned (.tuple #[]) ∧ w' = w.setCell ⟨b, 0, none⟩ (.pointer (some ⟨b, 0, none⟩)) := by
  obtain ⟨j, hj, hjs⟩ := Option.map_eq_some_iff.1 sizeBuilder
  go_enter Tryz.func24, Tryz.ntmps24
  go_wp2
  rw [Lib.run_to_unsafe w ⟨b, 0, none⟩ Tryz.underlying45 Tryz.underlying98 hj (by rw [hjs]; decide) hsh (Nat.zero_lt_succ 1)]
  simp only [Result.andThen]
  rw [Oper.upon_value]
  go_wp2
  rw [run_callFunc_extern Tryz.func35 (by kernel_rfl) (by kernel_rfl) (by kernel_rfl) (e := Extern.AbiNoEscape.same) (by kernel_rfl)]
  rw [Lib.run_noEscape]
  simp only [Result.andThen]
  rw [Oper.upon_value]
  go_wp2
  rw [Lib.run_from_unsafe w ⟨b, 0, none⟩ Tryz.underlying98 Tryz.underlying45 hj hsh liesBuilder]
  simp only [Result.andThen]
  rw [Oper.upon_value]
  go_wp2
  go_end0
  exact ⟨rfl, rfl⟩

theorem copyCheck_k (B b : Nat) (bs : List Value) (w : World) (h : Lib.IsBuilderF 48 5 B b bs w) :
    Calls Tryz.prog 24 #[.pointer (some ⟨b, 0, none⟩)] w fun e w' => e = .returned (.tuple #[]) ∧ (Lib.BuilderAtF 48 5 B b (.pointer (some ⟨b, 0, none⟩)) bs w' ∧ Below B w w' ∧ Lib.OthersKept 5 (some b) w w') := by
  rcases h with h | h
  · refine (copyCheck_fresh b w h.cell0 h.shape h.frozen0).mono ?_
    rintro e w' ⟨rfl, rfl⟩
    exact ⟨rfl, h.used _, (Below.refl B w).setCell (p := ⟨b, 0, none⟩) h.1 _, (Lib.OthersKept.refl _ _ w).setCell ⟨b, 0, none⟩ rfl _⟩
  · refine (copyCheck_used b w h.cell0).mono ?_
    rintro e w' ⟨rfl, rfl⟩
    exact ⟨rfl, h, Below.refl B _, Lib.OthersKept.refl _ _ _⟩

set_option maxHeartbeats 2000000 in
set_option maxRecDepth 100000 in
theorem WriteByte_k (B b : Nat) (bs : List Value) (c : Int) (w : World) (h : Lib.IsBuilderF 48 5 B b bs w) (hlen : bs.length + 1 ≤ 140737488355328) (hBw : B ≤ w.heap.size) :
    Calls Tryz.prog 13 #[.pointer (some ⟨b, 0, none⟩), .int .u8 c] w fun e w' => e = .returned .nilIface ∧ (Lib.BuilderAtF 48 5 B b (.pointer (some ⟨b, 0, none⟩)) (bs ++ [.int .u8 c]) w' ∧ Below B w w' ∧ Lib.OthersKept 5 (some b) w w') := by
  obtain ⟨i0, hi, hz0, hz1, hz2⟩ := info_parts infoByte
  go_enter Tryz.func13, Tryz.ntmps13
  go_wp2_with (go_at_call 24; refine (copyCheck_k B b bs _ h).mono ?_)
  rintro e w1 ⟨rfl, h1, hb1, hk1⟩
  obtain ⟨hB, v, hbk, hown, hne⟩ := h1
  have c0 : w1.cell? ⟨b, 0, none⟩ = some (.pointer (some ⟨b, 0, none⟩)) := by rw [Lib.cell_of_heap hbk]; rfl
  have c1 : w1.cell? ⟨b, 1, none⟩ = some v := by rw [Lib.cell_of_heap hbk]; rfl
  go_wp2_with (at_builtin; refine wpList_append_ownF _ rfl _ _ 46 rfl B 5 i0 (.int .u8 0) 1 1 Tryz.underlying46 hi hz0 hz1 hz2 rfl (by decide) _ _ _ rfl (hown.alloc _) ⟨w1.heap.size, 0, none⟩ 1 1 [.int .u8 c] rfl rfl ?c1 ?c2 ?c3 ?c4 ?c5 ?_)
  case c1 =>
    intro j u hj
    match j, hj with
    | 0, hj => simp at hj; subst hj; simp [Addr.add]
  case c2 => intro u hu; simp at hu; subst hu; rfl
  case c3 => unfold maxLen; omega
  case c4 => omega
  case c5 => have := hb1.size; simp; omega
  intro v' w2 hown' hgrow _
  have hlt : b < w1.heap.size := by
    rcases Nat.lt_or_ge b w1.heap.size with h' | h'
    · exact h'
    · simp [Array.getElem?_eq_none h'] at hbk
  have hb2 : w2.heap[b]? = some (.cells #[.pointer (some ⟨b, 0, none⟩), v] 48 (0, 0)) := by
    rw [hgrow.block b (by simp; omega) (fun e => hne e.symm), Lib.alloc_old w1 _ b hlt]
    exact hbk
  have d0 : w2.cell? ⟨b, 0, none⟩ = some (.pointer (some ⟨b, 0, none⟩)) := by rw [Lib.cell_of_heap hb2]; rfl
  have d1 : w2.cell? ⟨b, 1, none⟩ = some v := by rw [Lib.cell_of_heap hb2]; rfl
  have f1 : w2.frozen? ⟨b, 1, none⟩ = false := Lib.frozen_of_heap hb2 1
  obtain ⟨g, cap, rfl⟩ : ∃ g cap, v' = .slice (some ⟨g, 0, none⟩) (bs.length + 1) cap := by
    rcases hown'.2 with ⟨_, h0⟩ | ⟨g, cap, cur, fz, hv, _⟩
    · omega
    · exact ⟨g, cap, hv⟩
  go_wp2
  go_ret
  refine ⟨rfl, ?_, ?_, ((hk1.alloc _).grown hgrow (Lib.ownsRowF_kind (hown.alloc _))).setCell ⟨b, 1, none⟩ rfl _⟩
  · exact Lib.BuilderAtF.put (T := 48) (e := 5) hB hb2 (bs' := bs ++ [.int .u8 c]) (by simpa using hown') (by decide)
  · exact ((hb1.alloc (by have := hb1.size; omega) _).grown hgrow (by have := hb1.size; simp; omega) (fun k hk => (hown.lt k hk).1)).setCell (p := ⟨b, 1, none⟩) hB _

set_option maxHeartbeats 2000000 in
set_option maxRecDepth 100000 in
theorem WriteString_k (B b : Nat) (bs : List Value) (s : ByteArray) (w : World) (h : Lib.IsBuilderF 48 5 B b bs w) (hlen : bs.length + s.size ≤ 140737488355328) (hBw : B ≤ w.heap.size) :
    Calls Tryz.prog 11 #[.pointer (some ⟨b, 0, none⟩), .string s] w fun e w' => e = .returned (.tuple #[.int .i64 s.size, .nilIface]) ∧ (Lib.BuilderAtF 48 5 B b (.pointer (some ⟨b, 0, none⟩)) (bs ++ Lib.strCells s) w' ∧ Below B w w' ∧ Lib.OthersKept 5 (some b) w w') := by
  obtain ⟨i0, hi, hz0, hz1, hz2⟩ := info_parts infoByte
  go_enter Tryz.func11, Tryz.ntmps11
  go_wp2_with (go_at_call 24; refine (copyCheck_k B b bs _ h).mono ?_)
  rintro e w1 ⟨rfl, h1, hb1, hk1⟩
  obtain ⟨hB, v, hbk, hown, hne⟩ := h1
  have c0 : w1.cell? ⟨b, 0, none⟩ = some (.pointer (some ⟨b, 0, none⟩)) := by rw [Lib.cell_of_heap hbk]; rfl
  have c1 : w1.cell? ⟨b, 1, none⟩ = some v := by rw [Lib.cell_of_heap hbk]; rfl
  go_wp2_with (at_builtin; refine Lib.wpList_append_own_stringF _ rfl _ _ 46 9 rfl B 5 i0 Tryz.underlying46 Tryz.underlying9 hi hz0 hz1 hz2 _ _ _ rfl hown s rfl ?c3 ?c4 ?c5 ?_)
  case c3 => unfold maxLen; omega
  case c4 => omega
  case c5 => have := hb1.size; omega
  intro v' w2 hown' hgrow _
  have hlt : b < w1.heap.size := by
    rcases Nat.lt_or_ge b w1.heap.size with h' | h'
    · exact h'
    · simp [Array.getElem?_eq_none h'] at hbk
  have hb2 : w2.heap[b]? = some (.cells #[.pointer (some ⟨b, 0, none⟩), v] 48 (0, 0)) := by
    rw [hgrow.block b hlt (fun e => hne e.symm)]
    exact hbk
  have d0 : w2.cell? ⟨b, 0, none⟩ = some (.pointer (some ⟨b, 0, none⟩)) := by rw [Lib.cell_of_heap hb2]; rfl
  have d1 : w2.cell? ⟨b, 1, none⟩ = some v := by rw [Lib.cell_of_heap hb2]; rfl
  have f1 : w2.frozen? ⟨b, 1, none⟩ = false := Lib.frozen_of_heap hb2 1
  obtain ⟨ao, n', cap, rfl⟩ : ∃ ao n' cap, v' = .slice ao n' cap := by
    rcases hown'.2 with ⟨hv, _⟩ | ⟨g, cap, cur, fz, hv, _⟩
    · exact ⟨_, _, _, hv⟩
    · exact ⟨_, _, _, hv⟩
  go_wp2
  go_ret2
  refine ⟨rfl, ?_, ?_, (hk1.grown hgrow (Lib.ownsRowF_kind hown)).setCell ⟨b, 1, none⟩ rfl _⟩
  · exact Lib.BuilderAtF.put (T := 48) (e := 5) hB hb2 (bs' := bs ++ Lib.strCells s) (by simpa [Lib.strCells_length] using hown') (by decide)
  · exact (hb1.grown hgrow (by have := hb1.size; omega) (fun k hk => (hown.lt k hk).1)).setCell (p := ⟨b, 1, none⟩) hB _

theorem _root_.Go.Lib.BuilderAtF.belowA {T e : TypeId} {B b : Nat} {p : Value} {bs : List Value} {w w1 : World} (h : Lib.BuilderAtF T e B b p bs w) (hb : Below w.heap.size w w1) : Lib.BuilderAtF T e B b p bs w1 := by
  have hlt := h.lt
  obtain ⟨hB, v, hbk, hown, hne⟩ := h
  exact ⟨hB, v, (hb.block b hlt).trans hbk, hown.kept (row := none) ⟨hb.os, hb.tape, hb.output, hb.size, fun i hi _ => hb.block i hi⟩ (by cases v.ownBlock <;> simp), hne⟩
/-! the builder told by numbers -/
def isU8 (xs : List Int) : Prop := ∀ x ∈ xs, 0 ≤ x ∧ x ≤ 255
def Bld (B b : Nat) (xs : List Int) (w : World) : Prop := isU8 xs ∧ Lib.IsBuilderF 48 5 B b (nums .u8 xs) w
theorem isU8_snoc {xs : List Int} {c : Int} (h : isU8 xs) (h0 : 0 ≤ c) (h1 : c ≤ 255) : isU8 (xs ++ [c]) := by
  intro x hx
  rcases List.mem_append.1 hx with hx | hx
  · exact h x hx
  · simp at hx; subst hx; exact ⟨h0, h1⟩
theorem isU8_bytesOf (s : ByteArray) : isU8 (bytesOf s) := by
  intro x hx
  simp only [bytesOf, List.mem_map] at hx
  obtain ⟨b, _, rfl⟩ := hx
  have := b.toNat_lt
  omega
theorem isU8_append {xs ys : List Int} (h : isU8 xs) (h' : isU8 ys) : isU8 (xs ++ ys) := by
  intro x hx
  rcases List.mem_append.1 hx with hx | hx
  · exact h x hx
  · exact h' x hx
theorem nums_byteCells {xs : List Int} (h : isU8 xs) : nums .u8 xs = Lib.byteCells (xs.map fun x => UInt8.ofNat x.toNat) := by
  unfold nums Lib.byteCells
  rw [List.map_map]
  apply List.map_congr_left
  intro x hx
  have := h x hx
  simp only [Function.comp]
  congr 1
  have : x.toNat < 256 := by omega
  simp [Nat.mod_eq_of_lt this]
  omega
theorem nums_strCells (s : ByteArray) : Lib.strCells s = nums .u8 (bytesOf s) := by
  simp [Lib.strCells, nums, bytesOf, List.map_map, Function.comp]
theorem Bld.new (w : World) (B : Nat) (hB : B ≤ w.heap.size) : Bld B w.heap.size [] (w.alloc (.cells #[.pointer none, .slice none 0 0] 48)) :=
  ⟨(fun x hx => by cases hx), Or.inl ⟨hB, .slice none 0 0, heap_alloc_new w _, World.ownsRowF_nil _ _ _ _, by simp [Value.ownBlock]⟩⟩
theorem Bld.drew {B b : Nat} {xs : List Int} {w : World} (h : Bld B b xs w) : Bld B b xs w.drew := ⟨h.1, h.2.imp Lib.BuilderAtF.drew Lib.BuilderAtF.drew⟩
theorem Bld.drewN {B b : Nat} {xs : List Int} {w : World} (h : Bld B b xs w) (n : Nat) : Bld B b xs (w.drewN n) := h
theorem Bld.byte {B b : Nat} {xs : List Int} {w : World} (h : Bld B b xs w) (c : Int) (h0 : 0 ≤ c) (h1 : c ≤ 255) (hlen : xs.length + 1 ≤ 140737488355328) (hBw : B ≤ w.heap.size) :
    Calls Tryz.prog 13 #[.pointer (some ⟨b, 0, none⟩), .int .u8 c] w fun e w' => e = .returned .nilIface ∧ Bld B b (xs ++ [c]) w' ∧ Below B w w' ∧ Lib.OthersKept 5 (some b) w w' := by
  refine (WriteByte_k B b _ c w h.2 (by simpa [nums] using hlen) hBw).mono ?_
  rintro e w' ⟨rfl, h2, h3, h4⟩
  exact ⟨rfl, ⟨isU8_snoc h.1 h0 h1, Or.inr (by rw [nums_append]; exact h2)⟩, h3, h4⟩
theorem Bld.str {B b : Nat} {xs : List Int} {w : World} (h : Bld B b xs w) (s : ByteArray) (hlen : xs.length + s.size ≤ 140737488355328) (hBw : B ≤ w.heap.size) :
    Calls Tryz.prog 11 #[.pointer (some ⟨b, 0, none⟩), .string s] w fun e w' => e = .returned (.tuple #[.int .i64 s.size, .nilIface]) ∧ Bld B b (xs ++ bytesOf s) w' ∧ Below B w w' ∧ Lib.OthersKept 5 (some b) w w' := by
  refine (WriteString_k B b _ s w h.2 (by simpa [nums] using hlen) hBw).mono ?_
  rintro e w' ⟨rfl, h2, h3, h4⟩
  exact ⟨rfl, ⟨isU8_append h.1 (isU8_bytesOf s), Or.inr (by rw [nums_append, ← nums_strCells]; exact h2)⟩, h3, h4⟩
theorem Bld.string {B b : Nat} {xs : List Int} {w : World} (h : Bld B b xs w) (hBw : B ≤ w.heap.size) :
    Calls Tryz.prog 16 #[.pointer (some ⟨b, 0, none⟩)] w fun e w' => e = .returned (.string (strOfNums xs)) ∧ Bld B b xs w' ∧ Below B w w' ∧ Lib.OthersKept 5 (some b) w w' := by
  have h2 := h.2
  rw [nums_byteCells h.1] at h2
  refine (Tryz.Builder_String_any_k B b _ w h2 hBw).mono ?_
  rintro e w' ⟨rfl, h3, h4, h5⟩
  exact ⟨rfl, ⟨h.1, by rw [nums_byteCells h.1]; exact h3⟩, h4, h5⟩

/-! ### expand_Subst: function 5 -/
def lookR (vars : List S29) (id : ByteArray) : Nat → ByteArray × Bool
  | 0 => (⟨#[]⟩, false)
  | n + 1 => if (rd_T29 vars n).f0.toList = id.toList then ((rd_T29 vars n).f1, true) else lookR vars id n
set_option maxHeartbeats 4000000 in
set_option maxRecDepth 100000 in
theorem value_walk (A : Option Addr) (c : Nat) (vars : List S29) (id : ByteArray) (bx : Nat) (w : World) (hl : vars.length ≤ 4611686018427387904) (hr : Kd.C k29 w A vars.length vars) (hbx : w.cell? ⟨bx, 0, none⟩ = some (.slice A vars.length c)) :
    Calls Tryz.prog 9 #[.string id, .pointer (some ⟨bx, 0, none⟩)] w fun e w' => e = .returned (.tuple #[.string (lookR vars id vars.length).1, .bool (lookR vars id vars.length).2]) ∧ w' = w := by
  generalize hq : lookR vars id vars.length = q
  have HQ := Aside0.mk hq
  have HR := Aside0.mk hr
  have hw0 : wrap64 ((vars.length : Int) - 1) = (vars.length : Int) - 1 := by unfold wrap64; omega
  clear hq hr
  go_enter Tryz.func9, Tryz.ntmps9
  go_wp2_with fail
  go_loopg [5] vars.length (fun m v5 wr => ∃ n : Nat, v5 = .int .i64 ((n : Int) - 1) ∧ Aside0 (lookR vars id n = q) ∧ n = m ∧ n ≤ vars.length ∧ wr = w)
  case atStart => exact ⟨vars.length, rfl, HQ, rfl, Nat.le_refl _, rfl⟩
  case round =>
    clear HQ
    obtain ⟨n, rfl, HQ, hnm, hn, rfl⟩ := hrel
    cases n with
    | zero =>
      have h1 := HQ.out
      simp only [lookR] at h1
      have HQ2 := Aside0.mk h1
      clear h1
      go_wp2_with fail
      refine bodyPost_ret (v := .tuple #[.string ⟨#[]⟩, .bool false]) (by simp [results, Tryz.results9, go_sem]) rfl ?_
      rw [← HQ2.out]
      exact ⟨rfl, rfl⟩
    | succ n =>
      rw [show (((n + 1 : Nat) : Int) - 1) = (n : Int) by omega]
      obtain ⟨ad, rfl, h0, h1⟩ := at_T29 HR.out n (by omega) (by omega)
      rw [Int.toNat_natCast] at h0 h1
      have h2 := HQ.out
      simp only [lookR] at h2
      have hw1 : wrap64 ((n : Int) - 1) = (n : Int) - 1 := by unfold wrap64; omega
      by_cases he : (rd_T29 vars n).f0.toList = id.toList
      · rw [if_pos he] at h2
        have he' : ((rd_T29 vars n).f0.toList == id.toList) = true := beq_iff_eq.2 he
        have HQ2 := Aside0.mk h2
        clear h2 HQ
        go_wp2_with fail
        refine bodyPost_ret (v := .tuple #[.string (rd_T29 vars n).f1, .bool true]) (by simp [results, Tryz.results9, go_sem]) rfl ?_
        rw [← HQ2.out]
        exact ⟨rfl, rfl⟩
      · rw [if_neg he] at h2
        have he' : ((rd_T29 vars n).f0.toList == id.toList) = false := beq_eq_false_iff_ne.2 he
        have HQ2 := Aside0.mk h2
        clear h2 HQ
        go_wp2_with fail
        go_roundg (gk - 1)
        case measure => omega
        case rel => exact ⟨n, rfl, HQ2, by omega, by omega, rfl⟩
set_option maxHeartbeats 4000000 in
set_option maxRecDepth 100000 in
theorem Bld.len {B b : Nat} {xs : List Int} {w : World} (h : Bld B b xs w) : Calls Tryz.prog 15 #[.pointer (some ⟨b, 0, none⟩)] w fun e w' => e = .returned (.int .i64 xs.length) ∧ w' = w := by
  obtain ⟨A, cap, c1⟩ : ∃ A cap, w.cell? ⟨b, 1, none⟩ = some (.slice A xs.length cap) := by
    rcases h.2 with ⟨_, v, hbk, hown, _⟩ | ⟨_, v, hbk, hown, _⟩ <;>
    · have c1 : w.cell? ⟨b, 1, none⟩ = some v := by rw [Lib.cell_of_heap hbk]; rfl
      have hn : (nums .u8 xs).length = xs.length := by simp [nums]
      rw [hn] at hown
      rcases hown.2 with ⟨hv, h0⟩ | ⟨g, cap, cur, fz, hv, _⟩
      · exact ⟨none, 0, by rw [c1, hv]; simp [h0]⟩
      · exact ⟨_, _, by rw [c1, hv]⟩
  go_enter Tryz.func15, Tryz.ntmps15
  go_wp2
  go_ret
  exact ⟨rfl, rfl⟩
def substR (vars : List S29) : Nat → ByteArray → List Int → Option (ByteArray × Int)
  | 0, _, _ => none
  | n + 1, t, out => (strings_Cut.f t ⟨#[36]⟩).bind fun p =>
    if out.length + p.1.size + 1 ≤ 140737488355328 then
      (if p.2.2 = false then (if 400 < (out ++ bytesOf p.1).length then some (⟨#[]⟩, 40) else some (strOfNums (out ++ bytesOf p.1), 0))
      else (strings_HasPrefix.f p.2.1 ⟨#[36]⟩).bind fun q => if q = true then (if 1 ≤ p.2.1.size then substR vars n (p.2.1.extract 1 p.2.1.size) (out ++ bytesOf p.1 ++ [36]) else none)
      else (expand_name.f 10000000 p.2.1).bind fun z => if z.2.2 = false then some (⟨#[]⟩, 4)
      else if (lookR vars z.1 vars.length).2 = false then some (⟨#[]⟩, 63)
      else if (out ++ bytesOf p.1).length + (lookR vars z.1 vars.length).1.size ≤ 140737488355328 ∧ 0 ≤ z.2.1 ∧ z.2.1 ≤ p.2.1.size then substR vars n (p.2.1.extract z.2.1.toNat p.2.1.size) (out ++ bytesOf p.1 ++ bytesOf (lookR vars z.1 vars.length).1) else none)
    else none
theorem Bld.below {B b : Nat} {xs : List Int} {W W' : World} (h : Bld B b xs W) (hb : Below W.heap.size W W') : Bld B b xs W' := ⟨h.1, h.2.imp (fun x => x.belowA hb) (fun x => x.belowA hb)⟩
set_option maxHeartbeats 8000000 in
set_option maxRecDepth 100000 in
theorem expand_Subst.walk (A : Option Addr) (c : Nat) (vars : List S29) (text : ByteArray) (n : Nat) (r1 : ByteArray) (r2 : Int) (w : World) (hl : vars.length ≤ 4611686018427387904) (hr : Kd.C k29 w A vars.length vars) (hq : substR vars n text [] = some (r1, r2)) :
    Calls Tryz.prog 5 #[.string text, .slice A vars.length c] w fun e w' => e = .returned (.tuple #[.string r1, .int .i64 r2]) ∧ Below w.heap.size w w' := by
  have HQ := Aside0.mk hq
  have HR := Aside0.mk hr
  clear hq hr
  go_enter Tryz.func5, Tryz.ntmps5
  go_wp2_with fail
  obtain ⟨w1, hw1⟩ : ∃ w1, w1 = w.alloc (.cells #[.slice A vars.length c] 22) := ⟨_, rfl⟩
  have hsz1 : w1.heap.size = w.heap.size + 1 := by rw [hw1]; simp
  have hbx : w1.cell? ⟨w.heap.size, 0, none⟩ = some (.slice A vars.length c) := by rw [hw1]; exact (blk_cell (blk_new w _) 0).trans rfl
  have HB1 := Aside0.mk (Bld.new w1 w1.heap.size (Nat.le_refl _))
  have HR1 := Aside0.mk (show Kd.C k29 w1 A vars.length vars by rw [hw1]; exact Kd.C_below HR.out (below_alloc (Below.refl _ _) _))
  have HW0 := Aside0.mk (show Below w.heap.size w w1 by rw [hw1]; exact below_alloc (Below.refl _ _) _)
  rw [hsz1] at HB1
  rw [← hw1]
  go_loopg [0] n (fun m v0 wr => ∃ (t : ByteArray) (out : List Int), v0 = .string t ∧ Aside0 (substR vars m t out = some (r1, r2)) ∧ Aside0 (Bld (w.heap.size + 1) (w.heap.size + 1) out wr) ∧ Aside0 (Below (w.heap.size + 1) w1 wr))
  case atStart => exact ⟨text, [], rfl, HQ, HB1, ⟨by rw [← hsz1]; exact below_alloc (Below.refl _ _) _⟩⟩
  case round =>
    clear HQ HB1 HR
    obtain ⟨t, out, rfl, HQ, HB, HW⟩ := hrel
    cases gk with
    | zero => exact absurd HQ.out (by simp [substR])
    | succ gk =>
      have h := HQ.out
      clear HQ
      simp only [substR] at h
      obtain ⟨⟨p1, p2, p3⟩, hcut, h⟩ := Option.bind_eq_some_iff.1 h
      have HCUT := Aside0.mk hcut
      clear hcut
      by_cases hb : out.length + p1.size + 1 ≤ 140737488355328
      case neg => rw [if_neg hb] at h; cases h
      rw [if_pos hb] at h
      obtain ⟨o1, ho1⟩ : ∃ o1, o1 = out ++ bytesOf p1 := ⟨_, rfl⟩
      have hol : o1.length = out.length + p1.size := by rw [ho1, List.length_append, bytesOf_length]
      simp only [← ho1] at h
      have HO1 := Aside0.mk ho1
      clear ho1
      cases p3 with
      | false =>
        rw [if_pos rfl] at h
        by_cases h4 : 400 < o1.length
        · rw [if_pos h4] at h
          injection h with h
          injection h with h1 h2
          subst h1 h2
          have h4' : (400 : Int) < (o1.length : Int) := by omega
          clear hol
          go_wp2_with (first | (go_at_call 10; refine (strings_Cut.calls t ⟨#[36]⟩ p1 p2 false _ HCUT.out).mono ?_; rintro e wa ⟨rfl, hd⟩; have HBa := Aside0.mk (HB.out.below hd.below); have HWa := Aside0.mk (below_then HW.out (by have := HW.out.size; omega) hd.below); clear hd HB HW) | (go_at_call 11; refine (Bld.str HBa.out p1 (by omega) (by have := HWa.out.size; omega)).mono ?_; rintro e wb ⟨rfl, hB, hb1, hk1⟩; rw [← HO1.out] at hB; have HBb := Aside0.mk hB; have HWb := Aside0.mk (HWa.out.trans hb1); clear hB hb1 hk1 HBa HWa) | (go_at_call 15; refine (Bld.len HBb.out).mono ?_; rintro e wc ⟨rfl, rfl⟩) | fail)
          go_ret2
          exact ⟨rfl, HW0.out.trans (HWb.out.mono (by omega))⟩
        · rw [if_neg h4] at h
          injection h with h
          injection h with h1 h2
          subst h1 h2
          have h4' : ¬ (400 : Int) < (o1.length : Int) := by omega
          clear hol
          go_wp2_with (first | (go_at_call 10; refine (strings_Cut.calls t ⟨#[36]⟩ p1 p2 false _ HCUT.out).mono ?_; rintro e wa ⟨rfl, hd⟩; have HBa := Aside0.mk (HB.out.below hd.below); have HWa := Aside0.mk (below_then HW.out (by have := HW.out.size; omega) hd.below); clear hd HB HW) | (go_at_call 11; refine (Bld.str HBa.out p1 (by omega) (by have := HWa.out.size; omega)).mono ?_; rintro e wb ⟨rfl, hB, hb1, hk1⟩; rw [← HO1.out] at hB; have HBb := Aside0.mk hB; have HWb := Aside0.mk (HWa.out.trans hb1); clear hB hb1 hk1 HBa HWa) | (go_at_call 15; refine (Bld.len HBb.out).mono ?_; rintro e wc ⟨rfl, rfl⟩) | (go_at_call 16; refine (Bld.string HBb.out (by have := HWb.out.size; omega)).mono ?_; rintro e wd ⟨rfl, hB, hb1, hk1⟩; have HWd := Aside0.mk (HWb.out.trans hb1); clear hB hb1 hk1) | fail)
          go_ret2
          exact ⟨rfl, HW0.out.trans (HWd.out.mono (by omega))⟩
      | true =>
        rw [if_neg (by decide)] at h
        obtain ⟨q, hpre, h⟩ := Option.bind_eq_some_iff.1 h
        have HPRE := Aside0.mk hpre
        clear hpre
        cases q with
        | true =>
          rw [if_pos rfl] at h
          by_cases h1 : 1 ≤ p2.size
          case neg => rw [if_neg h1] at h; cases h
          rw [if_pos h1] at h
          have HQ2 := Aside0.mk h
          clear h
          have h1' : (1 : Int) ≤ (p2.size : Int) := by omega
          go_wp2_with (first | (go_at_call 10; refine (strings_Cut.calls t ⟨#[36]⟩ p1 p2 true _ HCUT.out).mono ?_; rintro e wa ⟨rfl, hd⟩; have HBa := Aside0.mk (HB.out.below hd.below); have HWa := Aside0.mk (below_then HW.out (by have := HW.out.size; omega) hd.below); clear hd HB HW) | (go_at_call 11; refine (Bld.str HBa.out p1 (by omega) (by have := HWa.out.size; omega)).mono ?_; rintro e wb ⟨rfl, hB, hb1, hk1⟩; rw [← HO1.out] at hB; have HBb := Aside0.mk hB; have HWb := Aside0.mk (HWa.out.trans hb1); clear hB hb1 hk1 HBa HWa) | (go_at_call 12; refine (strings_HasPrefix.calls p2 ⟨#[36]⟩ true _ HPRE.out).mono ?_; rintro e wc ⟨rfl, hd⟩; have HBc := Aside0.mk (HBb.out.below hd.below); have HWc := Aside0.mk (below_then HWb.out (by have := HWb.out.size; omega) hd.below); clear hd HBb HWb) | (go_at_call 13; refine (Bld.byte HBc.out 36 (by decide) (by decide) (by omega) (by have := HWc.out.size; omega)).mono ?_; rintro e wd ⟨rfl, hB, hb1, hk1⟩; have HBd := Aside0.mk hB; have HWd := Aside0.mk (HWc.out.trans hb1); clear hB hb1 hk1) | fail)
          go_roundg gk
          case measure => omega
          case rel => exact ⟨_, _, rfl, HQ2, HBd, HWd⟩
        | false =>
          rw [if_neg (by decide)] at h
          obtain ⟨⟨z1, z2, z3⟩, hname, h⟩ := Option.bind_eq_some_iff.1 h
          have HNAME := Aside0.mk hname
          clear hname
          cases z3 with
          | false =>
            rw [if_pos rfl] at h
            injection h with h
            injection h with h1 h2
            subst h1 h2
            go_wp2_with (first | (go_at_call 10; refine (strings_Cut.calls t ⟨#[36]⟩ p1 p2 true _ HCUT.out).mono ?_; rintro e wa ⟨rfl, hd⟩; have HBa := Aside0.mk (HB.out.below hd.below); have HWa := Aside0.mk (below_then HW.out (by have := HW.out.size; omega) hd.below); clear hd HB HW) | (go_at_call 11; refine (Bld.str HBa.out p1 (by omega) (by have := HWa.out.size; omega)).mono ?_; rintro e wb ⟨rfl, hB, hb1, hk1⟩; rw [← HO1.out] at hB; have HBb := Aside0.mk hB; have HWb := Aside0.mk (HWa.out.trans hb1); clear hB hb1 hk1 HBa HWa) | (go_at_call 12; refine (strings_HasPrefix.calls p2 ⟨#[36]⟩ false _ HPRE.out).mono ?_; rintro e wc ⟨rfl, hd⟩; have HBc := Aside0.mk (HBb.out.below hd.below); have HWc := Aside0.mk (below_then HWb.out (by have := HWb.out.size; omega) hd.below); clear hd HBb HWb) | (go_at_call 14; refine (expand_name.calls 10000000 p2 z1 z2 false _ HNAME.out).mono ?_; rintro e wd ⟨rfl, hd⟩; have HBd := Aside0.mk (HBc.out.below hd.below); have HWd := Aside0.mk (below_then HWc.out (by have := HWc.out.size; omega) hd.below); clear hd HBc HWc) | fail)
            go_ret2
            exact ⟨rfl, HW0.out.trans (HWd.out.mono (by omega))⟩
          | true =>
            rw [if_neg (show ¬ ((true : Bool) = false) by decide)] at h
            cases hL : lookR vars z1 vars.length with
            | mk v1 v2 =>
            rw [hL] at h
            have HL := Aside0.mk hL
            clear hL
            cases v2 with
            | false =>
              rw [if_pos rfl] at h
              injection h with h
              injection h with h1 h2
              subst h1 h2
              go_wp2_with (first | (go_at_call 10; refine (strings_Cut.calls t ⟨#[36]⟩ p1 p2 true _ HCUT.out).mono ?_; rintro e wa ⟨rfl, hd⟩; have HBa := Aside0.mk (HB.out.below hd.below); have HWa := Aside0.mk (below_then HW.out (by have := HW.out.size; omega) hd.below); clear hd HB HW) | (go_at_call 11; refine (Bld.str HBa.out p1 (by omega) (by have := HWa.out.size; omega)).mono ?_; rintro e wb ⟨rfl, hB, hb1, hk1⟩; rw [← HO1.out] at hB; have HBb := Aside0.mk hB; have HWb := Aside0.mk (HWa.out.trans hb1); clear hB hb1 hk1 HBa HWa) | (go_at_call 12; refine (strings_HasPrefix.calls p2 ⟨#[36]⟩ false _ HPRE.out).mono ?_; rintro e wc ⟨rfl, hd⟩; have HBc := Aside0.mk (HBb.out.below hd.below); have HWc := Aside0.mk (below_then HWb.out (by have := HWb.out.size; omega) hd.below); clear hd HBb HWb) | (go_at_call 14; refine (expand_name.calls 10000000 p2 z1 z2 true _ HNAME.out).mono ?_; rintro e wd ⟨rfl, hd⟩; have HBd := Aside0.mk (HBc.out.below hd.below); have HWd := Aside0.mk (below_then HWc.out (by have := HWc.out.size; omega) hd.below); clear hd HBc HWc) | (go_at_call 9; have hv := value_walk A c vars z1 w.heap.size wd hl (Kd.C_below HR1.out (by rw [hsz1]; exact HWd.out)) ((HWd.out.cell (show w.heap.size < w.heap.size + 1 by omega)).trans hbx); rw [HL.out] at hv; refine hv.mono ?_; rintro e we ⟨rfl, rfl⟩; clear hv) | fail)
              go_ret2
              exact ⟨rfl, HW0.out.trans (HWd.out.mono (by omega))⟩
            | true =>
              rw [if_neg (show ¬ ((true : Bool) = false) by decide)] at h
              by_cases hc : o1.length + v1.size ≤ 140737488355328 ∧ 0 ≤ z2 ∧ z2 ≤ p2.size
              case neg => rw [if_neg hc] at h; cases h
              rw [if_pos hc] at h
              obtain ⟨hc1, hc2, hc3⟩ := hc
              have HQ2 := Aside0.mk h
              clear h
              go_wp2_with (first | (go_at_call 10; refine (strings_Cut.calls t ⟨#[36]⟩ p1 p2 true _ HCUT.out).mono ?_; rintro e wa ⟨rfl, hd⟩; have HBa := Aside0.mk (HB.out.below hd.below); have HWa := Aside0.mk (below_then HW.out (by have := HW.out.size; omega) hd.below); clear hd HB HW) | (go_at_call 11; refine (Bld.str HBa.out p1 (by omega) (by have := HWa.out.size; omega)).mono ?_; rintro e wb ⟨rfl, hB, hb1, hk1⟩; rw [← HO1.out] at hB; have HBb := Aside0.mk hB; have HWb := Aside0.mk (HWa.out.trans hb1); clear hB hb1 hk1 HBa HWa) | (go_at_call 12; refine (strings_HasPrefix.calls p2 ⟨#[36]⟩ false _ HPRE.out).mono ?_; rintro e wc ⟨rfl, hd⟩; have HBc := Aside0.mk (HBb.out.below hd.below); have HWc := Aside0.mk (below_then HWb.out (by have := HWb.out.size; omega) hd.below); clear hd HBb HWb) | (go_at_call 14; refine (expand_name.calls 10000000 p2 z1 z2 true _ HNAME.out).mono ?_; rintro e wd ⟨rfl, hd⟩; have HBd := Aside0.mk (HBc.out.below hd.below); have HWd := Aside0.mk (below_then HWc.out (by have := HWc.out.size; omega) hd.below); clear hd HBc HWc) | (go_at_call 9; have hv := value_walk A c vars z1 w.heap.size wd hl (Kd.C_below HR1.out (by rw [hsz1]; exact HWd.out)) ((HWd.out.cell (show w.heap.size < w.heap.size + 1 by omega)).trans hbx); rw [HL.out] at hv; refine hv.mono ?_; rintro e we ⟨rfl, rfl⟩; clear hv) | (go_at_call 11; refine (Bld.str HBd.out v1 (by omega) (by have := HWd.out.size; omega)).mono ?_; rintro e wf ⟨rfl, hB, hb1, hk1⟩; have HBf := Aside0.mk hB; have HWf := Aside0.mk (HWd.out.trans hb1); clear hB hb1 hk1) | fail)
              go_roundg gk
              case measure => omega
              case rel => exact ⟨_, _, rfl, HQ2, HBf, HWf⟩
def expand_Subst.f (a0 : ByteArray) (l1 : List S29) : Option (ByteArray × Int) := if l1.length ≤ 4611686018427387904 then substR l1 (a0.size + 1) a0 [] else none
theorem expand_Subst.calls (a0 : ByteArray) (A1 : Option Addr) (c1 : Nat) (l1 : List (S29)) (r1 : ByteArray) (r2 : Int) (w : World) (hr1 : Kd.C k29 w A1 l1.length l1) (hc1 : l1.length ≤ c1) (h : expand_Subst.f a0 l1 = some (r1, r2)) :
    Calls Tryz.prog 5 #[.string a0, .slice A1 l1.length c1] w fun e w' => e = .returned (.tuple #[.string r1, .int .i64 r2]) ∧ Below w.heap.size w w' := by
  unfold expand_Subst.f at h
  by_cases hc : l1.length ≤ 4611686018427387904
  case neg => rw [if_neg hc] at h; cases h
  rw [if_pos hc] at h
  exact expand_Subst.walk A1 c1 l1 a0 _ r1 r2 w hc hr1 h

end Go.Proofs.YtloboklomhlkhabGreatDoor.E
