-- Written by wip/xprint.py: the kit's print with functions proved by hand in their places. Not trusted: Lean checks it.
import Derived.Test.YtckfpbkckffjjaaDoorXx0
import Derived.Test.YtckfpbkckffjjaaDoorXx2
import Derived.Test.YtckfpbkckffjjaaDoorXx3
import Derived.Test.YtckfpbkckffjjaaDoorXx6
import Derived.Test.YtckfpbkckffjjaaDoorXx7
namespace Go.Proofs.YtckfpbkckffjjaaDoor.X
open Go.RowKit Go.Proofs.YtckfpbkckffjjaaDoorW.PrintWords Go.Proofs.YtckfpbkckffjjaaDoorW.PrintLast Go.Proofs.YtckfpbkckffjjaaDoorW.PrintMore
attribute [local go_sem] max2_int min2_int max_two min_two max_three min_three max_four min_four   -- for this text's walks alone
set_option linter.unusedVariables false
set_option linter.unusedSimpArgs false

/-! ### bastionlaw02_WordsBlanks: function 8 -/
mutual
def bastionlaw02_WordsBlanks.j0 : Nat → List ByteArray → ByteArray → Bool → Option (Bool)
  | 0, _, _, _ => none
  | k + 1, x0, x1, x18 => if x18 = true then ((bastionlaw02_awake.f k).bind fun t319 => (some t319)) else (bastionlaw02_WordsBlanks.l0 k x0 x1 0)
def bastionlaw02_WordsBlanks.l0 : Nat → List ByteArray → ByteArray → Int → Option (Bool)
  | 0, _, _, _ => none
  | k + 1, x0, x1, x5 => if x5 < (x1.size : Int) then (if 0 ≤ x5 then (if (bt x1 x5) = 10 then (some true) else (bastionlaw02_WordsBlanks.l0 k x0 x1 (wrap64 (x5 + 1)))) else (none)) else ((words_Join.f k x0).bind fun bt320 => (if bt320.2 = 0 then (bastionlaw02_WordsBlanks.j2 k x0 x1 bt320.1 (decide ((wrap64 ((bt320.1.size : Int) + (x1.size : Int))) > 300))) else (bastionlaw02_WordsBlanks.j2 k x0 x1 bt320.1 true)))
def bastionlaw02_WordsBlanks.j2 : Nat → List ByteArray → ByteArray → ByteArray → Bool → Option (Bool)
  | 0, _, _, _, _ => none
  | k + 1, x0, x1, x6, x44 => if x44 = true then (some true) else (if 2 + x6.size ≤ 9223372036854775807 then (if ((⟨#[32, 9]⟩ : ByteArray) ++ x6).size + 3 ≤ 9223372036854775807 then (if (((⟨#[32, 9]⟩ : ByteArray) ++ x6) ++ (⟨#[9, 32, 35]⟩ : ByteArray)).size + x1.size ≤ 9223372036854775807 then ((words_Split.f k ((((⟨#[32, 9]⟩ : ByteArray) ++ x6) ++ (⟨#[9, 32, 35]⟩ : ByteArray)) ++ x1)).bind fun bt322 => (if ((⟨#[10, 9]⟩ : ByteArray) ++ x6).size + 3 ≤ 9223372036854775807 then (if (((⟨#[10, 9]⟩ : ByteArray) ++ x6) ++ (⟨#[32, 10, 35]⟩ : ByteArray)).size + x1.size ≤ 9223372036854775807 then (if ((((⟨#[10, 9]⟩ : ByteArray) ++ x6) ++ (⟨#[32, 10, 35]⟩ : ByteArray)) ++ x1).size + 1 ≤ 9223372036854775807 then ((words_Lines.f k (((((⟨#[10, 9]⟩ : ByteArray) ++ x6) ++ (⟨#[32, 10, 35]⟩ : ByteArray)) ++ x1) ++ (⟨#[10]⟩ : ByteArray))).bind fun bt326 => (if (x0.length : Int) = 0 then (if bt322.2 = 0 then (if (bt322.1.length : Int) = 0 then (if bt326.2.2 = 0 then (some ((bt326.1.length : Int) == 0)) else (some false)) else (some false)) else (some false)) else (if bt322.2 = 0 then ((bastionref02_Same.f k x0 bt322.1).bind fun t331 => (if t331 = true then (if bt326.2.2 = 0 then (if (bt326.1.length : Int) = 1 then (if 0 < (bt326.1.length : Int) then (if ((rd_T40 bt326.1 0).f0) = 2 then ((bastionref02_Same.f k ((rd_T40 bt326.1 0).f1) x0).bind fun t334 => (some t334)) else (some false)) else (none)) else (some false)) else (some false)) else (some false))) else (some false)))) else (none)) else (none)) else (none))) else (none)) else (none)) else (none))
end
def bastionlaw02_WordsBlanks.f (k : Nat) (l0 : List ByteArray) (a1 : ByteArray) : Option (Bool) := (bastionlaw02_long.f k l0).bind fun t317 => (if t317 = true then (bastionlaw02_WordsBlanks.j0 k l0 a1 true) else ((bastionlaw02_awake.f k).bind fun t318 => (bastionlaw02_WordsBlanks.j0 k l0 a1 (!t318))))
theorem bastionlaw02_WordsBlanks.mono_l : ∀ k, (∀ y0 y1 y2, LeO (bastionlaw02_WordsBlanks.j0 k y0 y1 y2) (bastionlaw02_WordsBlanks.j0 (k + 1) y0 y1 y2)) ∧ (∀ y0 y1 y2, LeO (bastionlaw02_WordsBlanks.l0 k y0 y1 y2) (bastionlaw02_WordsBlanks.l0 (k + 1) y0 y1 y2)) ∧ (∀ y0 y1 y2 y3, LeO (bastionlaw02_WordsBlanks.j2 k y0 y1 y2 y3) (bastionlaw02_WordsBlanks.j2 (k + 1) y0 y1 y2 y3))
  | 0 => ⟨fun _ _ _ r h => by simp [bastionlaw02_WordsBlanks.j0] at h, fun _ _ _ r h => by simp [bastionlaw02_WordsBlanks.l0] at h, fun _ _ _ _ r h => by simp [bastionlaw02_WordsBlanks.j2] at h⟩
  | k + 1 => by
    obtain ⟨ih0, ih1, ih2⟩ := bastionlaw02_WordsBlanks.mono_l k
    refine ⟨?_, ?_, ?_⟩
    · intro y0 y1 y2
      unfold bastionlaw02_WordsBlanks.j0
      repeat' first
      | (with_reducible exact ih0 _ _ _)
      | (with_reducible exact ih1 _ _ _)
      | (with_reducible exact ih2 _ _ _ _)
      | (with_reducible exact bastionlaw02_awake.mono _)
      | (with_reducible exact bastionlaw02_long.mono _ _)
      | (with_reducible exact bastionref02_Same.mono _ _ _)
      | (with_reducible exact words_Join.mono _ _)
      | (with_reducible exact words_Lines.mono _ _)
      | (with_reducible exact words_Split.mono _ _)
      | (with_reducible exact LeO.refl _)
      | (with_reducible exact LeO.none _)
      | (with_reducible refine LeO.ite ?_ ?_)
      | (with_reducible refine LeO.bind ?_ (fun _ => ?_))
      | exact ih0 _ _ _
      | exact ih1 _ _ _
      | exact ih2 _ _ _ _
      | exact bastionlaw02_awake.mono _
      | exact bastionlaw02_long.mono _ _
      | exact bastionref02_Same.mono _ _ _
      | exact words_Join.mono _ _
      | exact words_Lines.mono _ _
      | exact words_Split.mono _ _
      | exact LeO.none _
      | refine LeO.ite ?_ ?_
      | refine LeO.bind ?_ (fun _ => ?_)
    · intro y0 y1 y2
      unfold bastionlaw02_WordsBlanks.l0
      repeat' first
      | (with_reducible exact ih0 _ _ _)
      | (with_reducible exact ih1 _ _ _)
      | (with_reducible exact ih2 _ _ _ _)
      | (with_reducible exact bastionlaw02_awake.mono _)
      | (with_reducible exact bastionlaw02_long.mono _ _)
      | (with_reducible exact bastionref02_Same.mono _ _ _)
      | (with_reducible exact words_Join.mono _ _)
      | (with_reducible exact words_Lines.mono _ _)
      | (with_reducible exact words_Split.mono _ _)
      | (with_reducible exact LeO.refl _)
      | (with_reducible exact LeO.none _)
      | (with_reducible refine LeO.ite ?_ ?_)
      | (with_reducible refine LeO.bind ?_ (fun _ => ?_))
      | exact ih0 _ _ _
      | exact ih1 _ _ _
      | exact ih2 _ _ _ _
      | exact bastionlaw02_awake.mono _
      | exact bastionlaw02_long.mono _ _
      | exact bastionref02_Same.mono _ _ _
      | exact words_Join.mono _ _
      | exact words_Lines.mono _ _
      | exact words_Split.mono _ _
      | exact LeO.none _
      | refine LeO.ite ?_ ?_
      | refine LeO.bind ?_ (fun _ => ?_)
    · intro y0 y1 y2 y3
      unfold bastionlaw02_WordsBlanks.j2
      repeat' first
      | (with_reducible exact ih0 _ _ _)
      | (with_reducible exact ih1 _ _ _)
      | (with_reducible exact ih2 _ _ _ _)
      | (with_reducible exact bastionlaw02_awake.mono _)
      | (with_reducible exact bastionlaw02_long.mono _ _)
      | (with_reducible exact bastionref02_Same.mono _ _ _)
      | (with_reducible exact words_Join.mono _ _)
      | (with_reducible exact words_Lines.mono _ _)
      | (with_reducible exact words_Split.mono _ _)
      | (with_reducible exact LeO.refl _)
      | (with_reducible exact LeO.none _)
      | (with_reducible refine LeO.ite ?_ ?_)
      | (with_reducible refine LeO.bind ?_ (fun _ => ?_))
      | exact ih0 _ _ _
      | exact ih1 _ _ _
      | exact ih2 _ _ _ _
      | exact bastionlaw02_awake.mono _
      | exact bastionlaw02_long.mono _ _
      | exact bastionref02_Same.mono _ _ _
      | exact words_Join.mono _ _
      | exact words_Lines.mono _ _
      | exact words_Split.mono _ _
      | exact LeO.none _
      | refine LeO.ite ?_ ?_
      | refine LeO.bind ?_ (fun _ => ?_)
theorem bastionlaw02_WordsBlanks.mono : ∀ a0 a1 k, LeO (bastionlaw02_WordsBlanks.f k a0 a1) (bastionlaw02_WordsBlanks.f (k + 1) a0 a1) := by
  intro a0 a1 k
  obtain ⟨ih0, ih1, ih2⟩ := bastionlaw02_WordsBlanks.mono_l k
  unfold bastionlaw02_WordsBlanks.f
  repeat' first
      | (with_reducible exact ih0 _ _ _)
      | (with_reducible exact ih1 _ _ _)
      | (with_reducible exact ih2 _ _ _ _)
      | (with_reducible exact bastionlaw02_awake.mono _)
      | (with_reducible exact bastionlaw02_long.mono _ _)
      | (with_reducible exact bastionref02_Same.mono _ _ _)
      | (with_reducible exact words_Join.mono _ _)
      | (with_reducible exact words_Lines.mono _ _)
      | (with_reducible exact words_Split.mono _ _)
      | (with_reducible exact LeO.refl _)
      | (with_reducible exact LeO.none _)
      | (with_reducible refine LeO.ite ?_ ?_)
      | (with_reducible refine LeO.bind ?_ (fun _ => ?_))
      | exact ih0 _ _ _
      | exact ih1 _ _ _
      | exact ih2 _ _ _ _
      | exact bastionlaw02_awake.mono _
      | exact bastionlaw02_long.mono _ _
      | exact bastionref02_Same.mono _ _ _
      | exact words_Join.mono _ _
      | exact words_Lines.mono _ _
      | exact words_Split.mono _ _
      | exact LeO.none _
      | refine LeO.ite ?_ ?_
      | refine LeO.bind ?_ (fun _ => ?_)
set_option maxHeartbeats 8000000 in
set_option maxRecDepth 100000 in
theorem bastionlaw02_WordsBlanks.calls (k : Nat) (A0 : Option Addr) (c0 : Nat) (l0 : List ByteArray) (a1 : ByteArray) (r : Bool) (w : World) (hr0 : Kd.C Kd.string w A0 l0.length l0) (hc0 : l0.length ≤ c0) (h : bastionlaw02_WordsBlanks.f k l0 a1 = some r) :
    Calls Tryd.prog 8 #[.slice A0 l0.length c0, .string a1] w fun e w' => e = .returned (.bool r) ∧ Below w.heap.size w w' := by
  have HR0 := Aside0.mk hr0
  have HC0 := Aside0.mk hc0
  clear hr0 hc0
  have HB := Aside0.mk (Below.refl w.heap.size w)
  have H : ((bastionlaw02_long.f k l0).bind fun t317 => (if t317 = true then (bastionlaw02_WordsBlanks.j0 k l0 a1 true) else ((bastionlaw02_awake.f k).bind fun t318 => (bastionlaw02_WordsBlanks.j0 k l0 a1 (!t318))))) = some r := h
  clear h
  have HC3 := Aside0.mk H
  clear H
  go_enter Tryd.func8, Tryd.ntmps8
  go_upto_region 1 with (fail)
  go_cut [18] (fun v18 wc => ∃ (kq : Nat) (x18_2 : Bool), v18 = .bool x18_2 ∧ Aside0 (bastionlaw02_WordsBlanks.j0 kq l0 a1 x18_2 = some r) ∧ Aside0 (kq ≤ k) ∧ Aside0 (Below w.heap.size w wc))
  case first =>
    have H := HC3.out
    clear HC3
    replace H := Option.bind_eq_some_iff.mp H
    obtain ⟨t317, A40, H⟩ := H
    replace H : (if t317 = true then (bastionlaw02_WordsBlanks.j0 k l0 a1 true) else ((bastionlaw02_awake.f k).bind fun t318 => (bastionlaw02_WordsBlanks.j0 k l0 a1 (!t318)))) = some r := H
    have A4 := Aside0.mk A40
    clear A40
    by_cases c5 : t317 = true
    · subst c5
      have H1 : (bastionlaw02_WordsBlanks.j0 k l0 a1 true) = some r := by rw [if_pos rfl] at H; exact H
      clear H
      have H := H1
      clear H1
      have H' := Aside0.mk H
      clear H
      go_wp2_with (first | ((with_reducible refine gate_callee (f := 13) rfl ?_); refine goesL_ (some 14) rfl rfl Tryd.func13 (by kernel_rfl) rfl #[.slice A0 l0.length c0] rfl (by (try simp only [List.map_toArray, List.map_cons, List.map_nil]); first | done | rfl | (simp only [List.length_drop, List.length_take]; rfl)) ?_; (with_reducible refine (bastionlaw02_long.calls k _ _ l0 true _ ?side1 ?side2 A4.out).mono ?_); (case side1 => repeat (first | exact (Kd.C_below HR0.out HB.out) | (with_reducible refine Kd.C_alloc ?_ _) | (with_reducible refine Kd.C_drewN ?_ _) | (with_reducible refine Kd.C_drew ?_))); (case side2 => exact HC0.out); rintro e w' ⟨rfl, ⟨nd, rfl⟩⟩; refine ⟨_, rfl, ?_⟩))
      go_meet
      case rel => exact ⟨_, (true), (by first | rfl | (simp; done) | (simp [*]; done)), H', ⟨by first | omega | exact Nat.le_refl _⟩, ⟨by repeat (first | (with_reducible first | exact HB.out | apply below_alloc | apply pw_below_drewN | apply below_drew1) | exact HB.out)⟩⟩
    · replace c5 := Bool.eq_false_iff.mpr c5
      subst c5
      have H1 : ((bastionlaw02_awake.f k).bind fun t318 => (bastionlaw02_WordsBlanks.j0 k l0 a1 (!t318))) = some r := by rw [if_neg (show ¬ (false = true) by decide)] at H; exact H
      clear H
      have H := H1
      clear H1
      replace H := Option.bind_eq_some_iff.mp H
      obtain ⟨t318, A60, H⟩ := H
      replace H : (bastionlaw02_WordsBlanks.j0 k l0 a1 (!t318)) = some r := H
      have A6 := Aside0.mk A60
      clear A60
      have H' := Aside0.mk H
      clear H
      go_wp2_with (first | ((with_reducible refine gate_callee (f := 13) rfl ?_); refine goesL_ (some 14) rfl rfl Tryd.func13 (by kernel_rfl) rfl #[.slice A0 l0.length c0] rfl (by (try simp only [List.map_toArray, List.map_cons, List.map_nil]); first | done | rfl | (simp only [List.length_drop, List.length_take]; rfl)) ?_; (with_reducible refine (bastionlaw02_long.calls k _ _ l0 false _ ?side1 ?side2 A4.out).mono ?_); (case side1 => repeat (first | exact (Kd.C_below HR0.out HB.out) | (with_reducible refine Kd.C_alloc ?_ _) | (with_reducible refine Kd.C_drewN ?_ _) | (with_reducible refine Kd.C_drew ?_))); (case side2 => exact HC0.out); rintro e w' ⟨rfl, ⟨nd, rfl⟩⟩; refine ⟨_, rfl, ?_⟩) | (go_at_call 9; (with_reducible refine (bastionlaw02_awake.calls k  t318 _ A6.out).mono ?_); rintro e w7 ⟨rfl, hb⟩; have n0_ := Aside0.mk (below_step (by repeat (first | (with_reducible first | exact HB.out | apply below_alloc | apply pw_below_drewN | apply below_drew1) | exact HB.out)) hb); clear HB; have HB := n0_; clear n0_; (try clear hb); (try clear hb2); (try clear hk); (try clear hi)))
      go_meet
      case rel => exact ⟨_, (!t318), (by first | rfl | (simp; done) | (simp [*]; done)), H', ⟨by first | omega | exact Nat.le_refl _⟩, ⟨by repeat (first | (with_reducible first | exact HB.out | apply below_alloc | apply pw_below_drewN | apply below_drew1) | exact HB.out)⟩⟩
  case rest =>
    clear HC3
    try clear c1
    try clear p2
    try clear c5
    obtain ⟨kq, x18_2, rfl, HA, HJ2, HB⟩ := hcut
    cases kq with
    | zero => exact absurd HA.out (by simp [bastionlaw02_WordsBlanks.j0])
    | succ kj2 =>
      have H := HA.out
      clear HA
      simp only [bastionlaw02_WordsBlanks.j0] at H
      by_cases c8 : x18_2 = true
      · subst c8
        have H1 : ((bastionlaw02_awake.f kj2).bind fun t319 => (some t319)) = some r := by rw [if_pos rfl] at H; exact H
        clear H
        have H := H1
        clear H1
        replace H := Option.bind_eq_some_iff.mp H
        obtain ⟨t319, A90, H⟩ := H
        replace H : (some t319) = some r := H
        have A9 := Aside0.mk A90
        clear A90
        obtain rfl := Option.some.inj H
        go_wp2_with (first | ((with_reducible refine gate_callee (f := 9) rfl ?_); refine goesL_ (some 19) rfl rfl Tryd.func9 (by kernel_rfl) rfl #[] rfl (by (try simp only [List.map_toArray, List.map_cons, List.map_nil]); first | done | rfl | (simp only [List.length_drop, List.length_take]; rfl)) ?_; (with_reducible refine (bastionlaw02_awake.calls kj2  t319 _ A9.out).mono ?_); rintro e w10 ⟨rfl, hb⟩; refine ⟨_, rfl, ?_⟩; have n0_ := Aside0.mk (below_step (by repeat (first | (with_reducible first | exact HB.out | apply below_alloc | apply pw_below_drewN | apply below_drew1) | exact HB.out)) hb); clear HB; have HB := n0_; clear n0_; (try clear hb); (try clear hb2); (try clear hk); (try clear hi)))
        go_ret
        exact ⟨by first | rfl | (simp [errW_none, errW_some] <;> rfl) | (simp [*, errW_none, errW_some] <;> rfl), by repeat (first | (with_reducible first | exact HB.out | apply below_alloc | apply pw_below_drewN | apply below_drew1) | exact HB.out)⟩
      · replace c8 := Bool.eq_false_iff.mpr c8
        subst c8
        have H1 : (bastionlaw02_WordsBlanks.l0 kj2 l0 a1 0) = some r := by rw [if_neg (show ¬ (false = true) by decide)] at H; exact H
        clear H
        have H := H1
        clear H1
        have H' := Aside0.mk H
        clear H
        go_wp2
        go_loopg [5] kj2 (fun kq v5 w' => ∃ (x5_2 : Int), v5 = .int .i64 x5_2 ∧ Aside0 (bastionlaw02_WordsBlanks.l0 kq l0 a1 x5_2 = some r) ∧ Aside0 (kq ≤ kj2) ∧ Aside0 (Below w.heap.size w w'))
        case atStart => exact ⟨(0), (by first | rfl | (simp; done) | (simp [*]; done)), H', ⟨Nat.le_refl _⟩, ⟨by repeat (first | (with_reducible first | exact HB.out | apply below_alloc | apply pw_below_drewN | apply below_drew1) | exact HB.out)⟩⟩
        case round =>
          clear H'
          try clear c1
          try clear p2
          try clear c5
          try clear c8
          try clear c9
          try clear p2
          obtain ⟨x5_2, rfl, HA, HK2, HB⟩ := hrel
          cases gk with
          | zero => exact absurd HA.out (by simp [bastionlaw02_WordsBlanks.l0])
          | succ k2 =>
            have H := HA.out
            clear HA
            simp only [bastionlaw02_WordsBlanks.l0] at H
            by_cases c11 : x5_2 < (a1.size : Int)
            · rw [if_pos c11] at H
              have c11b0 : decide (x5_2 < (a1.size : Int)) = true := decide_eq_true c11
              clear c11
              by_cases c12 : 0 ≤ x5_2
              · rw [if_pos c12] at H
                have c12b0 : decide (0 ≤ x5_2) = true := decide_eq_true c12
                clear c12
                by_cases c14 : (bt a1 x5_2) = 10
                · rw [if_pos c14] at H
                  have c14b0 : ((bt a1 x5_2) == 10) = true := beq_iff_eq.mpr c14
                  have c14b1 : ((bt a1 x5_2) != 10) = false := bne_eq_false_iff_eq.mpr c14
                  clear c14
                  obtain rfl := Option.some.inj H
                  have p13 : 0 ≤ (x5_2 : Int) := of_decide_eq_true (by first | (with_reducible assumption) | assumption)
                  have q13 : x5_2 < (a1.size : Int) := of_decide_eq_true (by first | (with_reducible assumption) | assumption)
                  have hx13 := bt_at a1 x5_2
                  replace p13 := eq_true p13
                  replace q13 := eq_true q13
                  go_wp2
                  go_ret
                  exact ⟨by first | rfl | (simp [errW_none, errW_some] <;> rfl) | (simp [*, errW_none, errW_some] <;> rfl), by repeat (first | (with_reducible first | exact HB.out | apply below_alloc | apply pw_below_drewN | apply below_drew1) | exact HB.out)⟩
                · rw [if_neg c14] at H
                  have c14b0 : ((bt a1 x5_2) == 10) = false := beq_eq_false_iff_ne.mpr c14
                  have c14b1 : ((bt a1 x5_2) != 10) = true := bne_iff_ne.mpr c14
                  have H' := Aside0.mk H
                  clear H
                  have p13 : 0 ≤ (x5_2 : Int) := of_decide_eq_true (by first | (with_reducible assumption) | assumption)
                  have q13 : x5_2 < (a1.size : Int) := of_decide_eq_true (by first | (with_reducible assumption) | assumption)
                  have hx13 := bt_at a1 x5_2
                  replace p13 := eq_true p13
                  replace q13 := eq_true q13
                  go_wp2
                  go_roundg k2
                  case measure => have := HJ2.out; have := HK2.out; omega
                  case rel => exact ⟨(wrap64 (x5_2 + 1)), (by first | rfl | (simp; done) | (simp [*]; done)), H', ⟨by have := HJ2.out; have := HK2.out; omega⟩, ⟨by repeat (first | (with_reducible first | exact HB.out | apply below_alloc | apply pw_below_drewN | apply below_drew1) | exact HB.out)⟩⟩
              · rw [if_neg c12] at H
                exact absurd H (by simp)
            · rw [if_neg c11] at H
              have c11b0 : decide (x5_2 < (a1.size : Int)) = false := decide_eq_false c11
              clear c11
              replace H := Option.bind_eq_some_iff.mp H
              obtain ⟨⟨t320, t321⟩, A150, H⟩ := H
              replace H : (if t321 = 0 then (bastionlaw02_WordsBlanks.j2 k2 l0 a1 t320 (decide ((wrap64 ((t320.size : Int) + (a1.size : Int))) > 300))) else (bastionlaw02_WordsBlanks.j2 k2 l0 a1 t320 true)) = some r := H
              have A15 := Aside0.mk A150
              clear A150
              have HC16 := Aside0.mk H
              clear H
              go_upto_region 9 with (first | ((with_reducible refine gate_callee (f := 14) rfl ?_); refine goesL_ (some 32) rfl rfl Tryd.func14 (by kernel_rfl) rfl #[.slice A0 l0.length c0] rfl (by (try simp only [List.map_toArray, List.map_cons, List.map_nil]); first | done | rfl | (simp only [List.length_drop, List.length_take]; rfl)) ?_; (with_reducible refine (words_Join.calls k2 _ _ l0 t320 t321 _ ?side1 ?side2 A15.out).mono ?_); (case side1 => repeat (first | exact (Kd.C_below HR0.out HB.out) | (with_reducible refine Kd.C_alloc ?_ _) | (with_reducible refine Kd.C_drewN ?_ _) | (with_reducible refine Kd.C_drew ?_))); (case side2 => exact HC0.out); rintro e w17 ⟨rfl, hb⟩; refine ⟨_, rfl, ?_⟩; have n0_ := Aside0.mk (below_step (by repeat (first | (with_reducible first | exact HB.out | apply below_alloc | apply pw_below_drewN | apply below_drew1) | exact HB.out)) hb); clear HB; have HB := n0_; clear n0_; (try clear hb); (try clear hb2); (try clear hk); (try clear hi)))
              (try simp only [Act.put, List.setIfInBounds_toArray, List.set_cons_zero, List.set_cons_succ])
              go_cut [44] (fun v44 wc => ∃ (kq : Nat) (x44_15 : Bool), v44 = .bool x44_15 ∧ Aside0 (bastionlaw02_WordsBlanks.j2 kq l0 a1 t320 x44_15 = some r) ∧ Aside0 (kq ≤ k2) ∧ Aside0 (Below w.heap.size w wc))
              case first =>
                have H := HC16.out
                clear HC16
                by_cases c18 : t321 = 0
                · rw [if_pos c18] at H
                  have c18b0 : (t321 == 0) = true := beq_iff_eq.mpr c18
                  have c18b1 : (t321 != 0) = false := bne_eq_false_iff_eq.mpr c18
                  clear c18
                  (first | rw [c18b0] | (simp only [i64_w, i32_w]; rw [c18b0]) | skip)
                  have H' := Aside0.mk H
                  clear H
                  go_wp2
                  go_meet
                  case rel => exact ⟨_, (decide ((wrap64 ((t320.size : Int) + (a1.size : Int))) > 300)), (by first | rfl | (simp; done) | (simp [*]; done)), H', ⟨by have := HJ2.out; have := HK2.out; first | omega | exact Nat.le_refl _⟩, ⟨by repeat (first | (with_reducible first | exact HB.out | apply below_alloc | apply pw_below_drewN | apply below_drew1) | exact HB.out)⟩⟩
                · rw [if_neg c18] at H
                  have c18b0 : (t321 == 0) = false := beq_eq_false_iff_ne.mpr c18
                  have c18b1 : (t321 != 0) = true := bne_iff_ne.mpr c18
                  (first | rw [c18b0] | (simp only [i64_w, i32_w]; rw [c18b0]) | skip)
                  have H' := Aside0.mk H
                  clear H
                  go_wp2
                  go_meet
                  case rel => exact ⟨_, (true), (by first | rfl | (simp; done) | (simp [*]; done)), H', ⟨by have := HJ2.out; have := HK2.out; first | omega | exact Nat.le_refl _⟩, ⟨by repeat (first | (with_reducible first | exact HB.out | apply below_alloc | apply pw_below_drewN | apply below_drew1) | exact HB.out)⟩⟩
              case rest =>
                clear HC16
                try clear c1
                try clear p1
                try clear q1
                try clear hx1
                try clear p2
                try clear c5
                try clear p6
                try clear c8
                try clear c9
                try clear c11
                try clear c11b0
                try clear c12
                try clear c12b0
                try clear c13
                try clear p13
                try clear q13
                try clear hx13
                try clear c14
                try clear c14b0
                try clear c14b1
                try clear c18
                try clear c18b0
                try clear c18b1
                try clear p13
                try clear p2
                try clear q13
                obtain ⟨kq, x44_15, rfl, HA, HJ15, HB⟩ := hcut
                cases kq with
                | zero => exact absurd HA.out (by simp [bastionlaw02_WordsBlanks.j2])
                | succ kj15 =>
                  have H := HA.out
                  clear HA
                  simp only [bastionlaw02_WordsBlanks.j2] at H
                  by_cases c19 : x44_15 = true
                  · subst c19
                    have H1 : (some true) = some r := by rw [if_pos rfl] at H; exact H
                    clear H
                    have H := H1
                    clear H1
                    obtain rfl := Option.some.inj H
                    go_wp2
                    go_ret
                    exact ⟨by first | rfl | (simp [errW_none, errW_some] <;> rfl) | (simp [*, errW_none, errW_some] <;> rfl), by repeat (first | (with_reducible first | exact HB.out | apply below_alloc | apply pw_below_drewN | apply below_drew1) | exact HB.out)⟩
                  · replace c19 := Bool.eq_false_iff.mpr c19
                    subst c19
                    have H1 : (if 2 + t320.size ≤ 9223372036854775807 then (if ((⟨#[32, 9]⟩ : ByteArray) ++ t320).size + 3 ≤ 9223372036854775807 then (if (((⟨#[32, 9]⟩ : ByteArray) ++ t320) ++ (⟨#[9, 32, 35]⟩ : ByteArray)).size + a1.size ≤ 9223372036854775807 then ((words_Split.f kj15 ((((⟨#[32, 9]⟩ : ByteArray) ++ t320) ++ (⟨#[9, 32, 35]⟩ : ByteArray)) ++ a1)).bind fun bt322 => (if ((⟨#[10, 9]⟩ : ByteArray) ++ t320).size + 3 ≤ 9223372036854775807 then (if (((⟨#[10, 9]⟩ : ByteArray) ++ t320) ++ (⟨#[32, 10, 35]⟩ : ByteArray)).size + a1.size ≤ 9223372036854775807 then (if ((((⟨#[10, 9]⟩ : ByteArray) ++ t320) ++ (⟨#[32, 10, 35]⟩ : ByteArray)) ++ a1).size + 1 ≤ 9223372036854775807 then ((words_Lines.f kj15 (((((⟨#[10, 9]⟩ : ByteArray) ++ t320) ++ (⟨#[32, 10, 35]⟩ : ByteArray)) ++ a1) ++ (⟨#[10]⟩ : ByteArray))).bind fun bt326 => (if (l0.length : Int) = 0 then (if bt322.2 = 0 then (if (bt322.1.length : Int) = 0 then (if bt326.2.2 = 0 then (some ((bt326.1.length : Int) == 0)) else (some false)) else (some false)) else (some false)) else (if bt322.2 = 0 then ((bastionref02_Same.f kj15 l0 bt322.1).bind fun t331 => (if t331 = true then (if bt326.2.2 = 0 then (if (bt326.1.length : Int) = 1 then (if 0 < (bt326.1.length : Int) then (if ((rd_T40 bt326.1 0).f0) = 2 then ((bastionref02_Same.f kj15 ((rd_T40 bt326.1 0).f1) l0).bind fun t334 => (some t334)) else (some false)) else (none)) else (some false)) else (some false)) else (some false))) else (some false)))) else (none)) else (none)) else (none))) else (none)) else (none)) else (none)) = some r := by rw [if_neg (show ¬ (false = true) by decide)] at H; exact H
                    clear H
                    have H := H1
                    clear H1
                    by_cases c20 : 2 + t320.size ≤ 9223372036854775807
                    · rw [if_pos c20] at H
                      have c20b0 := eq_true c20
                      have c20b1 : decide (2 + t320.size ≤ 9223372036854775807) = true := decide_eq_true c20
                      try have c20b2 : (9223372036854775807 < 2 + t320.size) = False := eq_false (Nat.not_lt.2 c20)
                      by_cases c21 : ((⟨#[32, 9]⟩ : ByteArray) ++ t320).size + 3 ≤ 9223372036854775807
                      · rw [if_pos c21] at H
                        have c21b0 := eq_true c21
                        have c21b1 : decide (((⟨#[32, 9]⟩ : ByteArray) ++ t320).size + 3 ≤ 9223372036854775807) = true := decide_eq_true c21
                        try (have c21s1 := c21b1; simp [-decide_eq_true_eq, -decide_eq_false_iff_not, show (⟨#[32, 9]⟩ : ByteArray).size = 2 from rfl] at c21s1)
                        try have c21b2 : (9223372036854775807 < ((⟨#[32, 9]⟩ : ByteArray) ++ t320).size + 3) = False := eq_false (Nat.not_lt.2 c21)
                        try (have c21t := c21; simp [show (⟨#[32, 9]⟩ : ByteArray).size = 2 from rfl] at c21t; replace c21t := eq_false (Nat.not_lt.2 c21t))
                        try (have c21u := c21; simp only [ByteArray.size_append, show (⟨#[32, 9]⟩ : ByteArray).size = 2 from rfl] at c21u; replace c21u := eq_false (Nat.not_lt.2 c21u))
                        by_cases c22 : (((⟨#[32, 9]⟩ : ByteArray) ++ t320) ++ (⟨#[9, 32, 35]⟩ : ByteArray)).size + a1.size ≤ 9223372036854775807
                        · rw [if_pos c22] at H
                          have c22b0 := eq_true c22
                          have c22b1 : decide ((((⟨#[32, 9]⟩ : ByteArray) ++ t320) ++ (⟨#[9, 32, 35]⟩ : ByteArray)).size + a1.size ≤ 9223372036854775807) = true := decide_eq_true c22
                          try (have c22s1 := c22b1; simp [-decide_eq_true_eq, -decide_eq_false_iff_not, show (⟨#[32, 9]⟩ : ByteArray).size = 2 from rfl, show (⟨#[9, 32, 35]⟩ : ByteArray).size = 3 from rfl] at c22s1)
                          try have c22b2 : (9223372036854775807 < (((⟨#[32, 9]⟩ : ByteArray) ++ t320) ++ (⟨#[9, 32, 35]⟩ : ByteArray)).size + a1.size) = False := eq_false (Nat.not_lt.2 c22)
                          try (have c22t := c22; simp [show (⟨#[32, 9]⟩ : ByteArray).size = 2 from rfl, show (⟨#[9, 32, 35]⟩ : ByteArray).size = 3 from rfl] at c22t; replace c22t := eq_false (Nat.not_lt.2 c22t))
                          try (have c22u := c22; simp only [ByteArray.size_append, show (⟨#[32, 9]⟩ : ByteArray).size = 2 from rfl, show (⟨#[9, 32, 35]⟩ : ByteArray).size = 3 from rfl] at c22u; replace c22u := eq_false (Nat.not_lt.2 c22u))
                          replace H := Option.bind_eq_some_iff.mp H
                          obtain ⟨⟨t322, t323⟩, A230, H⟩ := H
                          replace H : (if ((⟨#[10, 9]⟩ : ByteArray) ++ t320).size + 3 ≤ 9223372036854775807 then (if (((⟨#[10, 9]⟩ : ByteArray) ++ t320) ++ (⟨#[32, 10, 35]⟩ : ByteArray)).size + a1.size ≤ 9223372036854775807 then (if ((((⟨#[10, 9]⟩ : ByteArray) ++ t320) ++ (⟨#[32, 10, 35]⟩ : ByteArray)) ++ a1).size + 1 ≤ 9223372036854775807 then ((words_Lines.f kj15 (((((⟨#[10, 9]⟩ : ByteArray) ++ t320) ++ (⟨#[32, 10, 35]⟩ : ByteArray)) ++ a1) ++ (⟨#[10]⟩ : ByteArray))).bind fun bt326 => (if (l0.length : Int) = 0 then (if t323 = 0 then (if (t322.length : Int) = 0 then (if bt326.2.2 = 0 then (some ((bt326.1.length : Int) == 0)) else (some false)) else (some false)) else (some false)) else (if t323 = 0 then ((bastionref02_Same.f kj15 l0 t322).bind fun t331 => (if t331 = true then (if bt326.2.2 = 0 then (if (bt326.1.length : Int) = 1 then (if 0 < (bt326.1.length : Int) then (if ((rd_T40 bt326.1 0).f0) = 2 then ((bastionref02_Same.f kj15 ((rd_T40 bt326.1 0).f1) l0).bind fun t334 => (some t334)) else (some false)) else (none)) else (some false)) else (some false)) else (some false))) else (some false)))) else (none)) else (none)) else (none)) = some r := H
                          have A23 := Aside0.mk A230
                          clear A230
                          by_cases c24 : ((⟨#[10, 9]⟩ : ByteArray) ++ t320).size + 3 ≤ 9223372036854775807
                          · rw [if_pos c24] at H
                            have c24b0 := eq_true c24
                            have c24b1 : decide (((⟨#[10, 9]⟩ : ByteArray) ++ t320).size + 3 ≤ 9223372036854775807) = true := decide_eq_true c24
                            try (have c24s1 := c24b1; simp [-decide_eq_true_eq, -decide_eq_false_iff_not, show (⟨#[10, 9]⟩ : ByteArray).size = 2 from rfl] at c24s1)
                            try have c24b2 : (9223372036854775807 < ((⟨#[10, 9]⟩ : ByteArray) ++ t320).size + 3) = False := eq_false (Nat.not_lt.2 c24)
                            try (have c24t := c24; simp [show (⟨#[10, 9]⟩ : ByteArray).size = 2 from rfl] at c24t; replace c24t := eq_false (Nat.not_lt.2 c24t))
                            try (have c24u := c24; simp only [ByteArray.size_append, show (⟨#[10, 9]⟩ : ByteArray).size = 2 from rfl] at c24u; replace c24u := eq_false (Nat.not_lt.2 c24u))
                            by_cases c25 : (((⟨#[10, 9]⟩ : ByteArray) ++ t320) ++ (⟨#[32, 10, 35]⟩ : ByteArray)).size + a1.size ≤ 9223372036854775807
                            · rw [if_pos c25] at H
                              have c25b0 := eq_true c25
                              have c25b1 : decide ((((⟨#[10, 9]⟩ : ByteArray) ++ t320) ++ (⟨#[32, 10, 35]⟩ : ByteArray)).size + a1.size ≤ 9223372036854775807) = true := decide_eq_true c25
                              try (have c25s1 := c25b1; simp [-decide_eq_true_eq, -decide_eq_false_iff_not, show (⟨#[10, 9]⟩ : ByteArray).size = 2 from rfl, show (⟨#[32, 10, 35]⟩ : ByteArray).size = 3 from rfl] at c25s1)
                              try have c25b2 : (9223372036854775807 < (((⟨#[10, 9]⟩ : ByteArray) ++ t320) ++ (⟨#[32, 10, 35]⟩ : ByteArray)).size + a1.size) = False := eq_false (Nat.not_lt.2 c25)
                              try (have c25t := c25; simp [show (⟨#[10, 9]⟩ : ByteArray).size = 2 from rfl, show (⟨#[32, 10, 35]⟩ : ByteArray).size = 3 from rfl] at c25t; replace c25t := eq_false (Nat.not_lt.2 c25t))
                              try (have c25u := c25; simp only [ByteArray.size_append, show (⟨#[10, 9]⟩ : ByteArray).size = 2 from rfl, show (⟨#[32, 10, 35]⟩ : ByteArray).size = 3 from rfl] at c25u; replace c25u := eq_false (Nat.not_lt.2 c25u))
                              by_cases c26 : ((((⟨#[10, 9]⟩ : ByteArray) ++ t320) ++ (⟨#[32, 10, 35]⟩ : ByteArray)) ++ a1).size + 1 ≤ 9223372036854775807
                              · rw [if_pos c26] at H
                                have c26b0 := eq_true c26
                                have c26b1 : decide (((((⟨#[10, 9]⟩ : ByteArray) ++ t320) ++ (⟨#[32, 10, 35]⟩ : ByteArray)) ++ a1).size + 1 ≤ 9223372036854775807) = true := decide_eq_true c26
                                try (have c26s1 := c26b1; simp [-decide_eq_true_eq, -decide_eq_false_iff_not, show (⟨#[10, 9]⟩ : ByteArray).size = 2 from rfl, show (⟨#[32, 10, 35]⟩ : ByteArray).size = 3 from rfl] at c26s1)
                                try have c26b2 : (9223372036854775807 < ((((⟨#[10, 9]⟩ : ByteArray) ++ t320) ++ (⟨#[32, 10, 35]⟩ : ByteArray)) ++ a1).size + 1) = False := eq_false (Nat.not_lt.2 c26)
                                try (have c26t := c26; simp [show (⟨#[10, 9]⟩ : ByteArray).size = 2 from rfl, show (⟨#[32, 10, 35]⟩ : ByteArray).size = 3 from rfl] at c26t; replace c26t := eq_false (Nat.not_lt.2 c26t))
                                try (have c26u := c26; simp only [ByteArray.size_append, show (⟨#[10, 9]⟩ : ByteArray).size = 2 from rfl, show (⟨#[32, 10, 35]⟩ : ByteArray).size = 3 from rfl] at c26u; replace c26u := eq_false (Nat.not_lt.2 c26u))
                                replace H := Option.bind_eq_some_iff.mp H
                                obtain ⟨⟨t326, t327, t328⟩, A270, H⟩ := H
                                replace H : (if (l0.length : Int) = 0 then (if t323 = 0 then (if (t322.length : Int) = 0 then (if t328 = 0 then (some ((t326.length : Int) == 0)) else (some false)) else (some false)) else (some false)) else (if t323 = 0 then ((bastionref02_Same.f kj15 l0 t322).bind fun t331 => (if t331 = true then (if t328 = 0 then (if (t326.length : Int) = 1 then (if 0 < (t326.length : Int) then (if ((rd_T40 t326 0).f0) = 2 then ((bastionref02_Same.f kj15 ((rd_T40 t326 0).f1) l0).bind fun t334 => (some t334)) else (some false)) else (none)) else (some false)) else (some false)) else (some false))) else (some false))) = some r := H
                                have A27 := Aside0.mk A270
                                clear A270
                                by_cases c28 : (l0.length : Int) = 0
                                · rw [if_pos c28] at H
                                  have c28b0 : ((l0.length : Int) == 0) = true := beq_iff_eq.mpr c28
                                  have c28b1 : ((l0.length : Int) != 0) = false := bne_eq_false_iff_eq.mpr c28
                                  clear c28
                                  by_cases c29 : t323 = 0
                                  · rw [if_pos c29] at H
                                    have c29b0 : (t323 == 0) = true := beq_iff_eq.mpr c29
                                    have c29b1 : (t323 != 0) = false := bne_eq_false_iff_eq.mpr c29
                                    clear c29
                                    by_cases c30 : (t322.length : Int) = 0
                                    · rw [if_pos c30] at H
                                      have c30b0 : ((t322.length : Int) == 0) = true := beq_iff_eq.mpr c30
                                      have c30b1 : ((t322.length : Int) != 0) = false := bne_eq_false_iff_eq.mpr c30
                                      clear c30
                                      by_cases c31 : t328 = 0
                                      · rw [if_pos c31] at H
                                        have c31b0 : (t328 == 0) = true := beq_iff_eq.mpr c31
                                        have c31b1 : (t328 != 0) = false := bne_eq_false_iff_eq.mpr c31
                                        clear c31
                                        obtain rfl := Option.some.inj H
                                        go_wp2_with (first | ((with_reducible refine gate_callee (f := 10) rfl ?_); refine goesL_ (some 51) rfl rfl Tryd.func10 (by kernel_rfl) rfl #[.string ((((⟨#[32, 9]⟩ : ByteArray) ++ t320) ++ (⟨#[9, 32, 35]⟩ : ByteArray)) ++ a1)] rfl (by (try simp only [List.map_toArray, List.map_cons, List.map_nil]); first | done | rfl | (simp only [List.length_drop, List.length_take]; rfl)) ?_; (with_reducible refine (words_Split.calls kj15 ((((⟨#[32, 9]⟩ : ByteArray) ++ t320) ++ (⟨#[9, 32, 35]⟩ : ByteArray)) ++ a1) t322 t323 _ A23.out).mono ?_); rintro e w32 ⟨v324, rfl, ho0, hb⟩; refine ⟨_, rfl, ?_⟩; have n0_ := Aside0.mk (Kd.R_lower ho0 (below_size (by repeat (first | (with_reducible first | exact HB.out | apply below_alloc | apply pw_below_drewN | apply below_drew1) | exact HB.out)))); have n1_ := Aside0.mk (below_step (by repeat (first | (with_reducible first | exact HB.out | apply below_alloc | apply pw_below_drewN | apply below_drew1) | exact HB.out)) hb); clear HB; have HO325 := n0_; have HB := n1_; clear n0_ n1_; (try clear hb); (try clear hb2); (try clear hk); (try clear hi); (try clear ho0)) | ((with_reducible refine gate_callee (f := 16) rfl ?_); refine goesL_ (some 61) rfl rfl Tryd.func16 (by kernel_rfl) rfl #[.string (((((⟨#[10, 9]⟩ : ByteArray) ++ t320) ++ (⟨#[32, 10, 35]⟩ : ByteArray)) ++ a1) ++ (⟨#[10]⟩ : ByteArray))] rfl (by (try simp only [List.map_toArray, List.map_cons, List.map_nil]); first | done | rfl | (simp only [List.length_drop, List.length_take]; rfl)) ?_; (with_reducible refine (words_Lines.calls kj15 (((((⟨#[10, 9]⟩ : ByteArray) ++ t320) ++ (⟨#[32, 10, 35]⟩ : ByteArray)) ++ a1) ++ (⟨#[10]⟩ : ByteArray)) t326 t327 t328 _ A27.out).mono ?_); rintro e w33 ⟨v329, rfl, ho0, hb⟩; refine ⟨_, rfl, ?_⟩; have n0_ := Aside0.mk (Kd.R_below (by (with_reducible repeat (first | apply Kd.R_alloc | apply Kd.R_drewN | apply Kd.R_drew)); exact HO325.out) hb); have n1_ := Aside0.mk (Kd.S_lower (Kd.S_new' ho0 (Kd.R_lt (by (with_reducible repeat (first | apply Kd.R_alloc | apply Kd.R_drewN | apply Kd.R_drew)); exact HO325.out))) (below_size (by repeat (first | (with_reducible first | exact HB.out | apply below_alloc | apply pw_below_drewN | apply below_drew1) | exact HB.out)))); have n2_ := Aside0.mk (below_step (by repeat (first | (with_reducible first | exact HB.out | apply below_alloc | apply pw_below_drewN | apply below_drew1) | exact HB.out)) hb); clear HO325; clear HB; have HO325 := n0_; have HO330 := n1_; have HB := n2_; clear n0_ n1_ n2_; (try clear hb); (try clear hb2); (try clear hk); (try clear hi); (try clear ho0); obtain ⟨Ao34, co34, eo34⟩ := Kd.R_slice HO325.out; subst eo34; obtain ⟨Ao35, co35, eo35⟩ := Kd.S_slice HO330.out; subst eo35))
                                        go_ret
                                        exact ⟨by first | rfl | (simp [errW_none, errW_some] <;> rfl) | (simp [*, errW_none, errW_some] <;> rfl), by repeat (first | (with_reducible first | exact HB.out | apply below_alloc | apply pw_below_drewN | apply below_drew1) | exact HB.out)⟩
                                      · rw [if_neg c31] at H
                                        have c31b0 : (t328 == 0) = false := beq_eq_false_iff_ne.mpr c31
                                        have c31b1 : (t328 != 0) = true := bne_iff_ne.mpr c31
                                        obtain rfl := Option.some.inj H
                                        go_wp2_with (first | ((with_reducible refine gate_callee (f := 10) rfl ?_); refine goesL_ (some 51) rfl rfl Tryd.func10 (by kernel_rfl) rfl #[.string ((((⟨#[32, 9]⟩ : ByteArray) ++ t320) ++ (⟨#[9, 32, 35]⟩ : ByteArray)) ++ a1)] rfl (by (try simp only [List.map_toArray, List.map_cons, List.map_nil]); first | done | rfl | (simp only [List.length_drop, List.length_take]; rfl)) ?_; (with_reducible refine (words_Split.calls kj15 ((((⟨#[32, 9]⟩ : ByteArray) ++ t320) ++ (⟨#[9, 32, 35]⟩ : ByteArray)) ++ a1) t322 t323 _ A23.out).mono ?_); rintro e w36 ⟨v324, rfl, ho0, hb⟩; refine ⟨_, rfl, ?_⟩; have n0_ := Aside0.mk (Kd.R_lower ho0 (below_size (by repeat (first | (with_reducible first | exact HB.out | apply below_alloc | apply pw_below_drewN | apply below_drew1) | exact HB.out)))); have n1_ := Aside0.mk (below_step (by repeat (first | (with_reducible first | exact HB.out | apply below_alloc | apply pw_below_drewN | apply below_drew1) | exact HB.out)) hb); clear HB; have HO325 := n0_; have HB := n1_; clear n0_ n1_; (try clear hb); (try clear hb2); (try clear hk); (try clear hi); (try clear ho0)) | ((with_reducible refine gate_callee (f := 16) rfl ?_); refine goesL_ (some 61) rfl rfl Tryd.func16 (by kernel_rfl) rfl #[.string (((((⟨#[10, 9]⟩ : ByteArray) ++ t320) ++ (⟨#[32, 10, 35]⟩ : ByteArray)) ++ a1) ++ (⟨#[10]⟩ : ByteArray))] rfl (by (try simp only [List.map_toArray, List.map_cons, List.map_nil]); first | done | rfl | (simp only [List.length_drop, List.length_take]; rfl)) ?_; (with_reducible refine (words_Lines.calls kj15 (((((⟨#[10, 9]⟩ : ByteArray) ++ t320) ++ (⟨#[32, 10, 35]⟩ : ByteArray)) ++ a1) ++ (⟨#[10]⟩ : ByteArray)) t326 t327 t328 _ A27.out).mono ?_); rintro e w37 ⟨v329, rfl, ho0, hb⟩; refine ⟨_, rfl, ?_⟩; have n0_ := Aside0.mk (Kd.R_below (by (with_reducible repeat (first | apply Kd.R_alloc | apply Kd.R_drewN | apply Kd.R_drew)); exact HO325.out) hb); have n1_ := Aside0.mk (Kd.S_lower (Kd.S_new' ho0 (Kd.R_lt (by (with_reducible repeat (first | apply Kd.R_alloc | apply Kd.R_drewN | apply Kd.R_drew)); exact HO325.out))) (below_size (by repeat (first | (with_reducible first | exact HB.out | apply below_alloc | apply pw_below_drewN | apply below_drew1) | exact HB.out)))); have n2_ := Aside0.mk (below_step (by repeat (first | (with_reducible first | exact HB.out | apply below_alloc | apply pw_below_drewN | apply below_drew1) | exact HB.out)) hb); clear HO325; clear HB; have HO325 := n0_; have HO330 := n1_; have HB := n2_; clear n0_ n1_ n2_; (try clear hb); (try clear hb2); (try clear hk); (try clear hi); (try clear ho0); obtain ⟨Ao38, co38, eo38⟩ := Kd.R_slice HO325.out; subst eo38))
                                        go_ret
                                        exact ⟨by first | rfl | (simp [errW_none, errW_some] <;> rfl) | (simp [*, errW_none, errW_some] <;> rfl), by repeat (first | (with_reducible first | exact HB.out | apply below_alloc | apply pw_below_drewN | apply below_drew1) | exact HB.out)⟩
                                    · rw [if_neg c30] at H
                                      have c30b0 : ((t322.length : Int) == 0) = false := beq_eq_false_iff_ne.mpr c30
                                      have c30b1 : ((t322.length : Int) != 0) = true := bne_iff_ne.mpr c30
                                      have c30b2 : ¬ (t322 = []) := fun h_ => c30 (by rw [h_]; rfl)
                                      obtain rfl := Option.some.inj H
                                      go_wp2_with (first | ((with_reducible refine gate_callee (f := 10) rfl ?_); refine goesL_ (some 51) rfl rfl Tryd.func10 (by kernel_rfl) rfl #[.string ((((⟨#[32, 9]⟩ : ByteArray) ++ t320) ++ (⟨#[9, 32, 35]⟩ : ByteArray)) ++ a1)] rfl (by (try simp only [List.map_toArray, List.map_cons, List.map_nil]); first | done | rfl | (simp only [List.length_drop, List.length_take]; rfl)) ?_; (with_reducible refine (words_Split.calls kj15 ((((⟨#[32, 9]⟩ : ByteArray) ++ t320) ++ (⟨#[9, 32, 35]⟩ : ByteArray)) ++ a1) t322 t323 _ A23.out).mono ?_); rintro e w39 ⟨v324, rfl, ho0, hb⟩; refine ⟨_, rfl, ?_⟩; have n0_ := Aside0.mk (Kd.R_lower ho0 (below_size (by repeat (first | (with_reducible first | exact HB.out | apply below_alloc | apply pw_below_drewN | apply below_drew1) | exact HB.out)))); have n1_ := Aside0.mk (below_step (by repeat (first | (with_reducible first | exact HB.out | apply below_alloc | apply pw_below_drewN | apply below_drew1) | exact HB.out)) hb); clear HB; have HO325 := n0_; have HB := n1_; clear n0_ n1_; (try clear hb); (try clear hb2); (try clear hk); (try clear hi); (try clear ho0)) | ((with_reducible refine gate_callee (f := 16) rfl ?_); refine goesL_ (some 61) rfl rfl Tryd.func16 (by kernel_rfl) rfl #[.string (((((⟨#[10, 9]⟩ : ByteArray) ++ t320) ++ (⟨#[32, 10, 35]⟩ : ByteArray)) ++ a1) ++ (⟨#[10]⟩ : ByteArray))] rfl (by (try simp only [List.map_toArray, List.map_cons, List.map_nil]); first | done | rfl | (simp only [List.length_drop, List.length_take]; rfl)) ?_; (with_reducible refine (words_Lines.calls kj15 (((((⟨#[10, 9]⟩ : ByteArray) ++ t320) ++ (⟨#[32, 10, 35]⟩ : ByteArray)) ++ a1) ++ (⟨#[10]⟩ : ByteArray)) t326 t327 t328 _ A27.out).mono ?_); rintro e w40 ⟨v329, rfl, ho0, hb⟩; refine ⟨_, rfl, ?_⟩; have n0_ := Aside0.mk (Kd.R_below (by (with_reducible repeat (first | apply Kd.R_alloc | apply Kd.R_drewN | apply Kd.R_drew)); exact HO325.out) hb); have n1_ := Aside0.mk (Kd.S_lower (Kd.S_new' ho0 (Kd.R_lt (by (with_reducible repeat (first | apply Kd.R_alloc | apply Kd.R_drewN | apply Kd.R_drew)); exact HO325.out))) (below_size (by repeat (first | (with_reducible first | exact HB.out | apply below_alloc | apply pw_below_drewN | apply below_drew1) | exact HB.out)))); have n2_ := Aside0.mk (below_step (by repeat (first | (with_reducible first | exact HB.out | apply below_alloc | apply pw_below_drewN | apply below_drew1) | exact HB.out)) hb); clear HO325; clear HB; have HO325 := n0_; have HO330 := n1_; have HB := n2_; clear n0_ n1_ n2_; (try clear hb); (try clear hb2); (try clear hk); (try clear hi); (try clear ho0); obtain ⟨Ao41, co41, eo41⟩ := Kd.R_slice HO325.out; subst eo41))
                                      go_ret
                                      exact ⟨by first | rfl | (simp [errW_none, errW_some] <;> rfl) | (simp [*, errW_none, errW_some] <;> rfl), by repeat (first | (with_reducible first | exact HB.out | apply below_alloc | apply pw_below_drewN | apply below_drew1) | exact HB.out)⟩
                                  · rw [if_neg c29] at H
                                    have c29b0 : (t323 == 0) = false := beq_eq_false_iff_ne.mpr c29
                                    have c29b1 : (t323 != 0) = true := bne_iff_ne.mpr c29
                                    obtain rfl := Option.some.inj H
                                    go_wp2_with (first | ((with_reducible refine gate_callee (f := 10) rfl ?_); refine goesL_ (some 51) rfl rfl Tryd.func10 (by kernel_rfl) rfl #[.string ((((⟨#[32, 9]⟩ : ByteArray) ++ t320) ++ (⟨#[9, 32, 35]⟩ : ByteArray)) ++ a1)] rfl (by (try simp only [List.map_toArray, List.map_cons, List.map_nil]); first | done | rfl | (simp only [List.length_drop, List.length_take]; rfl)) ?_; (with_reducible refine (words_Split.calls kj15 ((((⟨#[32, 9]⟩ : ByteArray) ++ t320) ++ (⟨#[9, 32, 35]⟩ : ByteArray)) ++ a1) t322 t323 _ A23.out).mono ?_); rintro e w42 ⟨v324, rfl, ho0, hb⟩; refine ⟨_, rfl, ?_⟩; have n0_ := Aside0.mk (Kd.R_lower ho0 (below_size (by repeat (first | (with_reducible first | exact HB.out | apply below_alloc | apply pw_below_drewN | apply below_drew1) | exact HB.out)))); have n1_ := Aside0.mk (below_step (by repeat (first | (with_reducible first | exact HB.out | apply below_alloc | apply pw_below_drewN | apply below_drew1) | exact HB.out)) hb); clear HB; have HO325 := n0_; have HB := n1_; clear n0_ n1_; (try clear hb); (try clear hb2); (try clear hk); (try clear hi); (try clear ho0)) | ((with_reducible refine gate_callee (f := 16) rfl ?_); refine goesL_ (some 61) rfl rfl Tryd.func16 (by kernel_rfl) rfl #[.string (((((⟨#[10, 9]⟩ : ByteArray) ++ t320) ++ (⟨#[32, 10, 35]⟩ : ByteArray)) ++ a1) ++ (⟨#[10]⟩ : ByteArray))] rfl (by (try simp only [List.map_toArray, List.map_cons, List.map_nil]); first | done | rfl | (simp only [List.length_drop, List.length_take]; rfl)) ?_; (with_reducible refine (words_Lines.calls kj15 (((((⟨#[10, 9]⟩ : ByteArray) ++ t320) ++ (⟨#[32, 10, 35]⟩ : ByteArray)) ++ a1) ++ (⟨#[10]⟩ : ByteArray)) t326 t327 t328 _ A27.out).mono ?_); rintro e w43 ⟨v329, rfl, ho0, hb⟩; refine ⟨_, rfl, ?_⟩; have n0_ := Aside0.mk (Kd.R_below (by (with_reducible repeat (first | apply Kd.R_alloc | apply Kd.R_drewN | apply Kd.R_drew)); exact HO325.out) hb); have n1_ := Aside0.mk (Kd.S_lower (Kd.S_new' ho0 (Kd.R_lt (by (with_reducible repeat (first | apply Kd.R_alloc | apply Kd.R_drewN | apply Kd.R_drew)); exact HO325.out))) (below_size (by repeat (first | (with_reducible first | exact HB.out | apply below_alloc | apply pw_below_drewN | apply below_drew1) | exact HB.out)))); have n2_ := Aside0.mk (below_step (by repeat (first | (with_reducible first | exact HB.out | apply below_alloc | apply pw_below_drewN | apply below_drew1) | exact HB.out)) hb); clear HO325; clear HB; have HO325 := n0_; have HO330 := n1_; have HB := n2_; clear n0_ n1_ n2_; (try clear hb); (try clear hb2); (try clear hk); (try clear hi); (try clear ho0)))
                                    go_ret
                                    exact ⟨by first | rfl | (simp [errW_none, errW_some] <;> rfl) | (simp [*, errW_none, errW_some] <;> rfl), by repeat (first | (with_reducible first | exact HB.out | apply below_alloc | apply pw_below_drewN | apply below_drew1) | exact HB.out)⟩
                                · rw [if_neg c28] at H
                                  have c28b0 : ((l0.length : Int) == 0) = false := beq_eq_false_iff_ne.mpr c28
                                  have c28b1 : ((l0.length : Int) != 0) = true := bne_iff_ne.mpr c28
                                  have c28b2 : ¬ (l0 = []) := fun h_ => c28 (by rw [h_]; rfl)
                                  by_cases c44 : t323 = 0
                                  · rw [if_pos c44] at H
                                    have c44b0 : (t323 == 0) = true := beq_iff_eq.mpr c44
                                    have c44b1 : (t323 != 0) = false := bne_eq_false_iff_eq.mpr c44
                                    clear c44
                                    replace H := Option.bind_eq_some_iff.mp H
                                    obtain ⟨t331, A450, H⟩ := H
                                    replace H : (if t331 = true then (if t328 = 0 then (if (t326.length : Int) = 1 then (if 0 < (t326.length : Int) then (if ((rd_T40 t326 0).f0) = 2 then ((bastionref02_Same.f kj15 ((rd_T40 t326 0).f1) l0).bind fun t334 => (some t334)) else (some false)) else (none)) else (some false)) else (some false)) else (some false)) = some r := H
                                    have A45 := Aside0.mk A450
                                    clear A450
                                    by_cases c46 : t331 = true
                                    · subst c46
                                      have H1 : (if t328 = 0 then (if (t326.length : Int) = 1 then (if 0 < (t326.length : Int) then (if ((rd_T40 t326 0).f0) = 2 then ((bastionref02_Same.f kj15 ((rd_T40 t326 0).f1) l0).bind fun t334 => (some t334)) else (some false)) else (none)) else (some false)) else (some false)) = some r := by rw [if_pos rfl] at H; exact H
                                      clear H
                                      have H := H1
                                      clear H1
                                      by_cases c47 : t328 = 0
                                      · rw [if_pos c47] at H
                                        have c47b0 : (t328 == 0) = true := beq_iff_eq.mpr c47
                                        have c47b1 : (t328 != 0) = false := bne_eq_false_iff_eq.mpr c47
                                        clear c47
                                        by_cases c48 : (t326.length : Int) = 1
                                        · rw [if_pos c48] at H
                                          have c48b0 : ((t326.length : Int) == 1) = true := beq_iff_eq.mpr c48
                                          have c48b1 : ((t326.length : Int) != 1) = false := bne_eq_false_iff_eq.mpr c48
                                          clear c48
                                          by_cases c49 : 0 < (t326.length : Int)
                                          · rw [if_pos c49] at H
                                            have c49b0 : decide (0 < (t326.length : Int)) = true := decide_eq_true c49
                                            have c49b1 : decide (0 < t326.length) = true := decide_eq_true (by omega)
                                            clear c49
                                            by_cases c50 : ((rd_T40 t326 0).f0) = 2
                                            · rw [if_pos c50] at H
                                              have c50b0 : (((rd_T40 t326 0).f0) == 2) = true := beq_iff_eq.mpr c50
                                              have c50b1 : (((rd_T40 t326 0).f0) != 2) = false := bne_eq_false_iff_eq.mpr c50
                                              clear c50
                                              replace H := Option.bind_eq_some_iff.mp H
                                              obtain ⟨t334, A510, H⟩ := H
                                              replace H : (some t334) = some r := H
                                              have A51 := Aside0.mk A510
                                              clear A510
                                              obtain rfl := Option.some.inj H
                                              go_wp2_with (first | ((with_reducible refine gate_callee (f := 10) rfl ?_); refine goesL_ (some 51) rfl rfl Tryd.func10 (by kernel_rfl) rfl #[.string ((((⟨#[32, 9]⟩ : ByteArray) ++ t320) ++ (⟨#[9, 32, 35]⟩ : ByteArray)) ++ a1)] rfl (by (try simp only [List.map_toArray, List.map_cons, List.map_nil]); first | done | rfl | (simp only [List.length_drop, List.length_take]; rfl)) ?_; (with_reducible refine (words_Split.calls kj15 ((((⟨#[32, 9]⟩ : ByteArray) ++ t320) ++ (⟨#[9, 32, 35]⟩ : ByteArray)) ++ a1) t322 t323 _ A23.out).mono ?_); rintro e w52 ⟨v324, rfl, ho0, hb⟩; refine ⟨_, rfl, ?_⟩; have n0_ := Aside0.mk (Kd.R_lower ho0 (below_size (by repeat (first | (with_reducible first | exact HB.out | apply below_alloc | apply pw_below_drewN | apply below_drew1) | exact HB.out)))); have n1_ := Aside0.mk (below_step (by repeat (first | (with_reducible first | exact HB.out | apply below_alloc | apply pw_below_drewN | apply below_drew1) | exact HB.out)) hb); clear HB; have HO325 := n0_; have HB := n1_; clear n0_ n1_; (try clear hb); (try clear hb2); (try clear hk); (try clear hi); (try clear ho0)) | ((with_reducible refine gate_callee (f := 16) rfl ?_); refine goesL_ (some 61) rfl rfl Tryd.func16 (by kernel_rfl) rfl #[.string (((((⟨#[10, 9]⟩ : ByteArray) ++ t320) ++ (⟨#[32, 10, 35]⟩ : ByteArray)) ++ a1) ++ (⟨#[10]⟩ : ByteArray))] rfl (by (try simp only [List.map_toArray, List.map_cons, List.map_nil]); first | done | rfl | (simp only [List.length_drop, List.length_take]; rfl)) ?_; (with_reducible refine (words_Lines.calls kj15 (((((⟨#[10, 9]⟩ : ByteArray) ++ t320) ++ (⟨#[32, 10, 35]⟩ : ByteArray)) ++ a1) ++ (⟨#[10]⟩ : ByteArray)) t326 t327 t328 _ A27.out).mono ?_); rintro e w53 ⟨v329, rfl, ho0, hb⟩; refine ⟨_, rfl, ?_⟩; have n0_ := Aside0.mk (Kd.R_below (by (with_reducible repeat (first | apply Kd.R_alloc | apply Kd.R_drewN | apply Kd.R_drew)); exact HO325.out) hb); have n1_ := Aside0.mk (Kd.S_lower (Kd.S_new' ho0 (Kd.R_lt (by (with_reducible repeat (first | apply Kd.R_alloc | apply Kd.R_drewN | apply Kd.R_drew)); exact HO325.out))) (below_size (by repeat (first | (with_reducible first | exact HB.out | apply below_alloc | apply pw_below_drewN | apply below_drew1) | exact HB.out)))); have n2_ := Aside0.mk (below_step (by repeat (first | (with_reducible first | exact HB.out | apply below_alloc | apply pw_below_drewN | apply below_drew1) | exact HB.out)) hb); clear HO325; clear HB; have HO325 := n0_; have HO330 := n1_; have HB := n2_; clear n0_ n1_ n2_; (try clear hb); (try clear hb2); (try clear hk); (try clear hi); (try clear ho0); obtain ⟨Ao54, co54, eo54⟩ := Kd.R_slice HO325.out; subst eo54) | (go_at_call 12; (with_reducible refine (bastionref02_Same.calls kj15 _ _ l0 _ _ t322 true _ ?side1 ?side2 ?side3 ?side4 A45.out).mono ?_); (case side1 => repeat (first | exact (Kd.C_below HR0.out HB.out) | (with_reducible refine Kd.C_alloc ?_ _) | (with_reducible refine Kd.C_drewN ?_ _) | (with_reducible refine Kd.C_drew ?_))); (case side2 => exact HC0.out); (case side3 => repeat (first | exact (Kd.R_reads' HO325.out).2.2 | (with_reducible refine Kd.C_alloc ?_ _) | (with_reducible refine Kd.C_drewN ?_ _) | (with_reducible refine Kd.C_drew ?_))); (case side4 => exact (Kd.R_reads' HO325.out).2.1); rintro e w' ⟨rfl, ⟨nd, rfl⟩⟩; obtain ⟨Ao55, co55, eo55⟩ := Kd.S_slice HO330.out; subst eo55; have p332 : 0 ≤ (0 : Int) := (by omega); have q332 : 0 < (t326.length : Int) := of_decide_eq_true (by first | (with_reducible assumption) | assumption); obtain ⟨ad332, A332_1, c332_1, e332, hx332_0, hx332_1, hl332_1, hi332_1⟩ := at_T40 (Kd.S_reads' HO330.out).2.2 0 p332 q332; cases e332; obtain ⟨ce332, hce332, hMe332, hcc332⟩ := Kd.S_get HO330.out z40 0 p332 (by first | exact q332 | exact of_decide_eq_true (by first | (with_reducible assumption) | assumption) | (have e_ := (Kd.S_reads' HO330.out).1; omega)); obtain ⟨ve332_1, rfl, ge332_1⟩ := k40_openM hMe332; have hv332_1 := hcc332 1 _ rfl; rw [add_field _ _ 1 (by omega)] at hv332_1; replace hv332_1 := Option.some.inj (hv332_1.symm.trans hx332_1); rw [hv332_1] at ge332_1; have HL332_1 := Aside0.mk (show Kd.R Kd.string 9 _ _ _ _ ((rd_T40 t326 0).f1) from ge332_1); clear hv332_1 ge332_1; clear hcc332 hce332; have qi332 : (0 < t326.length) = True := eq_true (by omega); (try rw [show ((0 : Int)).toNat = 0 from rfl] at hx332_0); (try rw [show 0 * 2 = 0 from rfl] at hx332_0); (try rw [Addr.add_zero'] at hx332_0); (try rw [show ((0 : Int)).toNat = 0 from rfl] at hx332_1); (try rw [show 0 * 2 = 0 from rfl] at hx332_1); (try rw [Addr.add_zero'] at hx332_1); have HR332_1 := Aside0.mk hi332_1; have HC332_1 := Aside0.mk hl332_1; clear hi332_1 hl332_1; replace p332 := eq_true p332; replace q332 := eq_true q332; have p333 : 0 ≤ (0 : Int) := (by omega); have q333 : 0 < (t326.length : Int) := of_decide_eq_true (by first | (with_reducible assumption) | assumption); obtain ⟨ad333, A333_1, c333_1, e333, hx333_0, hx333_1, hl333_1, hi333_1⟩ := at_T40 (Kd.S_reads' HO330.out).2.2 0 p333 q333; obtain rfl : ad332 = ad333 := (by injection e333); obtain ⟨ce333, hce333, hMe333, hcc333⟩ := Kd.S_get HO330.out z40 0 p333 (by first | exact q333 | exact of_decide_eq_true (by first | (with_reducible assumption) | assumption) | (have e_ := (Kd.S_reads' HO330.out).1; omega)); obtain ⟨ve333_1, rfl, ge333_1⟩ := k40_openM hMe333; have hv333_1 := hcc333 1 _ rfl; rw [add_field _ _ 1 (by omega)] at hv333_1; replace hv333_1 := Option.some.inj (hv333_1.symm.trans hx333_1); rw [hv333_1] at ge333_1; have HL333_1 := Aside0.mk (show Kd.R Kd.string 9 _ _ _ _ ((rd_T40 t326 0).f1) from ge333_1); clear hv333_1 ge333_1; clear hcc333 hce333; have qi333 : (0 < t326.length) = True := eq_true (by omega); (try rw [show ((0 : Int)).toNat = 0 from rfl] at hx333_0); (try rw [show 0 * 2 = 0 from rfl] at hx333_0); (try rw [Addr.add_zero'] at hx333_0); (try rw [show ((0 : Int)).toNat = 0 from rfl] at hx333_1); (try rw [show 0 * 2 = 0 from rfl] at hx333_1); (try rw [Addr.add_zero'] at hx333_1); have HR333_1 := Aside0.mk hi333_1; have HC333_1 := Aside0.mk hl333_1; clear hi333_1 hl333_1; replace p333 := eq_true p333; replace q333 := eq_true q333; have ea_ := Option.some.inj (hx332_1.symm.trans hx333_1); injection ea_ with ea_ en_ ec_; subst ea_; subst ec_; clear en_) | (go_at_call 12; (with_reducible refine (bastionref02_Same.calls kj15 _ _ ((rd_T40 t326 0).f1) _ _ l0 t334 _ ?side1 ?side2 ?side3 ?side4 A51.out).mono ?_); (case side1 => repeat (first | exact (by repeat (first | (with_reducible exact HR333_1.out) | (with_reducible refine Kd.C_alloc ?_ _) | (with_reducible refine Kd.C_drewN ?_ _) | (with_reducible refine Kd.C_drew ?_) | exact HR333_1.out)) | (with_reducible refine Kd.C_alloc ?_ _) | (with_reducible refine Kd.C_drewN ?_ _) | (with_reducible refine Kd.C_drew ?_))); (case side2 => exact HC333_1.out); (case side3 => repeat (first | exact (Kd.C_below HR0.out (by repeat (first | (with_reducible first | exact HB.out | apply below_alloc | apply pw_below_drewN | apply below_drew1) | exact HB.out))) | (with_reducible refine Kd.C_alloc ?_ _) | (with_reducible refine Kd.C_drewN ?_ _) | (with_reducible refine Kd.C_drew ?_))); (case side4 => exact HC0.out); rintro e w' ⟨rfl, ⟨nd, rfl⟩⟩))
                                              go_ret
                                              exact ⟨by first | rfl | (simp [errW_none, errW_some] <;> rfl) | (simp [*, errW_none, errW_some] <;> rfl), by repeat (first | (with_reducible first | exact HB.out | apply below_alloc | apply pw_below_drewN | apply below_drew1) | exact HB.out)⟩
                                            · rw [if_neg c50] at H
                                              have c50b0 : (((rd_T40 t326 0).f0) == 2) = false := beq_eq_false_iff_ne.mpr c50
                                              have c50b1 : (((rd_T40 t326 0).f0) != 2) = true := bne_iff_ne.mpr c50
                                              obtain rfl := Option.some.inj H
                                              go_wp2_with (first | ((with_reducible refine gate_callee (f := 10) rfl ?_); refine goesL_ (some 51) rfl rfl Tryd.func10 (by kernel_rfl) rfl #[.string ((((⟨#[32, 9]⟩ : ByteArray) ++ t320) ++ (⟨#[9, 32, 35]⟩ : ByteArray)) ++ a1)] rfl (by (try simp only [List.map_toArray, List.map_cons, List.map_nil]); first | done | rfl | (simp only [List.length_drop, List.length_take]; rfl)) ?_; (with_reducible refine (words_Split.calls kj15 ((((⟨#[32, 9]⟩ : ByteArray) ++ t320) ++ (⟨#[9, 32, 35]⟩ : ByteArray)) ++ a1) t322 t323 _ A23.out).mono ?_); rintro e w56 ⟨v324, rfl, ho0, hb⟩; refine ⟨_, rfl, ?_⟩; have n0_ := Aside0.mk (Kd.R_lower ho0 (below_size (by repeat (first | (with_reducible first | exact HB.out | apply below_alloc | apply pw_below_drewN | apply below_drew1) | exact HB.out)))); have n1_ := Aside0.mk (below_step (by repeat (first | (with_reducible first | exact HB.out | apply below_alloc | apply pw_below_drewN | apply below_drew1) | exact HB.out)) hb); clear HB; have HO325 := n0_; have HB := n1_; clear n0_ n1_; (try clear hb); (try clear hb2); (try clear hk); (try clear hi); (try clear ho0)) | ((with_reducible refine gate_callee (f := 16) rfl ?_); refine goesL_ (some 61) rfl rfl Tryd.func16 (by kernel_rfl) rfl #[.string (((((⟨#[10, 9]⟩ : ByteArray) ++ t320) ++ (⟨#[32, 10, 35]⟩ : ByteArray)) ++ a1) ++ (⟨#[10]⟩ : ByteArray))] rfl (by (try simp only [List.map_toArray, List.map_cons, List.map_nil]); first | done | rfl | (simp only [List.length_drop, List.length_take]; rfl)) ?_; (with_reducible refine (words_Lines.calls kj15 (((((⟨#[10, 9]⟩ : ByteArray) ++ t320) ++ (⟨#[32, 10, 35]⟩ : ByteArray)) ++ a1) ++ (⟨#[10]⟩ : ByteArray)) t326 t327 t328 _ A27.out).mono ?_); rintro e w57 ⟨v329, rfl, ho0, hb⟩; refine ⟨_, rfl, ?_⟩; have n0_ := Aside0.mk (Kd.R_below (by (with_reducible repeat (first | apply Kd.R_alloc | apply Kd.R_drewN | apply Kd.R_drew)); exact HO325.out) hb); have n1_ := Aside0.mk (Kd.S_lower (Kd.S_new' ho0 (Kd.R_lt (by (with_reducible repeat (first | apply Kd.R_alloc | apply Kd.R_drewN | apply Kd.R_drew)); exact HO325.out))) (below_size (by repeat (first | (with_reducible first | exact HB.out | apply below_alloc | apply pw_below_drewN | apply below_drew1) | exact HB.out)))); have n2_ := Aside0.mk (below_step (by repeat (first | (with_reducible first | exact HB.out | apply below_alloc | apply pw_below_drewN | apply below_drew1) | exact HB.out)) hb); clear HO325; clear HB; have HO325 := n0_; have HO330 := n1_; have HB := n2_; clear n0_ n1_ n2_; (try clear hb); (try clear hb2); (try clear hk); (try clear hi); (try clear ho0); obtain ⟨Ao58, co58, eo58⟩ := Kd.R_slice HO325.out; subst eo58) | (go_at_call 12; (with_reducible refine (bastionref02_Same.calls kj15 _ _ l0 _ _ t322 true _ ?side1 ?side2 ?side3 ?side4 A45.out).mono ?_); (case side1 => repeat (first | exact (Kd.C_below HR0.out HB.out) | (with_reducible refine Kd.C_alloc ?_ _) | (with_reducible refine Kd.C_drewN ?_ _) | (with_reducible refine Kd.C_drew ?_))); (case side2 => exact HC0.out); (case side3 => repeat (first | exact (Kd.R_reads' HO325.out).2.2 | (with_reducible refine Kd.C_alloc ?_ _) | (with_reducible refine Kd.C_drewN ?_ _) | (with_reducible refine Kd.C_drew ?_))); (case side4 => exact (Kd.R_reads' HO325.out).2.1); rintro e w' ⟨rfl, ⟨nd, rfl⟩⟩; obtain ⟨Ao59, co59, eo59⟩ := Kd.S_slice HO330.out; subst eo59; have p332 : 0 ≤ (0 : Int) := (by omega); have q332 : 0 < (t326.length : Int) := of_decide_eq_true (by first | (with_reducible assumption) | assumption); obtain ⟨ad332, A332_1, c332_1, e332, hx332_0, hx332_1, hl332_1, hi332_1⟩ := at_T40 (Kd.S_reads' HO330.out).2.2 0 p332 q332; cases e332; obtain ⟨ce332, hce332, hMe332, hcc332⟩ := Kd.S_get HO330.out z40 0 p332 (by first | exact q332 | exact of_decide_eq_true (by first | (with_reducible assumption) | assumption) | (have e_ := (Kd.S_reads' HO330.out).1; omega)); obtain ⟨ve332_1, rfl, ge332_1⟩ := k40_openM hMe332; have hv332_1 := hcc332 1 _ rfl; rw [add_field _ _ 1 (by omega)] at hv332_1; replace hv332_1 := Option.some.inj (hv332_1.symm.trans hx332_1); rw [hv332_1] at ge332_1; have HL332_1 := Aside0.mk (show Kd.R Kd.string 9 _ _ _ _ ((rd_T40 t326 0).f1) from ge332_1); clear hv332_1 ge332_1; clear hcc332 hce332; have qi332 : (0 < t326.length) = True := eq_true (by omega); (try rw [show ((0 : Int)).toNat = 0 from rfl] at hx332_0); (try rw [show 0 * 2 = 0 from rfl] at hx332_0); (try rw [Addr.add_zero'] at hx332_0); (try rw [show ((0 : Int)).toNat = 0 from rfl] at hx332_1); (try rw [show 0 * 2 = 0 from rfl] at hx332_1); (try rw [Addr.add_zero'] at hx332_1); have HR332_1 := Aside0.mk hi332_1; have HC332_1 := Aside0.mk hl332_1; clear hi332_1 hl332_1; replace p332 := eq_true p332; replace q332 := eq_true q332))
                                              go_ret
                                              exact ⟨by first | rfl | (simp [errW_none, errW_some] <;> rfl) | (simp [*, errW_none, errW_some] <;> rfl), by repeat (first | (with_reducible first | exact HB.out | apply below_alloc | apply pw_below_drewN | apply below_drew1) | exact HB.out)⟩
                                          · rw [if_neg c49] at H
                                            exact absurd H (by simp)
                                        · rw [if_neg c48] at H
                                          have c48b0 : ((t326.length : Int) == 1) = false := beq_eq_false_iff_ne.mpr c48
                                          have c48b1 : ((t326.length : Int) != 1) = true := bne_iff_ne.mpr c48
                                          obtain rfl := Option.some.inj H
                                          go_wp2_with (first | ((with_reducible refine gate_callee (f := 10) rfl ?_); refine goesL_ (some 51) rfl rfl Tryd.func10 (by kernel_rfl) rfl #[.string ((((⟨#[32, 9]⟩ : ByteArray) ++ t320) ++ (⟨#[9, 32, 35]⟩ : ByteArray)) ++ a1)] rfl (by (try simp only [List.map_toArray, List.map_cons, List.map_nil]); first | done | rfl | (simp only [List.length_drop, List.length_take]; rfl)) ?_; (with_reducible refine (words_Split.calls kj15 ((((⟨#[32, 9]⟩ : ByteArray) ++ t320) ++ (⟨#[9, 32, 35]⟩ : ByteArray)) ++ a1) t322 t323 _ A23.out).mono ?_); rintro e w60 ⟨v324, rfl, ho0, hb⟩; refine ⟨_, rfl, ?_⟩; have n0_ := Aside0.mk (Kd.R_lower ho0 (below_size (by repeat (first | (with_reducible first | exact HB.out | apply below_alloc | apply pw_below_drewN | apply below_drew1) | exact HB.out)))); have n1_ := Aside0.mk (below_step (by repeat (first | (with_reducible first | exact HB.out | apply below_alloc | apply pw_below_drewN | apply below_drew1) | exact HB.out)) hb); clear HB; have HO325 := n0_; have HB := n1_; clear n0_ n1_; (try clear hb); (try clear hb2); (try clear hk); (try clear hi); (try clear ho0)) | ((with_reducible refine gate_callee (f := 16) rfl ?_); refine goesL_ (some 61) rfl rfl Tryd.func16 (by kernel_rfl) rfl #[.string (((((⟨#[10, 9]⟩ : ByteArray) ++ t320) ++ (⟨#[32, 10, 35]⟩ : ByteArray)) ++ a1) ++ (⟨#[10]⟩ : ByteArray))] rfl (by (try simp only [List.map_toArray, List.map_cons, List.map_nil]); first | done | rfl | (simp only [List.length_drop, List.length_take]; rfl)) ?_; (with_reducible refine (words_Lines.calls kj15 (((((⟨#[10, 9]⟩ : ByteArray) ++ t320) ++ (⟨#[32, 10, 35]⟩ : ByteArray)) ++ a1) ++ (⟨#[10]⟩ : ByteArray)) t326 t327 t328 _ A27.out).mono ?_); rintro e w61 ⟨v329, rfl, ho0, hb⟩; refine ⟨_, rfl, ?_⟩; have n0_ := Aside0.mk (Kd.R_below (by (with_reducible repeat (first | apply Kd.R_alloc | apply Kd.R_drewN | apply Kd.R_drew)); exact HO325.out) hb); have n1_ := Aside0.mk (Kd.S_lower (Kd.S_new' ho0 (Kd.R_lt (by (with_reducible repeat (first | apply Kd.R_alloc | apply Kd.R_drewN | apply Kd.R_drew)); exact HO325.out))) (below_size (by repeat (first | (with_reducible first | exact HB.out | apply below_alloc | apply pw_below_drewN | apply below_drew1) | exact HB.out)))); have n2_ := Aside0.mk (below_step (by repeat (first | (with_reducible first | exact HB.out | apply below_alloc | apply pw_below_drewN | apply below_drew1) | exact HB.out)) hb); clear HO325; clear HB; have HO325 := n0_; have HO330 := n1_; have HB := n2_; clear n0_ n1_ n2_; (try clear hb); (try clear hb2); (try clear hk); (try clear hi); (try clear ho0); obtain ⟨Ao62, co62, eo62⟩ := Kd.R_slice HO325.out; subst eo62) | (go_at_call 12; (with_reducible refine (bastionref02_Same.calls kj15 _ _ l0 _ _ t322 true _ ?side1 ?side2 ?side3 ?side4 A45.out).mono ?_); (case side1 => repeat (first | exact (Kd.C_below HR0.out HB.out) | (with_reducible refine Kd.C_alloc ?_ _) | (with_reducible refine Kd.C_drewN ?_ _) | (with_reducible refine Kd.C_drew ?_))); (case side2 => exact HC0.out); (case side3 => repeat (first | exact (Kd.R_reads' HO325.out).2.2 | (with_reducible refine Kd.C_alloc ?_ _) | (with_reducible refine Kd.C_drewN ?_ _) | (with_reducible refine Kd.C_drew ?_))); (case side4 => exact (Kd.R_reads' HO325.out).2.1); rintro e w' ⟨rfl, ⟨nd, rfl⟩⟩; obtain ⟨Ao63, co63, eo63⟩ := Kd.S_slice HO330.out; subst eo63))
                                          go_ret
                                          exact ⟨by first | rfl | (simp [errW_none, errW_some] <;> rfl) | (simp [*, errW_none, errW_some] <;> rfl), by repeat (first | (with_reducible first | exact HB.out | apply below_alloc | apply pw_below_drewN | apply below_drew1) | exact HB.out)⟩
                                      · rw [if_neg c47] at H
                                        have c47b0 : (t328 == 0) = false := beq_eq_false_iff_ne.mpr c47
                                        have c47b1 : (t328 != 0) = true := bne_iff_ne.mpr c47
                                        obtain rfl := Option.some.inj H
                                        go_wp2_with (first | ((with_reducible refine gate_callee (f := 10) rfl ?_); refine goesL_ (some 51) rfl rfl Tryd.func10 (by kernel_rfl) rfl #[.string ((((⟨#[32, 9]⟩ : ByteArray) ++ t320) ++ (⟨#[9, 32, 35]⟩ : ByteArray)) ++ a1)] rfl (by (try simp only [List.map_toArray, List.map_cons, List.map_nil]); first | done | rfl | (simp only [List.length_drop, List.length_take]; rfl)) ?_; (with_reducible refine (words_Split.calls kj15 ((((⟨#[32, 9]⟩ : ByteArray) ++ t320) ++ (⟨#[9, 32, 35]⟩ : ByteArray)) ++ a1) t322 t323 _ A23.out).mono ?_); rintro e w64 ⟨v324, rfl, ho0, hb⟩; refine ⟨_, rfl, ?_⟩; have n0_ := Aside0.mk (Kd.R_lower ho0 (below_size (by repeat (first | (with_reducible first | exact HB.out | apply below_alloc | apply pw_below_drewN | apply below_drew1) | exact HB.out)))); have n1_ := Aside0.mk (below_step (by repeat (first | (with_reducible first | exact HB.out | apply below_alloc | apply pw_below_drewN | apply below_drew1) | exact HB.out)) hb); clear HB; have HO325 := n0_; have HB := n1_; clear n0_ n1_; (try clear hb); (try clear hb2); (try clear hk); (try clear hi); (try clear ho0)) | ((with_reducible refine gate_callee (f := 16) rfl ?_); refine goesL_ (some 61) rfl rfl Tryd.func16 (by kernel_rfl) rfl #[.string (((((⟨#[10, 9]⟩ : ByteArray) ++ t320) ++ (⟨#[32, 10, 35]⟩ : ByteArray)) ++ a1) ++ (⟨#[10]⟩ : ByteArray))] rfl (by (try simp only [List.map_toArray, List.map_cons, List.map_nil]); first | done | rfl | (simp only [List.length_drop, List.length_take]; rfl)) ?_; (with_reducible refine (words_Lines.calls kj15 (((((⟨#[10, 9]⟩ : ByteArray) ++ t320) ++ (⟨#[32, 10, 35]⟩ : ByteArray)) ++ a1) ++ (⟨#[10]⟩ : ByteArray)) t326 t327 t328 _ A27.out).mono ?_); rintro e w65 ⟨v329, rfl, ho0, hb⟩; refine ⟨_, rfl, ?_⟩; have n0_ := Aside0.mk (Kd.R_below (by (with_reducible repeat (first | apply Kd.R_alloc | apply Kd.R_drewN | apply Kd.R_drew)); exact HO325.out) hb); have n1_ := Aside0.mk (Kd.S_lower (Kd.S_new' ho0 (Kd.R_lt (by (with_reducible repeat (first | apply Kd.R_alloc | apply Kd.R_drewN | apply Kd.R_drew)); exact HO325.out))) (below_size (by repeat (first | (with_reducible first | exact HB.out | apply below_alloc | apply pw_below_drewN | apply below_drew1) | exact HB.out)))); have n2_ := Aside0.mk (below_step (by repeat (first | (with_reducible first | exact HB.out | apply below_alloc | apply pw_below_drewN | apply below_drew1) | exact HB.out)) hb); clear HO325; clear HB; have HO325 := n0_; have HO330 := n1_; have HB := n2_; clear n0_ n1_ n2_; (try clear hb); (try clear hb2); (try clear hk); (try clear hi); (try clear ho0); obtain ⟨Ao66, co66, eo66⟩ := Kd.R_slice HO325.out; subst eo66) | (go_at_call 12; (with_reducible refine (bastionref02_Same.calls kj15 _ _ l0 _ _ t322 true _ ?side1 ?side2 ?side3 ?side4 A45.out).mono ?_); (case side1 => repeat (first | exact (Kd.C_below HR0.out HB.out) | (with_reducible refine Kd.C_alloc ?_ _) | (with_reducible refine Kd.C_drewN ?_ _) | (with_reducible refine Kd.C_drew ?_))); (case side2 => exact HC0.out); (case side3 => repeat (first | exact (Kd.R_reads' HO325.out).2.2 | (with_reducible refine Kd.C_alloc ?_ _) | (with_reducible refine Kd.C_drewN ?_ _) | (with_reducible refine Kd.C_drew ?_))); (case side4 => exact (Kd.R_reads' HO325.out).2.1); rintro e w' ⟨rfl, ⟨nd, rfl⟩⟩))
                                        go_ret
                                        exact ⟨by first | rfl | (simp [errW_none, errW_some] <;> rfl) | (simp [*, errW_none, errW_some] <;> rfl), by repeat (first | (with_reducible first | exact HB.out | apply below_alloc | apply pw_below_drewN | apply below_drew1) | exact HB.out)⟩
                                    · replace c46 := Bool.eq_false_iff.mpr c46
                                      subst c46
                                      have H1 : (some false) = some r := by rw [if_neg (show ¬ (false = true) by decide)] at H; exact H
                                      clear H
                                      have H := H1
                                      clear H1
                                      obtain rfl := Option.some.inj H
                                      go_wp2_with (first | ((with_reducible refine gate_callee (f := 10) rfl ?_); refine goesL_ (some 51) rfl rfl Tryd.func10 (by kernel_rfl) rfl #[.string ((((⟨#[32, 9]⟩ : ByteArray) ++ t320) ++ (⟨#[9, 32, 35]⟩ : ByteArray)) ++ a1)] rfl (by (try simp only [List.map_toArray, List.map_cons, List.map_nil]); first | done | rfl | (simp only [List.length_drop, List.length_take]; rfl)) ?_; (with_reducible refine (words_Split.calls kj15 ((((⟨#[32, 9]⟩ : ByteArray) ++ t320) ++ (⟨#[9, 32, 35]⟩ : ByteArray)) ++ a1) t322 t323 _ A23.out).mono ?_); rintro e w67 ⟨v324, rfl, ho0, hb⟩; refine ⟨_, rfl, ?_⟩; have n0_ := Aside0.mk (Kd.R_lower ho0 (below_size (by repeat (first | (with_reducible first | exact HB.out | apply below_alloc | apply pw_below_drewN | apply below_drew1) | exact HB.out)))); have n1_ := Aside0.mk (below_step (by repeat (first | (with_reducible first | exact HB.out | apply below_alloc | apply pw_below_drewN | apply below_drew1) | exact HB.out)) hb); clear HB; have HO325 := n0_; have HB := n1_; clear n0_ n1_; (try clear hb); (try clear hb2); (try clear hk); (try clear hi); (try clear ho0)) | ((with_reducible refine gate_callee (f := 16) rfl ?_); refine goesL_ (some 61) rfl rfl Tryd.func16 (by kernel_rfl) rfl #[.string (((((⟨#[10, 9]⟩ : ByteArray) ++ t320) ++ (⟨#[32, 10, 35]⟩ : ByteArray)) ++ a1) ++ (⟨#[10]⟩ : ByteArray))] rfl (by (try simp only [List.map_toArray, List.map_cons, List.map_nil]); first | done | rfl | (simp only [List.length_drop, List.length_take]; rfl)) ?_; (with_reducible refine (words_Lines.calls kj15 (((((⟨#[10, 9]⟩ : ByteArray) ++ t320) ++ (⟨#[32, 10, 35]⟩ : ByteArray)) ++ a1) ++ (⟨#[10]⟩ : ByteArray)) t326 t327 t328 _ A27.out).mono ?_); rintro e w68 ⟨v329, rfl, ho0, hb⟩; refine ⟨_, rfl, ?_⟩; have n0_ := Aside0.mk (Kd.R_below (by (with_reducible repeat (first | apply Kd.R_alloc | apply Kd.R_drewN | apply Kd.R_drew)); exact HO325.out) hb); have n1_ := Aside0.mk (Kd.S_lower (Kd.S_new' ho0 (Kd.R_lt (by (with_reducible repeat (first | apply Kd.R_alloc | apply Kd.R_drewN | apply Kd.R_drew)); exact HO325.out))) (below_size (by repeat (first | (with_reducible first | exact HB.out | apply below_alloc | apply pw_below_drewN | apply below_drew1) | exact HB.out)))); have n2_ := Aside0.mk (below_step (by repeat (first | (with_reducible first | exact HB.out | apply below_alloc | apply pw_below_drewN | apply below_drew1) | exact HB.out)) hb); clear HO325; clear HB; have HO325 := n0_; have HO330 := n1_; have HB := n2_; clear n0_ n1_ n2_; (try clear hb); (try clear hb2); (try clear hk); (try clear hi); (try clear ho0); obtain ⟨Ao69, co69, eo69⟩ := Kd.R_slice HO325.out; subst eo69) | (go_at_call 12; (with_reducible refine (bastionref02_Same.calls kj15 _ _ l0 _ _ t322 false _ ?side1 ?side2 ?side3 ?side4 A45.out).mono ?_); (case side1 => repeat (first | exact (Kd.C_below HR0.out HB.out) | (with_reducible refine Kd.C_alloc ?_ _) | (with_reducible refine Kd.C_drewN ?_ _) | (with_reducible refine Kd.C_drew ?_))); (case side2 => exact HC0.out); (case side3 => repeat (first | exact (Kd.R_reads' HO325.out).2.2 | (with_reducible refine Kd.C_alloc ?_ _) | (with_reducible refine Kd.C_drewN ?_ _) | (with_reducible refine Kd.C_drew ?_))); (case side4 => exact (Kd.R_reads' HO325.out).2.1); rintro e w' ⟨rfl, ⟨nd, rfl⟩⟩))
                                      go_ret
                                      exact ⟨by first | rfl | (simp [errW_none, errW_some] <;> rfl) | (simp [*, errW_none, errW_some] <;> rfl), by repeat (first | (with_reducible first | exact HB.out | apply below_alloc | apply pw_below_drewN | apply below_drew1) | exact HB.out)⟩
                                  · rw [if_neg c44] at H
                                    have c44b0 : (t323 == 0) = false := beq_eq_false_iff_ne.mpr c44
                                    have c44b1 : (t323 != 0) = true := bne_iff_ne.mpr c44
                                    obtain rfl := Option.some.inj H
                                    go_wp2_with (first | ((with_reducible refine gate_callee (f := 10) rfl ?_); refine goesL_ (some 51) rfl rfl Tryd.func10 (by kernel_rfl) rfl #[.string ((((⟨#[32, 9]⟩ : ByteArray) ++ t320) ++ (⟨#[9, 32, 35]⟩ : ByteArray)) ++ a1)] rfl (by (try simp only [List.map_toArray, List.map_cons, List.map_nil]); first | done | rfl | (simp only [List.length_drop, List.length_take]; rfl)) ?_; (with_reducible refine (words_Split.calls kj15 ((((⟨#[32, 9]⟩ : ByteArray) ++ t320) ++ (⟨#[9, 32, 35]⟩ : ByteArray)) ++ a1) t322 t323 _ A23.out).mono ?_); rintro e w70 ⟨v324, rfl, ho0, hb⟩; refine ⟨_, rfl, ?_⟩; have n0_ := Aside0.mk (Kd.R_lower ho0 (below_size (by repeat (first | (with_reducible first | exact HB.out | apply below_alloc | apply pw_below_drewN | apply below_drew1) | exact HB.out)))); have n1_ := Aside0.mk (below_step (by repeat (first | (with_reducible first | exact HB.out | apply below_alloc | apply pw_below_drewN | apply below_drew1) | exact HB.out)) hb); clear HB; have HO325 := n0_; have HB := n1_; clear n0_ n1_; (try clear hb); (try clear hb2); (try clear hk); (try clear hi); (try clear ho0)) | ((with_reducible refine gate_callee (f := 16) rfl ?_); refine goesL_ (some 61) rfl rfl Tryd.func16 (by kernel_rfl) rfl #[.string (((((⟨#[10, 9]⟩ : ByteArray) ++ t320) ++ (⟨#[32, 10, 35]⟩ : ByteArray)) ++ a1) ++ (⟨#[10]⟩ : ByteArray))] rfl (by (try simp only [List.map_toArray, List.map_cons, List.map_nil]); first | done | rfl | (simp only [List.length_drop, List.length_take]; rfl)) ?_; (with_reducible refine (words_Lines.calls kj15 (((((⟨#[10, 9]⟩ : ByteArray) ++ t320) ++ (⟨#[32, 10, 35]⟩ : ByteArray)) ++ a1) ++ (⟨#[10]⟩ : ByteArray)) t326 t327 t328 _ A27.out).mono ?_); rintro e w71 ⟨v329, rfl, ho0, hb⟩; refine ⟨_, rfl, ?_⟩; have n0_ := Aside0.mk (Kd.R_below (by (with_reducible repeat (first | apply Kd.R_alloc | apply Kd.R_drewN | apply Kd.R_drew)); exact HO325.out) hb); have n1_ := Aside0.mk (Kd.S_lower (Kd.S_new' ho0 (Kd.R_lt (by (with_reducible repeat (first | apply Kd.R_alloc | apply Kd.R_drewN | apply Kd.R_drew)); exact HO325.out))) (below_size (by repeat (first | (with_reducible first | exact HB.out | apply below_alloc | apply pw_below_drewN | apply below_drew1) | exact HB.out)))); have n2_ := Aside0.mk (below_step (by repeat (first | (with_reducible first | exact HB.out | apply below_alloc | apply pw_below_drewN | apply below_drew1) | exact HB.out)) hb); clear HO325; clear HB; have HO325 := n0_; have HO330 := n1_; have HB := n2_; clear n0_ n1_ n2_; (try clear hb); (try clear hb2); (try clear hk); (try clear hi); (try clear ho0)))
                                    go_ret
                                    exact ⟨by first | rfl | (simp [errW_none, errW_some] <;> rfl) | (simp [*, errW_none, errW_some] <;> rfl), by repeat (first | (with_reducible first | exact HB.out | apply below_alloc | apply pw_below_drewN | apply below_drew1) | exact HB.out)⟩
                              · rw [if_neg c26] at H
                                exact absurd H (by simp)
                            · rw [if_neg c25] at H
                              exact absurd H (by simp)
                          · rw [if_neg c24] at H
                            exact absurd H (by simp)
                        · rw [if_neg c22] at H
                          exact absurd H (by simp)
                      · rw [if_neg c21] at H
                        exact absurd H (by simp)
                    · rw [if_neg c20] at H
                      exact absurd H (by simp)

end Go.Proofs.YtckfpbkckffjjaaDoor.X
