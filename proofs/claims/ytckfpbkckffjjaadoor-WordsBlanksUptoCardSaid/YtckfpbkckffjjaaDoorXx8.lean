-- Written by wip/xprint.py: the kit's print with functions proved by hand in their places. Not trusted: Lean checks it.
import Derived.Test.YtckfpbkckffjjaaDoorXx0
import Derived.Test.YtckfpbkckffjjaaDoorXx3
import Derived.Test.YtckfpbkckffjjaaDoorXx5
import Derived.Test.YtckfpbkckffjjaaDoorXx7
namespace Go.Proofs.YtckfpbkckffjjaaDoor.X
open Go.RowKit Go.Proofs.YtckfpbkckffjjaaDoorW.PrintWords Go.Proofs.YtckfpbkckffjjaaDoorW.PrintLast Go.Proofs.YtckfpbkckffjjaaDoorW.PrintMore
attribute [local go_sem] max2_int min2_int max_two min_two max_three min_three max_four min_four   -- for this text's walks alone
set_option linter.unusedVariables false
set_option linter.unusedSimpArgs false

/-! ### bastionref02_Lines: function 17 -/
mutual
def bastionref02_Lines.l0 : Nat → ByteArray → List (S41) → Int → Int → Int → Option ((List (S41)) × Int × Int)
  | 0, _, _, _, _, _ => none
  | k + 1, x0, x5, x6, x7, x8 => if x8 ≤ (x0.size : Int) then (if x8 < (x0.size : Int) then (if 0 ≤ x8 then (bastionref02_Lines.j1 k x0 x5 x6 x7 x8 ((bt x0 x8) != 10)) else (none)) else (bastionref02_Lines.j1 k x0 x5 x6 x7 x8 false)) else (some (x5, 0, 0))
def bastionref02_Lines.j1 : Nat → ByteArray → List (S41) → Int → Int → Int → Bool → Option ((List (S41)) × Int × Int)
  | 0, _, _, _, _, _, _ => none
  | k + 1, x0, x5, x6, x7, x8, x26 => if x26 = true then (bastionref02_Lines.l0 k x0 x5 x6 x7 (wrap64 (x8 + 1))) else (if 0 ≤ x6 then (if x6 ≤ x8 then (if x8 ≤ (x0.size : Int) then ((bastionref02_Split.f k (x0.extract (x6 : Int).toNat (x8 : Int).toNat)).bind fun bt252 => (if bt252.2 = 0 then (if (bt252.1.length : Int) > 0 then (if x5.length < 4398046511104 then (bastionref02_Lines.l0 k x0 (x5 ++ [(⟨x7, bt252.1⟩ : S41)]) (wrap64 (x8 + 1)) (wrap64 (x7 + 1)) (wrap64 (x8 + 1))) else (none)) else (bastionref02_Lines.l0 k x0 x5 (wrap64 (x8 + 1)) (wrap64 (x7 + 1)) (wrap64 (x8 + 1)))) else (some (([] : List (S41)), x7, bt252.2)))) else (none)) else (none)) else (none))
end
def bastionref02_Lines.f (k : Nat) (a0 : ByteArray) : Option ((List (S41)) × Int × Int) := bastionref02_Lines.l0 k a0 ([] : List (S41)) 0 1 0
theorem bastionref02_Lines.mono_l : ∀ k, (∀ y0 y1 y2 y3 y4, LeO (bastionref02_Lines.l0 k y0 y1 y2 y3 y4) (bastionref02_Lines.l0 (k + 1) y0 y1 y2 y3 y4)) ∧ (∀ y0 y1 y2 y3 y4 y5, LeO (bastionref02_Lines.j1 k y0 y1 y2 y3 y4 y5) (bastionref02_Lines.j1 (k + 1) y0 y1 y2 y3 y4 y5))
  | 0 => ⟨fun _ _ _ _ _ r h => by simp [bastionref02_Lines.l0] at h, fun _ _ _ _ _ _ r h => by simp [bastionref02_Lines.j1] at h⟩
  | k + 1 => by
    obtain ⟨ih0, ih1⟩ := bastionref02_Lines.mono_l k
    refine ⟨?_, ?_⟩
    · intro y0 y1 y2 y3 y4
      unfold bastionref02_Lines.l0
      repeat' first
      | (with_reducible exact ih0 _ _ _ _ _)
      | (with_reducible exact ih1 _ _ _ _ _ _)
      | (with_reducible exact bastionref02_Split.mono _ _)
      | (with_reducible exact LeO.refl _)
      | (with_reducible exact LeO.none _)
      | (with_reducible refine LeO.ite ?_ ?_)
      | (with_reducible refine LeO.bind ?_ (fun _ => ?_))
      | exact ih0 _ _ _ _ _
      | exact ih1 _ _ _ _ _ _
      | exact bastionref02_Split.mono _ _
      | exact LeO.none _
      | refine LeO.ite ?_ ?_
      | refine LeO.bind ?_ (fun _ => ?_)
    · intro y0 y1 y2 y3 y4 y5
      unfold bastionref02_Lines.j1
      repeat' first
      | (with_reducible exact ih0 _ _ _ _ _)
      | (with_reducible exact ih1 _ _ _ _ _ _)
      | (with_reducible exact bastionref02_Split.mono _ _)
      | (with_reducible exact LeO.refl _)
      | (with_reducible exact LeO.none _)
      | (with_reducible refine LeO.ite ?_ ?_)
      | (with_reducible refine LeO.bind ?_ (fun _ => ?_))
      | exact ih0 _ _ _ _ _
      | exact ih1 _ _ _ _ _ _
      | exact bastionref02_Split.mono _ _
      | exact LeO.none _
      | refine LeO.ite ?_ ?_
      | refine LeO.bind ?_ (fun _ => ?_)
theorem bastionref02_Lines.mono : ∀ a0 k, LeO (bastionref02_Lines.f k a0) (bastionref02_Lines.f (k + 1) a0) := by
  intro a0 k
  obtain ⟨ih0, ih1⟩ := bastionref02_Lines.mono_l k
  unfold bastionref02_Lines.f
  repeat' first
      | (with_reducible exact ih0 _ _ _ _ _)
      | (with_reducible exact ih1 _ _ _ _ _ _)
      | (with_reducible exact bastionref02_Split.mono _ _)
      | (with_reducible exact LeO.refl _)
      | (with_reducible exact LeO.none _)
      | (with_reducible refine LeO.ite ?_ ?_)
      | (with_reducible refine LeO.bind ?_ (fun _ => ?_))
      | exact ih0 _ _ _ _ _
      | exact ih1 _ _ _ _ _ _
      | exact bastionref02_Split.mono _ _
      | exact LeO.none _
      | refine LeO.ite ?_ ?_
      | refine LeO.bind ?_ (fun _ => ?_)
set_option maxHeartbeats 8000000 in
set_option maxRecDepth 100000 in
theorem bastionref02_Lines.calls (k : Nat) (a0 : ByteArray) (r1 : List (S41)) (r2 : Int) (r3 : Int) (w : World) (h : bastionref02_Lines.f k a0 = some (r1, r2, r3)) :
    Calls Tryd.prog 17 #[.string a0] w fun e w' => ∃ v0_ : Value, e = .returned (.tuple #[v0_, .int .i64 r2, .int .i64 r3]) ∧ Kd.S k41 41 w' w.heap.size (fun _ => True) v0_ r1 ∧ Below w.heap.size w w' := by
  have hu41 := Tryd.underlying41
  have HB := Aside0.mk (Below.refl w.heap.size w)
  have H : (bastionref02_Lines.l0 k a0 ([] : List (S41)) 0 1 0) = some (r1, r2, r3) := h
  clear h
  have H' := Aside0.mk H
  clear H
  go_enter Tryd.func17, Tryd.ntmps17
  go_wp2
  go_loopg [5, 6, 7, 8] k (fun kq v5 v6 v7 v8 w' => ∃ (x5_1 : List (S41)) (x6_1 : Int) (x7_1 : Int) (x8_1 : Int), v6 = .int .i64 x6_1 ∧ v7 = .int .i64 x7_1 ∧ v8 = .int .i64 x8_1 ∧ Aside0 (bastionref02_Lines.l0 kq a0 x5_1 x6_1 x7_1 x8_1 = some (r1, r2, r3)) ∧ Aside0 (kq ≤ k) ∧ Aside0 (Kd.S k41 41 w' w.heap.size (fun _ => True) v5 x5_1) ∧ Aside0 (Below w.heap.size w w'))
  case atStart => exact ⟨(([] : List (S41))), (0), (1), (0), (by first | rfl | (simp; done) | (simp [*]; done)), (by first | rfl | (simp; done) | (simp [*]; done)), (by first | rfl | (simp; done) | (simp [*]; done)), H', ⟨Nat.le_refl _⟩, ⟨by first | exact Kd.S_nil _ _ _ _ _ | exact Kd.N_nil _ _ _ _ _ | exact Kd.V_nil _ _ _ _ _ | exact Kd.Q_nil _ _ _ _ _ | exact Kd.R_nil _ _ _ _ _⟩, ⟨by repeat (first | (with_reducible first | exact HB.out | apply below_alloc | apply pw_below_drewN | apply below_drew1) | exact HB.out)⟩⟩
  case round =>
    clear H'
    try clear c1
    obtain ⟨x5_1, x6_1, x7_1, x8_1, rfl, rfl, rfl, HA, HK1, HO_5, HB⟩ := hrel
    cases gk with
    | zero => exact absurd HA.out (by simp [bastionref02_Lines.l0])
    | succ k1 =>
      have H := HA.out
      clear HA
      simp only [bastionref02_Lines.l0] at H
      by_cases c2 : x8_1 ≤ (a0.size : Int)
      · rw [if_pos c2] at H
        have c2b0 : decide (x8_1 ≤ (a0.size : Int)) = true := decide_eq_true c2
        clear c2
        have HC3 := Aside0.mk H
        clear H
        go_upto_region 6 with (fail)
        go_cut [26] (fun v26 wc => ∃ (kq : Nat) (x26_2 : Bool), v26 = .bool x26_2 ∧ Aside0 (bastionref02_Lines.j1 kq a0 x5_1 x6_1 x7_1 x8_1 x26_2 = some (r1, r2, r3)) ∧ Aside0 (kq ≤ k1) ∧ Aside0 (Kd.S k41 41 wc w.heap.size (fun _ => True) u5 x5_1) ∧ Aside0 (Below w.heap.size w wc))
        case first =>
          have H := HC3.out
          clear HC3
          by_cases c4 : x8_1 < (a0.size : Int)
          · rw [if_pos c4] at H
            have c4b0 : decide (x8_1 < (a0.size : Int)) = true := decide_eq_true c4
            clear c4
            (first | rw [c4b0] | (simp only [i64_w, i32_w]; rw [c4b0]) | skip)
            by_cases c5 : 0 ≤ x8_1
            · rw [if_pos c5] at H
              have c5b0 : decide (0 ≤ x8_1) = true := decide_eq_true c5
              clear c5
              have H' := Aside0.mk H
              clear H
              have p6 : 0 ≤ (x8_1 : Int) := of_decide_eq_true (by first | (with_reducible assumption) | assumption)
              have q6 : x8_1 < (a0.size : Int) := of_decide_eq_true (by first | (with_reducible assumption) | assumption)
              have hx6 := bt_at a0 x8_1
              replace p6 := eq_true p6
              replace q6 := eq_true q6
              go_wp2
              go_meet
              case rel => exact ⟨_, (((bt a0 x8_1) != 10)), (by first | rfl | (simp; done) | (simp [*]; done)), H', ⟨by have := HK1.out; first | omega | exact Nat.le_refl _⟩, ⟨by (with_reducible repeat (first | apply Kd.S_alloc | apply Kd.S_drewN | apply Kd.S_drew)); exact HO_5.out⟩, ⟨by repeat (first | (with_reducible first | exact HB.out | apply below_alloc | apply pw_below_drewN | apply below_drew1) | exact HB.out)⟩⟩
            · rw [if_neg c5] at H
              exact absurd H (by simp)
          · rw [if_neg c4] at H
            have c4b0 : decide (x8_1 < (a0.size : Int)) = false := decide_eq_false c4
            clear c4
            (first | rw [c4b0] | (simp only [i64_w, i32_w]; rw [c4b0]) | skip)
            have H' := Aside0.mk H
            clear H
            go_wp2
            go_meet
            case rel => exact ⟨_, (false), (by first | rfl | (simp; done) | (simp [*]; done)), H', ⟨by have := HK1.out; first | omega | exact Nat.le_refl _⟩, ⟨by (with_reducible repeat (first | apply Kd.S_alloc | apply Kd.S_drewN | apply Kd.S_drew)); exact HO_5.out⟩, ⟨by repeat (first | (with_reducible first | exact HB.out | apply below_alloc | apply pw_below_drewN | apply below_drew1) | exact HB.out)⟩⟩
        case rest =>
          clear HC3
          try clear c1
          try clear c2
          try clear c2b0
          try clear p2
          try clear c4
          try clear c4b0
          try clear c5
          try clear c5b0
          try clear p6
          try clear q6
          try clear hx6
          try clear p6
          try clear q6
          obtain ⟨kq, x26_2, rfl, HA, HJ2, HO_5, HB⟩ := hcut
          cases kq with
          | zero => exact absurd HA.out (by simp [bastionref02_Lines.j1])
          | succ kj2 =>
            have H := HA.out
            clear HA
            simp only [bastionref02_Lines.j1] at H
            by_cases c7 : x26_2 = true
            · subst c7
              have H1 : (bastionref02_Lines.l0 kj2 a0 x5_1 x6_1 x7_1 (wrap64 (x8_1 + 1))) = some (r1, r2, r3) := by rw [if_pos rfl] at H; exact H
              clear H
              have H := H1
              clear H1
              have H' := Aside0.mk H
              clear H
              go_wp2
              go_roundg kj2
              case measure => have := HK1.out; have := HJ2.out; omega
              case rel => exact ⟨(x5_1), (x6_1), (x7_1), (wrap64 (x8_1 + 1)), (by first | rfl | (simp; done) | (simp [*]; done)), (by first | rfl | (simp; done) | (simp [*]; done)), (by first | rfl | (simp; done) | (simp [*]; done)), H', ⟨by have := HK1.out; have := HJ2.out; omega⟩, ⟨by (with_reducible repeat (first | apply Kd.S_alloc | apply Kd.S_drewN | apply Kd.S_drew)); exact HO_5.out⟩, ⟨by repeat (first | (with_reducible first | exact HB.out | apply below_alloc | apply pw_below_drewN | apply below_drew1) | exact HB.out)⟩⟩
            · replace c7 := Bool.eq_false_iff.mpr c7
              subst c7
              have H1 : (if 0 ≤ x6_1 then (if x6_1 ≤ x8_1 then (if x8_1 ≤ (a0.size : Int) then ((bastionref02_Split.f kj2 (a0.extract (x6_1 : Int).toNat (x8_1 : Int).toNat)).bind fun bt252 => (if bt252.2 = 0 then (if (bt252.1.length : Int) > 0 then (if x5_1.length < 4398046511104 then (bastionref02_Lines.l0 kj2 a0 (x5_1 ++ [(⟨x7_1, bt252.1⟩ : S41)]) (wrap64 (x8_1 + 1)) (wrap64 (x7_1 + 1)) (wrap64 (x8_1 + 1))) else (none)) else (bastionref02_Lines.l0 kj2 a0 x5_1 (wrap64 (x8_1 + 1)) (wrap64 (x7_1 + 1)) (wrap64 (x8_1 + 1)))) else (some (([] : List (S41)), x7_1, bt252.2)))) else (none)) else (none)) else (none)) = some (r1, r2, r3) := by rw [if_neg (show ¬ (false = true) by decide)] at H; exact H
              clear H
              have H := H1
              clear H1
              by_cases c8 : 0 ≤ x6_1
              · rw [if_pos c8] at H
                have c8b0 := eq_true c8
                have c8b1 : decide (0 ≤ x6_1) = true := decide_eq_true c8
                clear c8
                by_cases c9 : x6_1 ≤ x8_1
                · rw [if_pos c9] at H
                  have c9b0 := eq_true c9
                  have c9b1 : decide (x6_1 ≤ x8_1) = true := decide_eq_true c9
                  clear c9
                  by_cases c10 : x8_1 ≤ (a0.size : Int)
                  · rw [if_pos c10] at H
                    have c10b0 := eq_true c10
                    have c10b1 : decide (x8_1 ≤ (a0.size : Int)) = true := decide_eq_true c10
                    clear c10
                    replace H := Option.bind_eq_some_iff.mp H
                    obtain ⟨⟨t252, t253⟩, A110, H⟩ := H
                    replace H : (if t253 = 0 then (if (t252.length : Int) > 0 then (if x5_1.length < 4398046511104 then (bastionref02_Lines.l0 kj2 a0 (x5_1 ++ [(⟨x7_1, t252⟩ : S41)]) (wrap64 (x8_1 + 1)) (wrap64 (x7_1 + 1)) (wrap64 (x8_1 + 1))) else (none)) else (bastionref02_Lines.l0 kj2 a0 x5_1 (wrap64 (x8_1 + 1)) (wrap64 (x7_1 + 1)) (wrap64 (x8_1 + 1)))) else (some (([] : List (S41)), x7_1, t253))) = some (r1, r2, r3) := H
                    have A11 := Aside0.mk A110
                    clear A110
                    by_cases c12 : t253 = 0
                    · rw [if_pos c12] at H
                      have c12b0 : (t253 == 0) = true := beq_iff_eq.mpr c12
                      have c12b1 : (t253 != 0) = false := bne_eq_false_iff_eq.mpr c12
                      clear c12
                      by_cases c13 : (t252.length : Int) > 0
                      · rw [if_pos c13] at H
                        have c13b0 : decide (0 < (t252.length : Int)) = true := decide_eq_true c13
                        have c13b1 : decide (0 < t252.length) = true := decide_eq_true (by omega)
                        clear c13
                        by_cases c14 : x5_1.length < 4398046511104
                        · rw [if_pos c14] at H
                          have LMc14 := Aside0.mk c14
                          clear c14
                          obtain ⟨y256, hy256⟩ : ∃ y_ : List (S41), y_ = (x5_1 ++ [(⟨x7_1, t252⟩ : S41)]) := ⟨_, rfl⟩
                          replace H : (bastionref02_Lines.l0 kj2 a0 y256 (wrap64 (x8_1 + 1)) (wrap64 (x7_1 + 1)) (wrap64 (x8_1 + 1))) = some (r1, r2, r3) := by first | (rw [hy256]; with_reducible exact H) | (have H2_ := (Option.bind_some _ _).symm.trans H; rw [hy256]; with_reducible exact H2_) | (have H2_ := (Option.bind_some _ _).symm.trans H; with_reducible exact H2_) | with_reducible exact H | (rw [hy256]; exact H) | exact H
                          have Ny256 := Aside0.mk hy256
                          clear hy256
                          have H' := Aside0.mk H
                          clear H
                          go_wp2_with (first | ((with_reducible refine gate_callee (f := 11) rfl ?_); refine goesL_ (some 32) rfl rfl Tryd.func11 (by kernel_rfl) rfl #[.string (a0.extract (x6_1 : Int).toNat (x8_1 : Int).toNat)] rfl (by (try simp only [List.map_toArray, List.map_cons, List.map_nil]); first | done | rfl | (simp only [List.length_drop, List.length_take]; rfl)) ?_; (with_reducible refine (bastionref02_Split.calls kj2 (a0.extract (x6_1 : Int).toNat (x8_1 : Int).toNat) t252 t253 _ A11.out).mono ?_); rintro e w15 ⟨v254, rfl, ho0, hb⟩; refine ⟨_, rfl, ?_⟩; have n0_ := Aside0.mk (Kd.S_elder' (by (with_reducible repeat (first | apply Kd.S_alloc | apply Kd.S_drewN | apply Kd.S_drew)); exact HO_5.out) (Kd.R_base ho0) hb); have n1_ := Aside0.mk (Kd.R_lower ho0 (below_size (by repeat (first | (with_reducible first | exact HB.out | apply below_alloc | apply pw_below_drewN | apply below_drew1) | exact HB.out)))); have n2_ := Aside0.mk (below_step (by repeat (first | (with_reducible first | exact HB.out | apply below_alloc | apply pw_below_drewN | apply below_drew1) | exact HB.out)) hb); clear HO_5; clear HB; have HO_5 := n0_; have HO255 := n1_; have HB := n2_; clear n0_ n1_ n2_; (try clear hb); (try clear hb2); (try clear hk); (try clear hi); (try clear ho0); obtain ⟨Ao16, co16, eo16⟩ := Kd.R_slice HO255.out; subst eo16) | ((with_reducible refine gate_builtin (b := .append) (xs := #[.tmp 42, .tmp 46]) rfl ?_); at_builtin; refine Kd.S_append k41 (w0 := w) w.heap.size rfl (.tmp 42) (.tmp 46) 36 41 (.agg #[(.int .i64 0), (.slice none 0 0)]) 32 rfl Tryd.underlying36 info41 rfl (by decide) (by omega) u5 x5_1 (⟨x7_1, t252⟩ : S41) [.int .i64 x7_1, .slice Ao16 t252.length co16] (fun _ => True) (fun k_ => some k_ = (.slice Ao16 t252.length co16 : Value).ownBlock) rfl rfl ?aP (fun k_ hk_ => ((Kd.R_mono (ok' := fun k_ => ((fun _ => True)) k_ ∧ some k_ ≠ (u5 : Value).ownBlock) (Kd.R_apart' (HO255.out) (Kd.S_typed HO_5.out) (by decide)) (fun k_ hk => ⟨trivial, hk.2⟩))).1 k_ hk_.symm) ?aF ?aO ?aB ?aS ?aL ?_; (case aP => exact k41_mkM _ _ _ (⟨x7_1, t252⟩ : S41) (Kd.R_mono (Kd.R_tight rfl (Kd.R_mono (ok' := fun k_ => ((fun _ => True)) k_ ∧ some k_ ≠ (u5 : Value).ownBlock) (Kd.R_apart' (HO255.out) (Kd.S_typed HO_5.out) (by decide)) (fun k_ hk => ⟨trivial, hk.2⟩))) (fun _ h_ => h_))); (case aB => exact (by repeat (first | (with_reducible first | exact HB.out | apply below_alloc | apply pw_below_drewN | apply below_drew1) | exact HB.out))); (case aF => exact (fun _ _ => trivial)); (case aO => exact (by (with_reducible repeat (first | apply Kd.S_alloc | apply Kd.S_drewN | apply Kd.S_drew)); exact Kd.S_mono HO_5.out (fun k_ hk => ⟨trivial, fun e_ => hk.2 e_⟩))); (case aS => exact (below_size (by repeat (first | (with_reducible first | exact HB.out | apply below_alloc | apply pw_below_drewN | apply below_drew1) | exact HB.out)))); (case aL => have := LMc14.out; omega); intro v257 w17 ho hb hg hat; rw [← Ny256.out] at ho; have n0_ := Aside0.mk (hb); have n1_ := Aside0.mk (ho); clear HB; clear HO_5; clear HO255; have HB := n0_; have HO258 := n1_; clear n0_ n1_; clear ho hb hg hat))
                          go_roundg kj2
                          case measure => have := HK1.out; have := HJ2.out; omega
                          case rel => exact ⟨(y256), (wrap64 (x8_1 + 1)), (wrap64 (x7_1 + 1)), (wrap64 (x8_1 + 1)), (by first | rfl | (simp; done) | (simp [*]; done)), (by first | rfl | (simp; done) | (simp [*]; done)), (by first | rfl | (simp; done) | (simp [*]; done)), H', ⟨by have := HK1.out; have := HJ2.out; omega⟩, ⟨by (with_reducible repeat (first | apply Kd.S_alloc | apply Kd.S_drewN | apply Kd.S_drew)); exact HO258.out⟩, ⟨by repeat (first | (with_reducible first | exact HB.out | apply below_alloc | apply pw_below_drewN | apply below_drew1) | exact HB.out)⟩⟩
                        · rw [if_neg c14] at H
                          exact absurd H (by simp)
                      · rw [if_neg c13] at H
                        have c13b0 : decide (0 < (t252.length : Int)) = false := decide_eq_false c13
                        have c13b1 : decide (0 < t252.length) = false := decide_eq_false (by omega)
                        clear c13
                        have H' := Aside0.mk H
                        clear H
                        go_wp2_with (first | ((with_reducible refine gate_callee (f := 11) rfl ?_); refine goesL_ (some 32) rfl rfl Tryd.func11 (by kernel_rfl) rfl #[.string (a0.extract (x6_1 : Int).toNat (x8_1 : Int).toNat)] rfl (by (try simp only [List.map_toArray, List.map_cons, List.map_nil]); first | done | rfl | (simp only [List.length_drop, List.length_take]; rfl)) ?_; (with_reducible refine (bastionref02_Split.calls kj2 (a0.extract (x6_1 : Int).toNat (x8_1 : Int).toNat) t252 t253 _ A11.out).mono ?_); rintro e w18 ⟨v254, rfl, ho0, hb⟩; refine ⟨_, rfl, ?_⟩; have n0_ := Aside0.mk (Kd.S_elder' (by (with_reducible repeat (first | apply Kd.S_alloc | apply Kd.S_drewN | apply Kd.S_drew)); exact HO_5.out) (Kd.R_base ho0) hb); have n1_ := Aside0.mk (Kd.R_lower ho0 (below_size (by repeat (first | (with_reducible first | exact HB.out | apply below_alloc | apply pw_below_drewN | apply below_drew1) | exact HB.out)))); have n2_ := Aside0.mk (below_step (by repeat (first | (with_reducible first | exact HB.out | apply below_alloc | apply pw_below_drewN | apply below_drew1) | exact HB.out)) hb); clear HO_5; clear HB; have HO_5 := n0_; have HO255 := n1_; have HB := n2_; clear n0_ n1_ n2_; (try clear hb); (try clear hb2); (try clear hk); (try clear hi); (try clear ho0); obtain ⟨Ao19, co19, eo19⟩ := Kd.R_slice HO255.out; subst eo19))
                        go_roundg kj2
                        case measure => have := HK1.out; have := HJ2.out; omega
                        case rel => exact ⟨(x5_1), (wrap64 (x8_1 + 1)), (wrap64 (x7_1 + 1)), (wrap64 (x8_1 + 1)), (by first | rfl | (simp; done) | (simp [*]; done)), (by first | rfl | (simp; done) | (simp [*]; done)), (by first | rfl | (simp; done) | (simp [*]; done)), H', ⟨by have := HK1.out; have := HJ2.out; omega⟩, ⟨by (with_reducible repeat (first | apply Kd.S_alloc | apply Kd.S_drewN | apply Kd.S_drew)); exact Kd.S_mono HO_5.out (fun _ hk => trivial)⟩, ⟨by repeat (first | (with_reducible first | exact HB.out | apply below_alloc | apply pw_below_drewN | apply below_drew1) | exact HB.out)⟩⟩
                    · rw [if_neg c12] at H
                      have c12b0 : (t253 == 0) = false := beq_eq_false_iff_ne.mpr c12
                      have c12b1 : (t253 != 0) = true := bne_iff_ne.mpr c12
                      simp only [Option.some.injEq, Prod.mk.injEq] at H
                      obtain ⟨rfl, rfl, rfl⟩ := H
                      go_wp2_with (first | ((with_reducible refine gate_callee (f := 11) rfl ?_); refine goesL_ (some 32) rfl rfl Tryd.func11 (by kernel_rfl) rfl #[.string (a0.extract (x6_1 : Int).toNat (x8_1 : Int).toNat)] rfl (by (try simp only [List.map_toArray, List.map_cons, List.map_nil]); first | done | rfl | (simp only [List.length_drop, List.length_take]; rfl)) ?_; (with_reducible refine (bastionref02_Split.calls kj2 (a0.extract (x6_1 : Int).toNat (x8_1 : Int).toNat) t252 t253 _ A11.out).mono ?_); rintro e w20 ⟨v254, rfl, ho0, hb⟩; refine ⟨_, rfl, ?_⟩; have n0_ := Aside0.mk (Kd.S_elder' (by (with_reducible repeat (first | apply Kd.S_alloc | apply Kd.S_drewN | apply Kd.S_drew)); exact HO_5.out) (Kd.R_base ho0) hb); have n1_ := Aside0.mk (Kd.R_lower ho0 (below_size (by repeat (first | (with_reducible first | exact HB.out | apply below_alloc | apply pw_below_drewN | apply below_drew1) | exact HB.out)))); have n2_ := Aside0.mk (below_step (by repeat (first | (with_reducible first | exact HB.out | apply below_alloc | apply pw_below_drewN | apply below_drew1) | exact HB.out)) hb); clear HO_5; clear HB; have HO_5 := n0_; have HO255 := n1_; have HB := n2_; clear n0_ n1_ n2_; (try clear hb); (try clear hb2); (try clear hk); (try clear hi); (try clear ho0)))
                      go_ret3
                      exact ⟨_, by first | rfl | (simp [errW_none, errW_some] <;> rfl) | (simp [*, errW_none, errW_some] <;> rfl), by first | exact Kd.S_nil _ _ _ _ _ | exact Kd.N_nil _ _ _ _ _ | exact Kd.V_nil _ _ _ _ _ | exact Kd.Q_nil _ _ _ _ _ | exact Kd.R_nil _ _ _ _ _, by repeat (first | (with_reducible first | exact HB.out | apply below_alloc | apply pw_below_drewN | apply below_drew1) | exact HB.out)⟩
                  · rw [if_neg c10] at H
                    exact absurd H (by simp)
                · rw [if_neg c9] at H
                  exact absurd H (by simp)
              · rw [if_neg c8] at H
                exact absurd H (by simp)
      · rw [if_neg c2] at H
        have c2b0 : decide (x8_1 ≤ (a0.size : Int)) = false := decide_eq_false c2
        clear c2
        simp only [Option.some.injEq, Prod.mk.injEq] at H
        obtain ⟨rfl, rfl, rfl⟩ := H
        go_wp2
        go_ret3
        exact ⟨_, by first | rfl | (simp [errW_none, errW_some] <;> rfl) | (simp [*, errW_none, errW_some] <;> rfl), by (with_reducible repeat (first | apply Kd.S_alloc | apply Kd.S_drewN | apply Kd.S_drew)); exact HO_5.out, by repeat (first | (with_reducible first | exact HB.out | apply below_alloc | apply pw_below_drewN | apply below_drew1) | exact HB.out)⟩

/-! ### bastionlaw02_WordsLines: function 6 -/
mutual
def bastionlaw02_WordsLines.j0 : Nat → List (S40) → List (S41) → Bool → Option (Bool)
  | 0, _, _, _ => none
  | k + 1, x3, x6, x40 => if x40 = true then (some false) else (bastionlaw02_WordsLines.l0 k x3 x6 0)
def bastionlaw02_WordsLines.l0 : Nat → List (S40) → List (S41) → Int → Option (Bool)
  | 0, _, _, _ => none
  | k + 1, x3, x6, x9 => if x9 < (x3.length : Int) then (if 0 ≤ x9 then (if x9 < (x6.length : Int) then (if ((rd_T40 x3 x9).f0) = ((rd_T41 x6 x9).f0) then ((bastionref02_Same.f k ((rd_T40 x3 x9).f1) ((rd_T41 x6 x9).f1)).bind fun t274 => (if t274 = true then (bastionlaw02_WordsLines.l0 k x3 x6 (wrap64 (x9 + 1))) else (some false))) else (some false)) else (none)) else (none)) else ((bastionlaw02_awake.f k).bind fun t275 => (some t275))
end
def bastionlaw02_WordsLines.f (k : Nat) (a0 : ByteArray) : Option (Bool) := if (a0.size : Int) > 10000 then ((bastionlaw02_awake.f k).bind fun t259 => (some t259)) else ((words_Lines.f k a0).bind fun bt260 => ((bastionref02_Lines.f k a0).bind fun bt265 => (if bt260.2.2 = bt265.2.2 then (if bt260.2.1 = bt265.2.1 then (bastionlaw02_WordsLines.j0 k bt260.1 bt265.1 ((bt260.1.length : Int) != (bt265.1.length : Int))) else (bastionlaw02_WordsLines.j0 k bt260.1 bt265.1 true)) else (bastionlaw02_WordsLines.j0 k bt260.1 bt265.1 true))))
theorem bastionlaw02_WordsLines.mono_l : ∀ k, (∀ y0 y1 y2, LeO (bastionlaw02_WordsLines.j0 k y0 y1 y2) (bastionlaw02_WordsLines.j0 (k + 1) y0 y1 y2)) ∧ (∀ y0 y1 y2, LeO (bastionlaw02_WordsLines.l0 k y0 y1 y2) (bastionlaw02_WordsLines.l0 (k + 1) y0 y1 y2))
  | 0 => ⟨fun _ _ _ r h => by simp [bastionlaw02_WordsLines.j0] at h, fun _ _ _ r h => by simp [bastionlaw02_WordsLines.l0] at h⟩
  | k + 1 => by
    obtain ⟨ih0, ih1⟩ := bastionlaw02_WordsLines.mono_l k
    refine ⟨?_, ?_⟩
    · intro y0 y1 y2
      unfold bastionlaw02_WordsLines.j0
      repeat' first
      | (with_reducible exact ih0 _ _ _)
      | (with_reducible exact ih1 _ _ _)
      | (with_reducible exact bastionlaw02_awake.mono _)
      | (with_reducible exact bastionref02_Lines.mono _ _)
      | (with_reducible exact bastionref02_Same.mono _ _ _)
      | (with_reducible exact words_Lines.mono _ _)
      | (with_reducible exact LeO.refl _)
      | (with_reducible exact LeO.none _)
      | (with_reducible refine LeO.ite ?_ ?_)
      | (with_reducible refine LeO.bind ?_ (fun _ => ?_))
      | exact ih0 _ _ _
      | exact ih1 _ _ _
      | exact bastionlaw02_awake.mono _
      | exact bastionref02_Lines.mono _ _
      | exact bastionref02_Same.mono _ _ _
      | exact words_Lines.mono _ _
      | exact LeO.none _
      | refine LeO.ite ?_ ?_
      | refine LeO.bind ?_ (fun _ => ?_)
    · intro y0 y1 y2
      unfold bastionlaw02_WordsLines.l0
      repeat' first
      | (with_reducible exact ih0 _ _ _)
      | (with_reducible exact ih1 _ _ _)
      | (with_reducible exact bastionlaw02_awake.mono _)
      | (with_reducible exact bastionref02_Lines.mono _ _)
      | (with_reducible exact bastionref02_Same.mono _ _ _)
      | (with_reducible exact words_Lines.mono _ _)
      | (with_reducible exact LeO.refl _)
      | (with_reducible exact LeO.none _)
      | (with_reducible refine LeO.ite ?_ ?_)
      | (with_reducible refine LeO.bind ?_ (fun _ => ?_))
      | exact ih0 _ _ _
      | exact ih1 _ _ _
      | exact bastionlaw02_awake.mono _
      | exact bastionref02_Lines.mono _ _
      | exact bastionref02_Same.mono _ _ _
      | exact words_Lines.mono _ _
      | exact LeO.none _
      | refine LeO.ite ?_ ?_
      | refine LeO.bind ?_ (fun _ => ?_)
theorem bastionlaw02_WordsLines.mono : ∀ a0 k, LeO (bastionlaw02_WordsLines.f k a0) (bastionlaw02_WordsLines.f (k + 1) a0) := by
  intro a0 k
  obtain ⟨ih0, ih1⟩ := bastionlaw02_WordsLines.mono_l k
  unfold bastionlaw02_WordsLines.f
  repeat' first
      | (with_reducible exact ih0 _ _ _)
      | (with_reducible exact ih1 _ _ _)
      | (with_reducible exact bastionlaw02_awake.mono _)
      | (with_reducible exact bastionref02_Lines.mono _ _)
      | (with_reducible exact bastionref02_Same.mono _ _ _)
      | (with_reducible exact words_Lines.mono _ _)
      | (with_reducible exact LeO.refl _)
      | (with_reducible exact LeO.none _)
      | (with_reducible refine LeO.ite ?_ ?_)
      | (with_reducible refine LeO.bind ?_ (fun _ => ?_))
      | exact ih0 _ _ _
      | exact ih1 _ _ _
      | exact bastionlaw02_awake.mono _
      | exact bastionref02_Lines.mono _ _
      | exact bastionref02_Same.mono _ _ _
      | exact words_Lines.mono _ _
      | exact LeO.none _
      | refine LeO.ite ?_ ?_
      | refine LeO.bind ?_ (fun _ => ?_)
set_option maxHeartbeats 8000000 in
set_option maxRecDepth 100000 in
theorem bastionlaw02_WordsLines.calls (k : Nat) (a0 : ByteArray) (r : Bool) (w : World) (h : bastionlaw02_WordsLines.f k a0 = some r) :
    Calls Tryd.prog 6 #[.string a0] w fun e w' => e = .returned (.bool r) ∧ Below w.heap.size w w' := by
  have HB := Aside0.mk (Below.refl w.heap.size w)
  have H : (if (a0.size : Int) > 10000 then ((bastionlaw02_awake.f k).bind fun t259 => (some t259)) else ((words_Lines.f k a0).bind fun bt260 => ((bastionref02_Lines.f k a0).bind fun bt265 => (if bt260.2.2 = bt265.2.2 then (if bt260.2.1 = bt265.2.1 then (bastionlaw02_WordsLines.j0 k bt260.1 bt265.1 ((bt260.1.length : Int) != (bt265.1.length : Int))) else (bastionlaw02_WordsLines.j0 k bt260.1 bt265.1 true)) else (bastionlaw02_WordsLines.j0 k bt260.1 bt265.1 true))))) = some r := h
  clear h
  by_cases c2 : (a0.size : Int) > 10000
  · rw [if_pos c2] at H
    have c2b0 : decide (10000 < (a0.size : Int)) = true := decide_eq_true c2
    have c2b1 : decide (10000 < a0.size) = true := decide_eq_true (by omega)
    clear c2
    replace H := Option.bind_eq_some_iff.mp H
    obtain ⟨t259, A30, H⟩ := H
    replace H : (some t259) = some r := H
    have A3 := Aside0.mk A30
    clear A30
    obtain rfl := Option.some.inj H
    go_enter Tryd.func6, Tryd.ntmps6
    go_wp2_with (first | (go_at_call 9; (with_reducible refine (bastionlaw02_awake.calls k  t259 _ A3.out).mono ?_); rintro e w4 ⟨rfl, hb⟩; have n0_ := Aside0.mk (below_step (by repeat (first | (with_reducible first | exact HB.out | apply below_alloc | apply pw_below_drewN | apply below_drew1) | exact HB.out)) hb); clear HB; have HB := n0_; clear n0_; (try clear hb); (try clear hb2); (try clear hk); (try clear hi)))
    repeat (go_quiet (first | (go_at_call 9; (with_reducible refine (bastionlaw02_awake.calls k  t259 _ A3.out).mono ?_); rintro e w4 ⟨rfl, hb⟩; have n0_ := Aside0.mk (below_step (by repeat (first | (with_reducible first | exact HB.out | apply below_alloc | apply pw_below_drewN | apply below_drew1) | exact HB.out)) hb); clear HB; have HB := n0_; clear n0_; (try clear hb); (try clear hb2); (try clear hk); (try clear hi))); try go_wp2_with (first | (go_at_call 9; (with_reducible refine (bastionlaw02_awake.calls k  t259 _ A3.out).mono ?_); rintro e w4 ⟨rfl, hb⟩; have n0_ := Aside0.mk (below_step (by repeat (first | (with_reducible first | exact HB.out | apply below_alloc | apply pw_below_drewN | apply below_drew1) | exact HB.out)) hb); clear HB; have HB := n0_; clear n0_; (try clear hb); (try clear hb2); (try clear hk); (try clear hi))))
    go_ret
    exact ⟨by first | rfl | (simp [errW_none, errW_some] <;> rfl) | (simp [*, errW_none, errW_some] <;> rfl), by repeat (first | (with_reducible first | exact HB.out | apply below_alloc | apply pw_below_drewN | apply below_drew1) | exact HB.out)⟩
  · rw [if_neg c2] at H
    have c2b0 : decide (10000 < (a0.size : Int)) = false := decide_eq_false c2
    have c2b1 : decide (10000 < a0.size) = false := decide_eq_false (by omega)
    clear c2
    replace H := Option.bind_eq_some_iff.mp H
    obtain ⟨⟨t260, t261, t262⟩, A50, H⟩ := H
    replace H : ((bastionref02_Lines.f k a0).bind fun bt265 => (if t262 = bt265.2.2 then (if t261 = bt265.2.1 then (bastionlaw02_WordsLines.j0 k t260 bt265.1 ((t260.length : Int) != (bt265.1.length : Int))) else (bastionlaw02_WordsLines.j0 k t260 bt265.1 true)) else (bastionlaw02_WordsLines.j0 k t260 bt265.1 true))) = some r := H
    have A5 := Aside0.mk A50
    clear A50
    replace H := Option.bind_eq_some_iff.mp H
    obtain ⟨⟨t265, t266, t267⟩, A60, H⟩ := H
    replace H : (if t262 = t267 then (if t261 = t266 then (bastionlaw02_WordsLines.j0 k t260 t265 ((t260.length : Int) != (t265.length : Int))) else (bastionlaw02_WordsLines.j0 k t260 t265 true)) else (bastionlaw02_WordsLines.j0 k t260 t265 true)) = some r := H
    have A6 := Aside0.mk A60
    clear A60
    have HC7 := Aside0.mk H
    clear H
    go_enter Tryd.func6, Tryd.ntmps6
    go_upto_region 5 with (first | (go_at_call 16; (with_reducible refine (words_Lines.calls k a0 t260 t261 t262 _ A5.out).mono ?_); rintro e w8 ⟨v263, rfl, ho0, hb⟩; have n0_ := Aside0.mk (Kd.S_lower ho0 (below_size (by repeat (first | (with_reducible first | exact HB.out | apply below_alloc | apply pw_below_drewN | apply below_drew1) | exact HB.out)))); have n1_ := Aside0.mk (below_step (by repeat (first | (with_reducible first | exact HB.out | apply below_alloc | apply pw_below_drewN | apply below_drew1) | exact HB.out)) hb); clear HB; have HO264 := n0_; have HB := n1_; clear n0_ n1_; (try clear hb); (try clear hb2); (try clear hk); (try clear hi); (try clear ho0)) | (go_at_call 17; (with_reducible refine (bastionref02_Lines.calls k a0 t265 t266 t267 _ A6.out).mono ?_); rintro e w9 ⟨v268, rfl, ho0, hb⟩; have n0_ := Aside0.mk (Kd.S_below (by (with_reducible repeat (first | apply Kd.S_alloc | apply Kd.S_drewN | apply Kd.S_drew)); exact HO264.out) hb); have n1_ := Aside0.mk (Kd.S_lower ho0 (below_size (by repeat (first | (with_reducible first | exact HB.out | apply below_alloc | apply pw_below_drewN | apply below_drew1) | exact HB.out)))); have n2_ := Aside0.mk (below_step (by repeat (first | (with_reducible first | exact HB.out | apply below_alloc | apply pw_below_drewN | apply below_drew1) | exact HB.out)) hb); clear HO264; clear HB; have HO264 := n0_; have HO269 := n1_; have HB := n2_; clear n0_ n1_ n2_; (try clear hb); (try clear hb2); (try clear hk); (try clear hi); (try clear ho0)))
    repeat (go_quiet (first | (go_at_call 16; (with_reducible refine (words_Lines.calls k a0 t260 t261 t262 _ A5.out).mono ?_); rintro e w8 ⟨v263, rfl, ho0, hb⟩; have n0_ := Aside0.mk (Kd.S_lower ho0 (below_size (by repeat (first | (with_reducible first | exact HB.out | apply below_alloc | apply pw_below_drewN | apply below_drew1) | exact HB.out)))); have n1_ := Aside0.mk (below_step (by repeat (first | (with_reducible first | exact HB.out | apply below_alloc | apply pw_below_drewN | apply below_drew1) | exact HB.out)) hb); clear HB; have HO264 := n0_; have HB := n1_; clear n0_ n1_; (try clear hb); (try clear hb2); (try clear hk); (try clear hi); (try clear ho0)) | (go_at_call 17; (with_reducible refine (bastionref02_Lines.calls k a0 t265 t266 t267 _ A6.out).mono ?_); rintro e w9 ⟨v268, rfl, ho0, hb⟩; have n0_ := Aside0.mk (Kd.S_below (by (with_reducible repeat (first | apply Kd.S_alloc | apply Kd.S_drewN | apply Kd.S_drew)); exact HO264.out) hb); have n1_ := Aside0.mk (Kd.S_lower ho0 (below_size (by repeat (first | (with_reducible first | exact HB.out | apply below_alloc | apply pw_below_drewN | apply below_drew1) | exact HB.out)))); have n2_ := Aside0.mk (below_step (by repeat (first | (with_reducible first | exact HB.out | apply below_alloc | apply pw_below_drewN | apply below_drew1) | exact HB.out)) hb); clear HO264; clear HB; have HO264 := n0_; have HO269 := n1_; have HB := n2_; clear n0_ n1_ n2_; (try clear hb); (try clear hb2); (try clear hk); (try clear hi); (try clear ho0))); go_upto_region 5 with (first | (go_at_call 16; (with_reducible refine (words_Lines.calls k a0 t260 t261 t262 _ A5.out).mono ?_); rintro e w8 ⟨v263, rfl, ho0, hb⟩; have n0_ := Aside0.mk (Kd.S_lower ho0 (below_size (by repeat (first | (with_reducible first | exact HB.out | apply below_alloc | apply pw_below_drewN | apply below_drew1) | exact HB.out)))); have n1_ := Aside0.mk (below_step (by repeat (first | (with_reducible first | exact HB.out | apply below_alloc | apply pw_below_drewN | apply below_drew1) | exact HB.out)) hb); clear HB; have HO264 := n0_; have HB := n1_; clear n0_ n1_; (try clear hb); (try clear hb2); (try clear hk); (try clear hi); (try clear ho0)) | (go_at_call 17; (with_reducible refine (bastionref02_Lines.calls k a0 t265 t266 t267 _ A6.out).mono ?_); rintro e w9 ⟨v268, rfl, ho0, hb⟩; have n0_ := Aside0.mk (Kd.S_below (by (with_reducible repeat (first | apply Kd.S_alloc | apply Kd.S_drewN | apply Kd.S_drew)); exact HO264.out) hb); have n1_ := Aside0.mk (Kd.S_lower ho0 (below_size (by repeat (first | (with_reducible first | exact HB.out | apply below_alloc | apply pw_below_drewN | apply below_drew1) | exact HB.out)))); have n2_ := Aside0.mk (below_step (by repeat (first | (with_reducible first | exact HB.out | apply below_alloc | apply pw_below_drewN | apply below_drew1) | exact HB.out)) hb); clear HO264; clear HB; have HO264 := n0_; have HO269 := n1_; have HB := n2_; clear n0_ n1_ n2_; (try clear hb); (try clear hb2); (try clear hk); (try clear hi); (try clear ho0))))
    (try simp only [Act.put, List.setIfInBounds_toArray, List.set_cons_zero, List.set_cons_succ])
    go_cut [40] (fun v40 wc => ∃ (kq : Nat) (x40_6 : Bool), v40 = .bool x40_6 ∧ Aside0 (bastionlaw02_WordsLines.j0 kq t260 t265 x40_6 = some r) ∧ Aside0 (kq ≤ k) ∧ Aside0 (Kd.S k40 40 wc w.heap.size (fun _ => True) v263 t260) ∧ Aside0 (Kd.S k41 41 wc w.heap.size (fun _ => True) v268 t265) ∧ Aside0 (Below w.heap.size w wc))
    case first =>
      have H := HC7.out
      clear HC7
      by_cases c10 : t262 = t267
      · rw [if_pos c10] at H
        have c10b0 : (t262 == t267) = true := beq_iff_eq.mpr c10
        have c10b1 : (t262 != t267) = false := bne_eq_false_iff_eq.mpr c10
        clear c10
        (first | rw [c10b0] | (simp only [i64_w, i32_w]; rw [c10b0]) | skip)
        by_cases c11 : t261 = t266
        · rw [if_pos c11] at H
          have c11b0 : (t261 == t266) = true := beq_iff_eq.mpr c11
          have c11b1 : (t261 != t266) = false := bne_eq_false_iff_eq.mpr c11
          clear c11
          have H' := Aside0.mk H
          clear H
          obtain ⟨Ao12, co12, eo12⟩ := Kd.S_slice HO264.out
          subst eo12
          obtain ⟨Ao13, co13, eo13⟩ := Kd.S_slice HO269.out
          subst eo13
          go_wp2
          repeat (go_quiet (fail); try go_wp2)
          go_meet
          case rel => exact ⟨_, (((t260.length : Int) != (t265.length : Int))), (by first | rfl | (simp; done) | (simp [*]; done)), H', ⟨by first | omega | exact Nat.le_refl _⟩, ⟨by (with_reducible repeat (first | apply Kd.S_alloc | apply Kd.S_drewN | apply Kd.S_drew)); exact HO264.out⟩, ⟨by (with_reducible repeat (first | apply Kd.S_alloc | apply Kd.S_drewN | apply Kd.S_drew)); exact HO269.out⟩, ⟨by repeat (first | (with_reducible first | exact HB.out | apply below_alloc | apply pw_below_drewN | apply below_drew1) | exact HB.out)⟩⟩
        · rw [if_neg c11] at H
          have c11b0 : (t261 == t266) = false := beq_eq_false_iff_ne.mpr c11
          have c11b1 : (t261 != t266) = true := bne_iff_ne.mpr c11
          have H' := Aside0.mk H
          clear H
          go_wp2
          repeat (go_quiet (fail); try go_wp2)
          go_meet
          case rel => exact ⟨_, (true), (by first | rfl | (simp; done) | (simp [*]; done)), H', ⟨by first | omega | exact Nat.le_refl _⟩, ⟨by (with_reducible repeat (first | apply Kd.S_alloc | apply Kd.S_drewN | apply Kd.S_drew)); exact HO264.out⟩, ⟨by (with_reducible repeat (first | apply Kd.S_alloc | apply Kd.S_drewN | apply Kd.S_drew)); exact HO269.out⟩, ⟨by repeat (first | (with_reducible first | exact HB.out | apply below_alloc | apply pw_below_drewN | apply below_drew1) | exact HB.out)⟩⟩
      · rw [if_neg c10] at H
        have c10b0 : (t262 == t267) = false := beq_eq_false_iff_ne.mpr c10
        have c10b1 : (t262 != t267) = true := bne_iff_ne.mpr c10
        (first | rw [c10b0] | (simp only [i64_w, i32_w]; rw [c10b0]) | skip)
        have H' := Aside0.mk H
        clear H
        go_wp2
        repeat (go_quiet (fail); try go_wp2)
        go_meet
        case rel => exact ⟨_, (true), (by first | rfl | (simp; done) | (simp [*]; done)), H', ⟨by first | omega | exact Nat.le_refl _⟩, ⟨by (with_reducible repeat (first | apply Kd.S_alloc | apply Kd.S_drewN | apply Kd.S_drew)); exact HO264.out⟩, ⟨by (with_reducible repeat (first | apply Kd.S_alloc | apply Kd.S_drewN | apply Kd.S_drew)); exact HO269.out⟩, ⟨by repeat (first | (with_reducible first | exact HB.out | apply below_alloc | apply pw_below_drewN | apply below_drew1) | exact HB.out)⟩⟩
    case rest =>
      clear HC7
      try clear c1
      try clear c2
      try clear c2b0
      try clear c2b1
      try clear p2
      try clear c6
      try clear c10
      try clear c10b0
      try clear c10b1
      try clear c11
      try clear c11b0
      try clear c11b1
      obtain ⟨kq, x40_6, rfl, HA, HJ6, HO_3, HO_6, HB⟩ := hcut
      cases kq with
      | zero => exact absurd HA.out (by simp [bastionlaw02_WordsLines.j0])
      | succ kj6 =>
        have H := HA.out
        clear HA
        simp only [bastionlaw02_WordsLines.j0] at H
        by_cases c14 : x40_6 = true
        · subst c14
          have H1 : (some false) = some r := by rw [if_pos rfl] at H; exact H
          clear H
          have H := H1
          clear H1
          obtain rfl := Option.some.inj H
          go_wp2
          repeat (go_quiet (fail); try go_wp2)
          go_ret
          exact ⟨by first | rfl | (simp [errW_none, errW_some] <;> rfl) | (simp [*, errW_none, errW_some] <;> rfl), by repeat (first | (with_reducible first | exact HB.out | apply below_alloc | apply pw_below_drewN | apply below_drew1) | exact HB.out)⟩
        · replace c14 := Bool.eq_false_iff.mpr c14
          subst c14
          have H1 : (bastionlaw02_WordsLines.l0 kj6 t260 t265 0) = some r := by rw [if_neg (show ¬ (false = true) by decide)] at H; exact H
          clear H
          have H := H1
          clear H1
          have H' := Aside0.mk H
          clear H
          go_wp2
          repeat (go_quiet (fail); try go_wp2)
          go_loopg [9] kj6 (fun kq v9 w' => ∃ (x9_2 : Int), v9 = .int .i64 x9_2 ∧ Aside0 (bastionlaw02_WordsLines.l0 kq t260 t265 x9_2 = some r) ∧ Aside0 (kq ≤ kj6) ∧ Aside0 (Kd.S k40 40 w' w.heap.size (fun _ => True) v263 t260) ∧ Aside0 (Kd.S k41 41 w' w.heap.size (fun _ => True) v268 t265) ∧ Aside0 (Below w.heap.size w w'))
          case atStart => exact ⟨(0), (by first | rfl | (simp; done) | (simp [*]; done)), H', ⟨Nat.le_refl _⟩, ⟨by (with_reducible repeat (first | apply Kd.S_alloc | apply Kd.S_drewN | apply Kd.S_drew)); exact HO_3.out⟩, ⟨by (with_reducible repeat (first | apply Kd.S_alloc | apply Kd.S_drewN | apply Kd.S_drew)); exact HO_6.out⟩, ⟨by repeat (first | (with_reducible first | exact HB.out | apply below_alloc | apply pw_below_drewN | apply below_drew1) | exact HB.out)⟩⟩
          case round =>
            clear H'
            try clear c1
            try clear c2
            try clear c2b0
            try clear c2b1
            try clear p2
            try clear c6
            try clear c10
            try clear c10b0
            try clear c10b1
            try clear c11
            try clear c11b0
            try clear c11b1
            try clear c14
            try clear p2
            obtain ⟨x9_2, rfl, HA, HK2, HO_3, HO_6, HB⟩ := hrel
            cases gk with
            | zero => exact absurd HA.out (by simp [bastionlaw02_WordsLines.l0])
            | succ k2 =>
              have H := HA.out
              clear HA
              simp only [bastionlaw02_WordsLines.l0] at H
              by_cases c15 : x9_2 < (t260.length : Int)
              · rw [if_pos c15] at H
                have c15b0 : decide (x9_2 < (t260.length : Int)) = true := decide_eq_true c15
                clear c15
                by_cases c16 : 0 ≤ x9_2
                · rw [if_pos c16] at H
                  have c16b0 : decide (0 ≤ x9_2) = true := decide_eq_true c16
                  clear c16
                  by_cases c17 : x9_2 < (t265.length : Int)
                  · rw [if_pos c17] at H
                    have c17b0 : decide (x9_2 < (t265.length : Int)) = true := decide_eq_true c17
                    clear c17
                    by_cases c18 : ((rd_T40 t260 x9_2).f0) = ((rd_T41 t265 x9_2).f0)
                    · rw [if_pos c18] at H
                      have c18b0 : (((rd_T40 t260 x9_2).f0) == ((rd_T41 t265 x9_2).f0)) = true := beq_iff_eq.mpr c18
                      have c18b1 : (((rd_T40 t260 x9_2).f0) != ((rd_T41 t265 x9_2).f0)) = false := bne_eq_false_iff_eq.mpr c18
                      clear c18
                      replace H := Option.bind_eq_some_iff.mp H
                      obtain ⟨t274, A190, H⟩ := H
                      replace H : (if t274 = true then (bastionlaw02_WordsLines.l0 k2 t260 t265 (wrap64 (x9_2 + 1))) else (some false)) = some r := H
                      have A19 := Aside0.mk A190
                      clear A190
                      by_cases c20 : t274 = true
                      · subst c20
                        have H1 : (bastionlaw02_WordsLines.l0 k2 t260 t265 (wrap64 (x9_2 + 1))) = some r := by rw [if_pos rfl] at H; exact H
                        clear H
                        have H := H1
                        clear H1
                        have H' := Aside0.mk H
                        clear H
                        obtain ⟨Ao21, co21, eo21⟩ := Kd.S_slice HO_3.out
                        subst eo21
                        have p270 : 0 ≤ (x9_2 : Int) := of_decide_eq_true (by first | (with_reducible assumption) | assumption)
                        have q270 : x9_2 < (t260.length : Int) := of_decide_eq_true (by first | (with_reducible assumption) | assumption)
                        obtain ⟨ad270, A270_1, c270_1, e270, hx270_0, hx270_1, hl270_1, hi270_1⟩ := at_T40 (Kd.S_reads' HO_3.out).2.2 x9_2 p270 q270
                        cases e270
                        obtain ⟨ce270, hce270, hMe270, hcc270⟩ := Kd.S_get HO_3.out z40 x9_2 p270 (by first | exact q270 | exact of_decide_eq_true (by first | (with_reducible assumption) | assumption) | (have e_ := (Kd.S_reads' HO_3.out).1; omega))
                        obtain ⟨ve270_1, rfl, ge270_1⟩ := k40_openM hMe270
                        have hv270_1 := hcc270 1 _ rfl
                        rw [add_field _ _ 1 (by omega)] at hv270_1
                        replace hv270_1 := Option.some.inj (hv270_1.symm.trans hx270_1)
                        rw [hv270_1] at ge270_1
                        have HL270_1 := Aside0.mk (show Kd.R Kd.string 9 _ _ _ _ ((rd_T40 t260 x9_2).f1) from ge270_1)
                        clear hv270_1 ge270_1
                        clear hcc270 hce270
                        have HR270_1 := Aside0.mk hi270_1
                        have HC270_1 := Aside0.mk hl270_1
                        clear hi270_1 hl270_1
                        replace p270 := eq_true p270
                        replace q270 := eq_true q270
                        obtain ⟨Ao22, co22, eo22⟩ := Kd.S_slice HO_6.out
                        subst eo22
                        have p271 : 0 ≤ (x9_2 : Int) := of_decide_eq_true (by first | (with_reducible assumption) | assumption)
                        have q271 : x9_2 < (t265.length : Int) := of_decide_eq_true (by first | (with_reducible assumption) | assumption)
                        obtain ⟨ad271, A271_1, c271_1, e271, hx271_0, hx271_1, hl271_1, hi271_1⟩ := at_T41 (Kd.S_reads' HO_6.out).2.2 x9_2 p271 q271
                        cases e271
                        obtain ⟨ce271, hce271, hMe271, hcc271⟩ := Kd.S_get HO_6.out z41 x9_2 p271 (by first | exact q271 | exact of_decide_eq_true (by first | (with_reducible assumption) | assumption) | (have e_ := (Kd.S_reads' HO_6.out).1; omega))
                        obtain ⟨ve271_1, rfl, ge271_1⟩ := k41_openM hMe271
                        have hv271_1 := hcc271 1 _ rfl
                        rw [add_field _ _ 1 (by omega)] at hv271_1
                        replace hv271_1 := Option.some.inj (hv271_1.symm.trans hx271_1)
                        rw [hv271_1] at ge271_1
                        have HL271_1 := Aside0.mk (show Kd.R Kd.string 9 _ _ _ _ ((rd_T41 t265 x9_2).f1) from ge271_1)
                        clear hv271_1 ge271_1
                        clear hcc271 hce271
                        have HR271_1 := Aside0.mk hi271_1
                        have HC271_1 := Aside0.mk hl271_1
                        clear hi271_1 hl271_1
                        replace p271 := eq_true p271
                        replace q271 := eq_true q271
                        have p272 : 0 ≤ (x9_2 : Int) := of_decide_eq_true (by first | (with_reducible assumption) | assumption)
                        have q272 : x9_2 < (t260.length : Int) := of_decide_eq_true (by first | (with_reducible assumption) | assumption)
                        obtain ⟨ad272, A272_1, c272_1, e272, hx272_0, hx272_1, hl272_1, hi272_1⟩ := at_T40 (Kd.S_reads' HO_3.out).2.2 x9_2 p272 q272
                        obtain rfl : ad270 = ad272 := (by injection e272)
                        obtain ⟨ce272, hce272, hMe272, hcc272⟩ := Kd.S_get HO_3.out z40 x9_2 p272 (by first | exact q272 | exact of_decide_eq_true (by first | (with_reducible assumption) | assumption) | (have e_ := (Kd.S_reads' HO_3.out).1; omega))
                        obtain ⟨ve272_1, rfl, ge272_1⟩ := k40_openM hMe272
                        have hv272_1 := hcc272 1 _ rfl
                        rw [add_field _ _ 1 (by omega)] at hv272_1
                        replace hv272_1 := Option.some.inj (hv272_1.symm.trans hx272_1)
                        rw [hv272_1] at ge272_1
                        have HL272_1 := Aside0.mk (show Kd.R Kd.string 9 _ _ _ _ ((rd_T40 t260 x9_2).f1) from ge272_1)
                        clear hv272_1 ge272_1
                        clear hcc272 hce272
                        have HR272_1 := Aside0.mk hi272_1
                        have HC272_1 := Aside0.mk hl272_1
                        clear hi272_1 hl272_1
                        replace p272 := eq_true p272
                        replace q272 := eq_true q272
                        have ea_ := Option.some.inj (hx270_1.symm.trans hx272_1)
                        injection ea_ with ea_ en_ ec_
                        subst ea_
                        subst ec_
                        clear en_
                        have p273 : 0 ≤ (x9_2 : Int) := of_decide_eq_true (by first | (with_reducible assumption) | assumption)
                        have q273 : x9_2 < (t265.length : Int) := of_decide_eq_true (by first | (with_reducible assumption) | assumption)
                        obtain ⟨ad273, A273_1, c273_1, e273, hx273_0, hx273_1, hl273_1, hi273_1⟩ := at_T41 (Kd.S_reads' HO_6.out).2.2 x9_2 p273 q273
                        obtain rfl : ad271 = ad273 := (by injection e273)
                        obtain ⟨ce273, hce273, hMe273, hcc273⟩ := Kd.S_get HO_6.out z41 x9_2 p273 (by first | exact q273 | exact of_decide_eq_true (by first | (with_reducible assumption) | assumption) | (have e_ := (Kd.S_reads' HO_6.out).1; omega))
                        obtain ⟨ve273_1, rfl, ge273_1⟩ := k41_openM hMe273
                        have hv273_1 := hcc273 1 _ rfl
                        rw [add_field _ _ 1 (by omega)] at hv273_1
                        replace hv273_1 := Option.some.inj (hv273_1.symm.trans hx273_1)
                        rw [hv273_1] at ge273_1
                        have HL273_1 := Aside0.mk (show Kd.R Kd.string 9 _ _ _ _ ((rd_T41 t265 x9_2).f1) from ge273_1)
                        clear hv273_1 ge273_1
                        clear hcc273 hce273
                        have HR273_1 := Aside0.mk hi273_1
                        have HC273_1 := Aside0.mk hl273_1
                        clear hi273_1 hl273_1
                        replace p273 := eq_true p273
                        replace q273 := eq_true q273
                        have ea_ := Option.some.inj (hx271_1.symm.trans hx273_1)
                        injection ea_ with ea_ en_ ec_
                        subst ea_
                        subst ec_
                        clear en_
                        go_wp2_with (first | (go_at_call 12; (with_reducible refine (bastionref02_Same.calls k2 _ _ ((rd_T40 t260 x9_2).f1) _ _ ((rd_T41 t265 x9_2).f1) true _ ?side1 ?side2 ?side3 ?side4 A19.out).mono ?_); (case side1 => repeat (first | exact (by repeat (first | (with_reducible exact HR272_1.out) | (with_reducible refine Kd.C_alloc ?_ _) | (with_reducible refine Kd.C_drewN ?_ _) | (with_reducible refine Kd.C_drew ?_) | exact HR272_1.out)) | (with_reducible refine Kd.C_alloc ?_ _) | (with_reducible refine Kd.C_drewN ?_ _) | (with_reducible refine Kd.C_drew ?_))); (case side2 => exact HC272_1.out); (case side3 => repeat (first | exact (by repeat (first | (with_reducible exact HR273_1.out) | (with_reducible refine Kd.C_alloc ?_ _) | (with_reducible refine Kd.C_drewN ?_ _) | (with_reducible refine Kd.C_drew ?_) | exact HR273_1.out)) | (with_reducible refine Kd.C_alloc ?_ _) | (with_reducible refine Kd.C_drewN ?_ _) | (with_reducible refine Kd.C_drew ?_))); (case side4 => exact HC273_1.out); rintro e w' ⟨rfl, ⟨nd, rfl⟩⟩; (try first | exact ⟨rfl, _, World.drewN_drewN _ _ _⟩ | exact ⟨rfl, _, Eq.trans (World.drewN_drewN _ _ _) (congrArg (World.drewN _) (Nat.add_assoc _ _ _))⟩)))
                        repeat (go_quiet (first | (go_at_call 12; (with_reducible refine (bastionref02_Same.calls k2 _ _ ((rd_T40 t260 x9_2).f1) _ _ ((rd_T41 t265 x9_2).f1) true _ ?side1 ?side2 ?side3 ?side4 A19.out).mono ?_); (case side1 => repeat (first | exact (by repeat (first | (with_reducible exact HR272_1.out) | (with_reducible refine Kd.C_alloc ?_ _) | (with_reducible refine Kd.C_drewN ?_ _) | (with_reducible refine Kd.C_drew ?_) | exact HR272_1.out)) | (with_reducible refine Kd.C_alloc ?_ _) | (with_reducible refine Kd.C_drewN ?_ _) | (with_reducible refine Kd.C_drew ?_))); (case side2 => exact HC272_1.out); (case side3 => repeat (first | exact (by repeat (first | (with_reducible exact HR273_1.out) | (with_reducible refine Kd.C_alloc ?_ _) | (with_reducible refine Kd.C_drewN ?_ _) | (with_reducible refine Kd.C_drew ?_) | exact HR273_1.out)) | (with_reducible refine Kd.C_alloc ?_ _) | (with_reducible refine Kd.C_drewN ?_ _) | (with_reducible refine Kd.C_drew ?_))); (case side4 => exact HC273_1.out); rintro e w' ⟨rfl, ⟨nd, rfl⟩⟩; (try first | exact ⟨rfl, _, World.drewN_drewN _ _ _⟩ | exact ⟨rfl, _, Eq.trans (World.drewN_drewN _ _ _) (congrArg (World.drewN _) (Nat.add_assoc _ _ _))⟩))); try go_wp2_with (first | (go_at_call 12; (with_reducible refine (bastionref02_Same.calls k2 _ _ ((rd_T40 t260 x9_2).f1) _ _ ((rd_T41 t265 x9_2).f1) true _ ?side1 ?side2 ?side3 ?side4 A19.out).mono ?_); (case side1 => repeat (first | exact (by repeat (first | (with_reducible exact HR272_1.out) | (with_reducible refine Kd.C_alloc ?_ _) | (with_reducible refine Kd.C_drewN ?_ _) | (with_reducible refine Kd.C_drew ?_) | exact HR272_1.out)) | (with_reducible refine Kd.C_alloc ?_ _) | (with_reducible refine Kd.C_drewN ?_ _) | (with_reducible refine Kd.C_drew ?_))); (case side2 => exact HC272_1.out); (case side3 => repeat (first | exact (by repeat (first | (with_reducible exact HR273_1.out) | (with_reducible refine Kd.C_alloc ?_ _) | (with_reducible refine Kd.C_drewN ?_ _) | (with_reducible refine Kd.C_drew ?_) | exact HR273_1.out)) | (with_reducible refine Kd.C_alloc ?_ _) | (with_reducible refine Kd.C_drewN ?_ _) | (with_reducible refine Kd.C_drew ?_))); (case side4 => exact HC273_1.out); rintro e w' ⟨rfl, ⟨nd, rfl⟩⟩; (try first | exact ⟨rfl, _, World.drewN_drewN _ _ _⟩ | exact ⟨rfl, _, Eq.trans (World.drewN_drewN _ _ _) (congrArg (World.drewN _) (Nat.add_assoc _ _ _))⟩))))
                        go_roundg k2
                        case measure => have := HJ6.out; have := HK2.out; omega
                        case rel => exact ⟨(wrap64 (x9_2 + 1)), (by first | rfl | (simp; done) | (simp [*]; done)), H', ⟨by have := HJ6.out; have := HK2.out; omega⟩, ⟨by (with_reducible repeat (first | apply Kd.S_alloc | apply Kd.S_drewN | apply Kd.S_drew)); exact HO_3.out⟩, ⟨by (with_reducible repeat (first | apply Kd.S_alloc | apply Kd.S_drewN | apply Kd.S_drew)); exact HO_6.out⟩, ⟨by repeat (first | (with_reducible first | exact HB.out | apply below_alloc | apply pw_below_drewN | apply below_drew1) | exact HB.out)⟩⟩
                      · replace c20 := Bool.eq_false_iff.mpr c20
                        subst c20
                        have H1 : (some false) = some r := by rw [if_neg (show ¬ (false = true) by decide)] at H; exact H
                        clear H
                        have H := H1
                        clear H1
                        obtain rfl := Option.some.inj H
                        obtain ⟨Ao23, co23, eo23⟩ := Kd.S_slice HO_3.out
                        subst eo23
                        have p270 : 0 ≤ (x9_2 : Int) := of_decide_eq_true (by first | (with_reducible assumption) | assumption)
                        have q270 : x9_2 < (t260.length : Int) := of_decide_eq_true (by first | (with_reducible assumption) | assumption)
                        obtain ⟨ad270, A270_1, c270_1, e270, hx270_0, hx270_1, hl270_1, hi270_1⟩ := at_T40 (Kd.S_reads' HO_3.out).2.2 x9_2 p270 q270
                        cases e270
                        obtain ⟨ce270, hce270, hMe270, hcc270⟩ := Kd.S_get HO_3.out z40 x9_2 p270 (by first | exact q270 | exact of_decide_eq_true (by first | (with_reducible assumption) | assumption) | (have e_ := (Kd.S_reads' HO_3.out).1; omega))
                        obtain ⟨ve270_1, rfl, ge270_1⟩ := k40_openM hMe270
                        have hv270_1 := hcc270 1 _ rfl
                        rw [add_field _ _ 1 (by omega)] at hv270_1
                        replace hv270_1 := Option.some.inj (hv270_1.symm.trans hx270_1)
                        rw [hv270_1] at ge270_1
                        have HL270_1 := Aside0.mk (show Kd.R Kd.string 9 _ _ _ _ ((rd_T40 t260 x9_2).f1) from ge270_1)
                        clear hv270_1 ge270_1
                        clear hcc270 hce270
                        have HR270_1 := Aside0.mk hi270_1
                        have HC270_1 := Aside0.mk hl270_1
                        clear hi270_1 hl270_1
                        replace p270 := eq_true p270
                        replace q270 := eq_true q270
                        obtain ⟨Ao24, co24, eo24⟩ := Kd.S_slice HO_6.out
                        subst eo24
                        have p271 : 0 ≤ (x9_2 : Int) := of_decide_eq_true (by first | (with_reducible assumption) | assumption)
                        have q271 : x9_2 < (t265.length : Int) := of_decide_eq_true (by first | (with_reducible assumption) | assumption)
                        obtain ⟨ad271, A271_1, c271_1, e271, hx271_0, hx271_1, hl271_1, hi271_1⟩ := at_T41 (Kd.S_reads' HO_6.out).2.2 x9_2 p271 q271
                        cases e271
                        obtain ⟨ce271, hce271, hMe271, hcc271⟩ := Kd.S_get HO_6.out z41 x9_2 p271 (by first | exact q271 | exact of_decide_eq_true (by first | (with_reducible assumption) | assumption) | (have e_ := (Kd.S_reads' HO_6.out).1; omega))
                        obtain ⟨ve271_1, rfl, ge271_1⟩ := k41_openM hMe271
                        have hv271_1 := hcc271 1 _ rfl
                        rw [add_field _ _ 1 (by omega)] at hv271_1
                        replace hv271_1 := Option.some.inj (hv271_1.symm.trans hx271_1)
                        rw [hv271_1] at ge271_1
                        have HL271_1 := Aside0.mk (show Kd.R Kd.string 9 _ _ _ _ ((rd_T41 t265 x9_2).f1) from ge271_1)
                        clear hv271_1 ge271_1
                        clear hcc271 hce271
                        have HR271_1 := Aside0.mk hi271_1
                        have HC271_1 := Aside0.mk hl271_1
                        clear hi271_1 hl271_1
                        replace p271 := eq_true p271
                        replace q271 := eq_true q271
                        have p272 : 0 ≤ (x9_2 : Int) := of_decide_eq_true (by first | (with_reducible assumption) | assumption)
                        have q272 : x9_2 < (t260.length : Int) := of_decide_eq_true (by first | (with_reducible assumption) | assumption)
                        obtain ⟨ad272, A272_1, c272_1, e272, hx272_0, hx272_1, hl272_1, hi272_1⟩ := at_T40 (Kd.S_reads' HO_3.out).2.2 x9_2 p272 q272
                        obtain rfl : ad270 = ad272 := (by injection e272)
                        obtain ⟨ce272, hce272, hMe272, hcc272⟩ := Kd.S_get HO_3.out z40 x9_2 p272 (by first | exact q272 | exact of_decide_eq_true (by first | (with_reducible assumption) | assumption) | (have e_ := (Kd.S_reads' HO_3.out).1; omega))
                        obtain ⟨ve272_1, rfl, ge272_1⟩ := k40_openM hMe272
                        have hv272_1 := hcc272 1 _ rfl
                        rw [add_field _ _ 1 (by omega)] at hv272_1
                        replace hv272_1 := Option.some.inj (hv272_1.symm.trans hx272_1)
                        rw [hv272_1] at ge272_1
                        have HL272_1 := Aside0.mk (show Kd.R Kd.string 9 _ _ _ _ ((rd_T40 t260 x9_2).f1) from ge272_1)
                        clear hv272_1 ge272_1
                        clear hcc272 hce272
                        have HR272_1 := Aside0.mk hi272_1
                        have HC272_1 := Aside0.mk hl272_1
                        clear hi272_1 hl272_1
                        replace p272 := eq_true p272
                        replace q272 := eq_true q272
                        have ea_ := Option.some.inj (hx270_1.symm.trans hx272_1)
                        injection ea_ with ea_ en_ ec_
                        subst ea_
                        subst ec_
                        clear en_
                        have p273 : 0 ≤ (x9_2 : Int) := of_decide_eq_true (by first | (with_reducible assumption) | assumption)
                        have q273 : x9_2 < (t265.length : Int) := of_decide_eq_true (by first | (with_reducible assumption) | assumption)
                        obtain ⟨ad273, A273_1, c273_1, e273, hx273_0, hx273_1, hl273_1, hi273_1⟩ := at_T41 (Kd.S_reads' HO_6.out).2.2 x9_2 p273 q273
                        obtain rfl : ad271 = ad273 := (by injection e273)
                        obtain ⟨ce273, hce273, hMe273, hcc273⟩ := Kd.S_get HO_6.out z41 x9_2 p273 (by first | exact q273 | exact of_decide_eq_true (by first | (with_reducible assumption) | assumption) | (have e_ := (Kd.S_reads' HO_6.out).1; omega))
                        obtain ⟨ve273_1, rfl, ge273_1⟩ := k41_openM hMe273
                        have hv273_1 := hcc273 1 _ rfl
                        rw [add_field _ _ 1 (by omega)] at hv273_1
                        replace hv273_1 := Option.some.inj (hv273_1.symm.trans hx273_1)
                        rw [hv273_1] at ge273_1
                        have HL273_1 := Aside0.mk (show Kd.R Kd.string 9 _ _ _ _ ((rd_T41 t265 x9_2).f1) from ge273_1)
                        clear hv273_1 ge273_1
                        clear hcc273 hce273
                        have HR273_1 := Aside0.mk hi273_1
                        have HC273_1 := Aside0.mk hl273_1
                        clear hi273_1 hl273_1
                        replace p273 := eq_true p273
                        replace q273 := eq_true q273
                        have ea_ := Option.some.inj (hx271_1.symm.trans hx273_1)
                        injection ea_ with ea_ en_ ec_
                        subst ea_
                        subst ec_
                        clear en_
                        go_wp2_with (first | (go_at_call 12; (with_reducible refine (bastionref02_Same.calls k2 _ _ ((rd_T40 t260 x9_2).f1) _ _ ((rd_T41 t265 x9_2).f1) false _ ?side1 ?side2 ?side3 ?side4 A19.out).mono ?_); (case side1 => repeat (first | exact (by repeat (first | (with_reducible exact HR272_1.out) | (with_reducible refine Kd.C_alloc ?_ _) | (with_reducible refine Kd.C_drewN ?_ _) | (with_reducible refine Kd.C_drew ?_) | exact HR272_1.out)) | (with_reducible refine Kd.C_alloc ?_ _) | (with_reducible refine Kd.C_drewN ?_ _) | (with_reducible refine Kd.C_drew ?_))); (case side2 => exact HC272_1.out); (case side3 => repeat (first | exact (by repeat (first | (with_reducible exact HR273_1.out) | (with_reducible refine Kd.C_alloc ?_ _) | (with_reducible refine Kd.C_drewN ?_ _) | (with_reducible refine Kd.C_drew ?_) | exact HR273_1.out)) | (with_reducible refine Kd.C_alloc ?_ _) | (with_reducible refine Kd.C_drewN ?_ _) | (with_reducible refine Kd.C_drew ?_))); (case side4 => exact HC273_1.out); rintro e w' ⟨rfl, ⟨nd, rfl⟩⟩; (try first | exact ⟨rfl, _, World.drewN_drewN _ _ _⟩ | exact ⟨rfl, _, Eq.trans (World.drewN_drewN _ _ _) (congrArg (World.drewN _) (Nat.add_assoc _ _ _))⟩)))
                        repeat (go_quiet (first | (go_at_call 12; (with_reducible refine (bastionref02_Same.calls k2 _ _ ((rd_T40 t260 x9_2).f1) _ _ ((rd_T41 t265 x9_2).f1) false _ ?side1 ?side2 ?side3 ?side4 A19.out).mono ?_); (case side1 => repeat (first | exact (by repeat (first | (with_reducible exact HR272_1.out) | (with_reducible refine Kd.C_alloc ?_ _) | (with_reducible refine Kd.C_drewN ?_ _) | (with_reducible refine Kd.C_drew ?_) | exact HR272_1.out)) | (with_reducible refine Kd.C_alloc ?_ _) | (with_reducible refine Kd.C_drewN ?_ _) | (with_reducible refine Kd.C_drew ?_))); (case side2 => exact HC272_1.out); (case side3 => repeat (first | exact (by repeat (first | (with_reducible exact HR273_1.out) | (with_reducible refine Kd.C_alloc ?_ _) | (with_reducible refine Kd.C_drewN ?_ _) | (with_reducible refine Kd.C_drew ?_) | exact HR273_1.out)) | (with_reducible refine Kd.C_alloc ?_ _) | (with_reducible refine Kd.C_drewN ?_ _) | (with_reducible refine Kd.C_drew ?_))); (case side4 => exact HC273_1.out); rintro e w' ⟨rfl, ⟨nd, rfl⟩⟩; (try first | exact ⟨rfl, _, World.drewN_drewN _ _ _⟩ | exact ⟨rfl, _, Eq.trans (World.drewN_drewN _ _ _) (congrArg (World.drewN _) (Nat.add_assoc _ _ _))⟩))); try go_wp2_with (first | (go_at_call 12; (with_reducible refine (bastionref02_Same.calls k2 _ _ ((rd_T40 t260 x9_2).f1) _ _ ((rd_T41 t265 x9_2).f1) false _ ?side1 ?side2 ?side3 ?side4 A19.out).mono ?_); (case side1 => repeat (first | exact (by repeat (first | (with_reducible exact HR272_1.out) | (with_reducible refine Kd.C_alloc ?_ _) | (with_reducible refine Kd.C_drewN ?_ _) | (with_reducible refine Kd.C_drew ?_) | exact HR272_1.out)) | (with_reducible refine Kd.C_alloc ?_ _) | (with_reducible refine Kd.C_drewN ?_ _) | (with_reducible refine Kd.C_drew ?_))); (case side2 => exact HC272_1.out); (case side3 => repeat (first | exact (by repeat (first | (with_reducible exact HR273_1.out) | (with_reducible refine Kd.C_alloc ?_ _) | (with_reducible refine Kd.C_drewN ?_ _) | (with_reducible refine Kd.C_drew ?_) | exact HR273_1.out)) | (with_reducible refine Kd.C_alloc ?_ _) | (with_reducible refine Kd.C_drewN ?_ _) | (with_reducible refine Kd.C_drew ?_))); (case side4 => exact HC273_1.out); rintro e w' ⟨rfl, ⟨nd, rfl⟩⟩; (try first | exact ⟨rfl, _, World.drewN_drewN _ _ _⟩ | exact ⟨rfl, _, Eq.trans (World.drewN_drewN _ _ _) (congrArg (World.drewN _) (Nat.add_assoc _ _ _))⟩))))
                        go_ret
                        exact ⟨by first | rfl | (simp [errW_none, errW_some] <;> rfl) | (simp [*, errW_none, errW_some] <;> rfl), by repeat (first | (with_reducible first | exact HB.out | apply below_alloc | apply pw_below_drewN | apply below_drew1) | exact HB.out)⟩
                    · rw [if_neg c18] at H
                      have c18b0 : (((rd_T40 t260 x9_2).f0) == ((rd_T41 t265 x9_2).f0)) = false := beq_eq_false_iff_ne.mpr c18
                      have c18b1 : (((rd_T40 t260 x9_2).f0) != ((rd_T41 t265 x9_2).f0)) = true := bne_iff_ne.mpr c18
                      obtain rfl := Option.some.inj H
                      obtain ⟨Ao25, co25, eo25⟩ := Kd.S_slice HO_3.out
                      subst eo25
                      have p270 : 0 ≤ (x9_2 : Int) := of_decide_eq_true (by first | (with_reducible assumption) | assumption)
                      have q270 : x9_2 < (t260.length : Int) := of_decide_eq_true (by first | (with_reducible assumption) | assumption)
                      obtain ⟨ad270, A270_1, c270_1, e270, hx270_0, hx270_1, hl270_1, hi270_1⟩ := at_T40 (Kd.S_reads' HO_3.out).2.2 x9_2 p270 q270
                      cases e270
                      obtain ⟨ce270, hce270, hMe270, hcc270⟩ := Kd.S_get HO_3.out z40 x9_2 p270 (by first | exact q270 | exact of_decide_eq_true (by first | (with_reducible assumption) | assumption) | (have e_ := (Kd.S_reads' HO_3.out).1; omega))
                      obtain ⟨ve270_1, rfl, ge270_1⟩ := k40_openM hMe270
                      have hv270_1 := hcc270 1 _ rfl
                      rw [add_field _ _ 1 (by omega)] at hv270_1
                      replace hv270_1 := Option.some.inj (hv270_1.symm.trans hx270_1)
                      rw [hv270_1] at ge270_1
                      have HL270_1 := Aside0.mk (show Kd.R Kd.string 9 _ _ _ _ ((rd_T40 t260 x9_2).f1) from ge270_1)
                      clear hv270_1 ge270_1
                      clear hcc270 hce270
                      have HR270_1 := Aside0.mk hi270_1
                      have HC270_1 := Aside0.mk hl270_1
                      clear hi270_1 hl270_1
                      replace p270 := eq_true p270
                      replace q270 := eq_true q270
                      obtain ⟨Ao26, co26, eo26⟩ := Kd.S_slice HO_6.out
                      subst eo26
                      have p271 : 0 ≤ (x9_2 : Int) := of_decide_eq_true (by first | (with_reducible assumption) | assumption)
                      have q271 : x9_2 < (t265.length : Int) := of_decide_eq_true (by first | (with_reducible assumption) | assumption)
                      obtain ⟨ad271, A271_1, c271_1, e271, hx271_0, hx271_1, hl271_1, hi271_1⟩ := at_T41 (Kd.S_reads' HO_6.out).2.2 x9_2 p271 q271
                      cases e271
                      obtain ⟨ce271, hce271, hMe271, hcc271⟩ := Kd.S_get HO_6.out z41 x9_2 p271 (by first | exact q271 | exact of_decide_eq_true (by first | (with_reducible assumption) | assumption) | (have e_ := (Kd.S_reads' HO_6.out).1; omega))
                      obtain ⟨ve271_1, rfl, ge271_1⟩ := k41_openM hMe271
                      have hv271_1 := hcc271 1 _ rfl
                      rw [add_field _ _ 1 (by omega)] at hv271_1
                      replace hv271_1 := Option.some.inj (hv271_1.symm.trans hx271_1)
                      rw [hv271_1] at ge271_1
                      have HL271_1 := Aside0.mk (show Kd.R Kd.string 9 _ _ _ _ ((rd_T41 t265 x9_2).f1) from ge271_1)
                      clear hv271_1 ge271_1
                      clear hcc271 hce271
                      have HR271_1 := Aside0.mk hi271_1
                      have HC271_1 := Aside0.mk hl271_1
                      clear hi271_1 hl271_1
                      replace p271 := eq_true p271
                      replace q271 := eq_true q271
                      go_wp2
                      repeat (go_quiet (fail); try go_wp2)
                      go_ret
                      exact ⟨by first | rfl | (simp [errW_none, errW_some] <;> rfl) | (simp [*, errW_none, errW_some] <;> rfl), by repeat (first | (with_reducible first | exact HB.out | apply below_alloc | apply pw_below_drewN | apply below_drew1) | exact HB.out)⟩
                  · rw [if_neg c17] at H
                    exact absurd H (by simp)
                · rw [if_neg c16] at H
                  exact absurd H (by simp)
              · rw [if_neg c15] at H
                have c15b0 : decide (x9_2 < (t260.length : Int)) = false := decide_eq_false c15
                clear c15
                replace H := Option.bind_eq_some_iff.mp H
                obtain ⟨t275, A270, H⟩ := H
                replace H : (some t275) = some r := H
                have A27 := Aside0.mk A270
                clear A270
                obtain rfl := Option.some.inj H
                obtain ⟨Ao28, co28, eo28⟩ := Kd.S_slice HO_3.out
                subst eo28
                go_wp2_with (first | (go_at_call 9; (with_reducible refine (bastionlaw02_awake.calls k2  t275 _ A27.out).mono ?_); rintro e w29 ⟨rfl, hb⟩; have n0_ := Aside0.mk (Kd.S_below (by (with_reducible repeat (first | apply Kd.S_alloc | apply Kd.S_drewN | apply Kd.S_drew)); exact HO_3.out) hb); have n1_ := Aside0.mk (Kd.S_below (by (with_reducible repeat (first | apply Kd.S_alloc | apply Kd.S_drewN | apply Kd.S_drew)); exact HO_6.out) hb); have n2_ := Aside0.mk (below_step (by repeat (first | (with_reducible first | exact HB.out | apply below_alloc | apply pw_below_drewN | apply below_drew1) | exact HB.out)) hb); clear HO_3; clear HO_6; clear HB; have HO_3 := n0_; have HO_6 := n1_; have HB := n2_; clear n0_ n1_ n2_; (try clear hb); (try clear hb2); (try clear hk); (try clear hi)))
                repeat (go_quiet (first | (go_at_call 9; (with_reducible refine (bastionlaw02_awake.calls k2  t275 _ A27.out).mono ?_); rintro e w29 ⟨rfl, hb⟩; have n0_ := Aside0.mk (Kd.S_below (by (with_reducible repeat (first | apply Kd.S_alloc | apply Kd.S_drewN | apply Kd.S_drew)); exact HO_3.out) hb); have n1_ := Aside0.mk (Kd.S_below (by (with_reducible repeat (first | apply Kd.S_alloc | apply Kd.S_drewN | apply Kd.S_drew)); exact HO_6.out) hb); have n2_ := Aside0.mk (below_step (by repeat (first | (with_reducible first | exact HB.out | apply below_alloc | apply pw_below_drewN | apply below_drew1) | exact HB.out)) hb); clear HO_3; clear HO_6; clear HB; have HO_3 := n0_; have HO_6 := n1_; have HB := n2_; clear n0_ n1_ n2_; (try clear hb); (try clear hb2); (try clear hk); (try clear hi))); try go_wp2_with (first | (go_at_call 9; (with_reducible refine (bastionlaw02_awake.calls k2  t275 _ A27.out).mono ?_); rintro e w29 ⟨rfl, hb⟩; have n0_ := Aside0.mk (Kd.S_below (by (with_reducible repeat (first | apply Kd.S_alloc | apply Kd.S_drewN | apply Kd.S_drew)); exact HO_3.out) hb); have n1_ := Aside0.mk (Kd.S_below (by (with_reducible repeat (first | apply Kd.S_alloc | apply Kd.S_drewN | apply Kd.S_drew)); exact HO_6.out) hb); have n2_ := Aside0.mk (below_step (by repeat (first | (with_reducible first | exact HB.out | apply below_alloc | apply pw_below_drewN | apply below_drew1) | exact HB.out)) hb); clear HO_3; clear HO_6; clear HB; have HO_3 := n0_; have HO_6 := n1_; have HB := n2_; clear n0_ n1_ n2_; (try clear hb); (try clear hb2); (try clear hk); (try clear hi))))
                go_ret
                exact ⟨by first | rfl | (simp [errW_none, errW_some] <;> rfl) | (simp [*, errW_none, errW_some] <;> rfl), by repeat (first | (with_reducible first | exact HB.out | apply below_alloc | apply pw_below_drewN | apply below_drew1) | exact HB.out)⟩

/-- THE ONE PURE STATEMENT of bastionlaw02_WordsLines: yours. -/
def bastionlaw02_WordsLines.Pure : Prop := ∀ (a0 : ByteArray), a0.size ≤ 140737488351232 → ∃ k, bastionlaw02_WordsLines.f k a0 = some true
theorem bastionlaw02_WordsLines.walk (P : bastionlaw02_WordsLines.Pure) (a0 : ByteArray) (w : World) (w0 : a0.size ≤ 140737488351232) :
    Calls Tryd.prog 6 #[.string a0] w fun e w' => e = .returned (.bool true) ∧ Below w.heap.size w w' := by
  obtain ⟨k, h⟩ := P a0 w0
  refine (bastionlaw02_WordsLines.calls k a0 true w h).mono ?_
  rintro e w' ⟨rfl, hd⟩
  exact ⟨rfl, hd⟩

end Go.Proofs.YtckfpbkckffjjaaDoor.X
