-- Written by wip/xprint.py: the kit's print with functions proved by hand in their places. Not trusted: Lean checks it.
import Derived.Test.YtckfpbkckffjjaaDoorXx0
import Derived.Test.YtckfpbkckffjjaaDoorXx1
import Derived.Test.YtckfpbkckffjjaaDoorXx2
import Derived.Test.YtckfpbkckffjjaaDoorXx3
import Derived.Test.YtckfpbkckffjjaaDoorXx5
namespace Go.Proofs.YtckfpbkckffjjaaDoor.X
open Go.RowKit Go.Proofs.YtckfpbkckffjjaaDoorW.PrintWords Go.Proofs.YtckfpbkckffjjaaDoorW.PrintLast Go.Proofs.YtckfpbkckffjjaaDoorW.PrintMore
attribute [local go_sem] max2_int min2_int max_two min_two max_three min_three max_four min_four   -- for this text's walks alone
set_option linter.unusedVariables false
set_option linter.unusedSimpArgs false

/-! ### bastionlaw02_WordsSplit: function 3 -/
mutual
def bastionlaw02_WordsSplit.j0 : Nat → ByteArray → List ByteArray → List ByteArray → Bool → Option (Bool)
  | 0, _, _, _, _ => none
  | k + 1, x0, x3, x5, x32 => if x32 = true then (some false) else (bastionlaw02_WordsSplit.l0 k x0 x3 x5 0)
def bastionlaw02_WordsSplit.l0 : Nat → ByteArray → List ByteArray → List ByteArray → Int → Option (Bool)
  | 0, _, _, _, _ => none
  | k + 1, x0, x3, x5, x7 => if x7 < (x3.length : Int) then (if 0 ≤ x7 then (bastionlaw02_WordsSplit.l0 k x0 (x3.set (x7 : Int).toNat (⟨#[115, 112, 111, 105, 108, 116]⟩ : ByteArray)) x5 (wrap64 (x7 + 1))) else (none)) else ((words_Split.f k x0).bind fun bt196 => ((bastionref02_Same.f k bt196.1 x5).bind fun t200 => (if t200 = true then ((bastionlaw02_awake.f k).bind fun t201 => (some t201)) else (some false))))
end
def bastionlaw02_WordsSplit.f (k : Nat) (a0 : ByteArray) : Option (Bool) := if (a0.size : Int) > 5000 then ((bastionlaw02_awake.f k).bind fun t185 => (some t185)) else ((words_Split.f k a0).bind fun bt186 => ((bastionref02_Split.f k a0).bind fun bt190 => (if bt186.2 = bt190.2 then ((bastionref02_Same.f k bt186.1 bt190.1).bind fun t194 => (bastionlaw02_WordsSplit.j0 k a0 bt186.1 bt190.1 (!t194))) else (bastionlaw02_WordsSplit.j0 k a0 bt186.1 bt190.1 true))))
theorem bastionlaw02_WordsSplit.mono_l : ∀ k, (∀ y0 y1 y2 y3, LeO (bastionlaw02_WordsSplit.j0 k y0 y1 y2 y3) (bastionlaw02_WordsSplit.j0 (k + 1) y0 y1 y2 y3)) ∧ (∀ y0 y1 y2 y3, LeO (bastionlaw02_WordsSplit.l0 k y0 y1 y2 y3) (bastionlaw02_WordsSplit.l0 (k + 1) y0 y1 y2 y3))
  | 0 => ⟨fun _ _ _ _ r h => by simp [bastionlaw02_WordsSplit.j0] at h, fun _ _ _ _ r h => by simp [bastionlaw02_WordsSplit.l0] at h⟩
  | k + 1 => by
    obtain ⟨ih0, ih1⟩ := bastionlaw02_WordsSplit.mono_l k
    refine ⟨?_, ?_⟩
    · intro y0 y1 y2 y3
      unfold bastionlaw02_WordsSplit.j0
      repeat' first
      | (with_reducible exact ih0 _ _ _ _)
      | (with_reducible exact ih1 _ _ _ _)
      | (with_reducible exact bastionlaw02_awake.mono _)
      | (with_reducible exact bastionref02_Same.mono _ _ _)
      | (with_reducible exact bastionref02_Split.mono _ _)
      | (with_reducible exact words_Split.mono _ _)
      | (with_reducible exact LeO.refl _)
      | (with_reducible exact LeO.none _)
      | (with_reducible refine LeO.ite ?_ ?_)
      | (with_reducible refine LeO.bind ?_ (fun _ => ?_))
      | exact ih0 _ _ _ _
      | exact ih1 _ _ _ _
      | exact bastionlaw02_awake.mono _
      | exact bastionref02_Same.mono _ _ _
      | exact bastionref02_Split.mono _ _
      | exact words_Split.mono _ _
      | exact LeO.none _
      | refine LeO.ite ?_ ?_
      | refine LeO.bind ?_ (fun _ => ?_)
    · intro y0 y1 y2 y3
      unfold bastionlaw02_WordsSplit.l0
      repeat' first
      | (with_reducible exact ih0 _ _ _ _)
      | (with_reducible exact ih1 _ _ _ _)
      | (with_reducible exact bastionlaw02_awake.mono _)
      | (with_reducible exact bastionref02_Same.mono _ _ _)
      | (with_reducible exact bastionref02_Split.mono _ _)
      | (with_reducible exact words_Split.mono _ _)
      | (with_reducible exact LeO.refl _)
      | (with_reducible exact LeO.none _)
      | (with_reducible refine LeO.ite ?_ ?_)
      | (with_reducible refine LeO.bind ?_ (fun _ => ?_))
      | exact ih0 _ _ _ _
      | exact ih1 _ _ _ _
      | exact bastionlaw02_awake.mono _
      | exact bastionref02_Same.mono _ _ _
      | exact bastionref02_Split.mono _ _
      | exact words_Split.mono _ _
      | exact LeO.none _
      | refine LeO.ite ?_ ?_
      | refine LeO.bind ?_ (fun _ => ?_)
theorem bastionlaw02_WordsSplit.mono : ∀ a0 k, LeO (bastionlaw02_WordsSplit.f k a0) (bastionlaw02_WordsSplit.f (k + 1) a0) := by
  intro a0 k
  obtain ⟨ih0, ih1⟩ := bastionlaw02_WordsSplit.mono_l k
  unfold bastionlaw02_WordsSplit.f
  repeat' first
      | (with_reducible exact ih0 _ _ _ _)
      | (with_reducible exact ih1 _ _ _ _)
      | (with_reducible exact bastionlaw02_awake.mono _)
      | (with_reducible exact bastionref02_Same.mono _ _ _)
      | (with_reducible exact bastionref02_Split.mono _ _)
      | (with_reducible exact words_Split.mono _ _)
      | (with_reducible exact LeO.refl _)
      | (with_reducible exact LeO.none _)
      | (with_reducible refine LeO.ite ?_ ?_)
      | (with_reducible refine LeO.bind ?_ (fun _ => ?_))
      | exact ih0 _ _ _ _
      | exact ih1 _ _ _ _
      | exact bastionlaw02_awake.mono _
      | exact bastionref02_Same.mono _ _ _
      | exact bastionref02_Split.mono _ _
      | exact words_Split.mono _ _
      | exact LeO.none _
      | refine LeO.ite ?_ ?_
      | refine LeO.bind ?_ (fun _ => ?_)
set_option maxHeartbeats 8000000 in
set_option maxRecDepth 100000 in
theorem bastionlaw02_WordsSplit.calls (k : Nat) (a0 : ByteArray) (r : Bool) (w : World) (h : bastionlaw02_WordsSplit.f k a0 = some r) :
    Calls Tryd.prog 3 #[.string a0] w fun e w' => e = .returned (.bool r) ∧ Below w.heap.size w w' := by
  have HB := Aside0.mk (Below.refl w.heap.size w)
  have H : (if (a0.size : Int) > 5000 then ((bastionlaw02_awake.f k).bind fun t185 => (some t185)) else ((words_Split.f k a0).bind fun bt186 => ((bastionref02_Split.f k a0).bind fun bt190 => (if bt186.2 = bt190.2 then ((bastionref02_Same.f k bt186.1 bt190.1).bind fun t194 => (bastionlaw02_WordsSplit.j0 k a0 bt186.1 bt190.1 (!t194))) else (bastionlaw02_WordsSplit.j0 k a0 bt186.1 bt190.1 true))))) = some r := h
  clear h
  by_cases c2 : (a0.size : Int) > 5000
  · rw [if_pos c2] at H
    have c2b0 : decide (5000 < (a0.size : Int)) = true := decide_eq_true c2
    have c2b1 : decide (5000 < a0.size) = true := decide_eq_true (by omega)
    clear c2
    replace H := Option.bind_eq_some_iff.mp H
    obtain ⟨t185, A30, H⟩ := H
    replace H : (some t185) = some r := H
    have A3 := Aside0.mk A30
    clear A30
    obtain rfl := Option.some.inj H
    go_enter Tryd.func3, Tryd.ntmps3
    go_wp2_with (first | ((with_reducible refine gate_callee (f := 9) rfl ?_); refine goesL_ (some 13) rfl rfl Tryd.func9 (by kernel_rfl) rfl #[] rfl (by (try simp only [List.map_toArray, List.map_cons, List.map_nil]); first | done | rfl | (simp only [List.length_drop, List.length_take]; rfl)) ?_; (with_reducible refine (bastionlaw02_awake.calls k  t185 _ A3.out).mono ?_); rintro e w4 ⟨rfl, hb⟩; refine ⟨_, rfl, ?_⟩; have n0_ := Aside0.mk (below_step (by repeat (first | (with_reducible first | exact HB.out | apply below_alloc | apply pw_below_drewN | apply below_drew1) | exact HB.out)) hb); clear HB; have HB := n0_; clear n0_; (try clear hb); (try clear hb2); (try clear hk); (try clear hi)))
    go_ret
    exact ⟨by first | rfl | (simp [errW_none, errW_some] <;> rfl) | (simp [*, errW_none, errW_some] <;> rfl), by repeat (first | (with_reducible first | exact HB.out | apply below_alloc | apply pw_below_drewN | apply below_drew1) | exact HB.out)⟩
  · rw [if_neg c2] at H
    have c2b0 : decide (5000 < (a0.size : Int)) = false := decide_eq_false c2
    have c2b1 : decide (5000 < a0.size) = false := decide_eq_false (by omega)
    clear c2
    replace H := Option.bind_eq_some_iff.mp H
    obtain ⟨⟨t186, t187⟩, A50, H⟩ := H
    replace H : ((bastionref02_Split.f k a0).bind fun bt190 => (if t187 = bt190.2 then ((bastionref02_Same.f k t186 bt190.1).bind fun t194 => (bastionlaw02_WordsSplit.j0 k a0 t186 bt190.1 (!t194))) else (bastionlaw02_WordsSplit.j0 k a0 t186 bt190.1 true))) = some r := H
    have A5 := Aside0.mk A50
    clear A50
    replace H := Option.bind_eq_some_iff.mp H
    obtain ⟨⟨t190, t191⟩, A60, H⟩ := H
    replace H : (if t187 = t191 then ((bastionref02_Same.f k t186 t190).bind fun t194 => (bastionlaw02_WordsSplit.j0 k a0 t186 t190 (!t194))) else (bastionlaw02_WordsSplit.j0 k a0 t186 t190 true)) = some r := H
    have A6 := Aside0.mk A60
    clear A60
    have HC7 := Aside0.mk H
    clear H
    go_enter Tryd.func3, Tryd.ntmps3
    go_upto_region 5 with (first | ((with_reducible refine gate_callee (f := 10) rfl ?_); refine goesL_ (some 16) rfl rfl Tryd.func10 (by kernel_rfl) rfl #[.string a0] rfl (by (try simp only [List.map_toArray, List.map_cons, List.map_nil]); first | done | rfl | (simp only [List.length_drop, List.length_take]; rfl)) ?_; (with_reducible refine (words_Split.calls k a0 t186 t187 _ A5.out).mono ?_); rintro e w8 ⟨v188, rfl, ho0, hb⟩; refine ⟨_, rfl, ?_⟩; have n0_ := Aside0.mk (Kd.R_lower ho0 (below_size (by repeat (first | (with_reducible first | exact HB.out | apply below_alloc | apply pw_below_drewN | apply below_drew1) | exact HB.out)))); have n1_ := Aside0.mk (below_step (by repeat (first | (with_reducible first | exact HB.out | apply below_alloc | apply pw_below_drewN | apply below_drew1) | exact HB.out)) hb); clear HB; have HO189 := n0_; have HB := n1_; clear n0_ n1_; (try clear hb); (try clear hb2); (try clear hk); (try clear hi); (try clear ho0)) | ((with_reducible refine gate_callee (f := 11) rfl ?_); refine goesL_ (some 21) rfl rfl Tryd.func11 (by kernel_rfl) rfl #[.string a0] rfl (by (try simp only [List.map_toArray, List.map_cons, List.map_nil]); first | done | rfl | (simp only [List.length_drop, List.length_take]; rfl)) ?_; (with_reducible refine (bastionref02_Split.calls k a0 t190 t191 _ A6.out).mono ?_); rintro e w9 ⟨v192, rfl, ho0, hb⟩; refine ⟨_, rfl, ?_⟩; have n0_ := Aside0.mk (Kd.R_elder' (by (with_reducible repeat (first | apply Kd.R_alloc | apply Kd.R_drewN | apply Kd.R_drew)); exact HO189.out) (Kd.R_base ho0) hb); have n1_ := Aside0.mk (Kd.R_lower (Kd.R_new' ho0 (Kd.R_lt (by (with_reducible repeat (first | apply Kd.R_alloc | apply Kd.R_drewN | apply Kd.R_drew)); exact HO189.out))) (below_size (by repeat (first | (with_reducible first | exact HB.out | apply below_alloc | apply pw_below_drewN | apply below_drew1) | exact HB.out)))); have n2_ := Aside0.mk (below_step (by repeat (first | (with_reducible first | exact HB.out | apply below_alloc | apply pw_below_drewN | apply below_drew1) | exact HB.out)) hb); clear HO189; clear HB; have HO189 := n0_; have HO193 := n1_; have HB := n2_; clear n0_ n1_ n2_; (try clear hb); (try clear hb2); (try clear hk); (try clear hi); (try clear ho0)))
    (try simp only [Act.put, List.setIfInBounds_toArray, List.set_cons_zero, List.set_cons_succ])
    go_cut [32] (fun v32 wc => ∃ (kq : Nat) (x32_6 : Bool), v32 = .bool x32_6 ∧ Aside0 (bastionlaw02_WordsSplit.j0 kq a0 t186 t190 x32_6 = some r) ∧ Aside0 (kq ≤ k) ∧ Aside0 (Kd.R Kd.string 9 wc w.heap.size (fun k_ => some k_ ≠ (v192 : Value).ownBlock) v188 t186) ∧ Aside0 (Kd.R Kd.string 9 wc w.heap.size (fun k_ => some k_ ≠ (v188 : Value).ownBlock) v192 t190) ∧ Aside0 (Below w.heap.size w wc))
    case first =>
      have H := HC7.out
      clear HC7
      by_cases c10 : t187 = t191
      · rw [if_pos c10] at H
        have c10b0 : (t187 == t191) = true := beq_iff_eq.mpr c10
        have c10b1 : (t187 != t191) = false := bne_eq_false_iff_eq.mpr c10
        clear c10
        (first | rw [c10b0] | (simp only [i64_w, i32_w]; rw [c10b0]) | skip)
        replace H := Option.bind_eq_some_iff.mp H
        obtain ⟨t194, A110, H⟩ := H
        replace H : (bastionlaw02_WordsSplit.j0 k a0 t186 t190 (!t194)) = some r := H
        have A11 := Aside0.mk A110
        clear A110
        have H' := Aside0.mk H
        clear H
        obtain ⟨Ao12, co12, eo12⟩ := Kd.R_slice HO189.out
        subst eo12
        obtain ⟨Ao13, co13, eo13⟩ := Kd.R_slice HO193.out
        subst eo13
        go_wp2_with (first | (go_at_call 12; (with_reducible refine (bastionref02_Same.calls k _ _ t186 _ _ t190 t194 _ ?side1 ?side2 ?side3 ?side4 A11.out).mono ?_); (case side1 => repeat (first | exact (Kd.R_reads' HO189.out).2.2 | (with_reducible refine Kd.C_alloc ?_ _) | (with_reducible refine Kd.C_drewN ?_ _) | (with_reducible refine Kd.C_drew ?_))); (case side2 => exact (Kd.R_reads' HO189.out).2.1); (case side3 => repeat (first | exact (Kd.R_reads' HO193.out).2.2 | (with_reducible refine Kd.C_alloc ?_ _) | (with_reducible refine Kd.C_drewN ?_ _) | (with_reducible refine Kd.C_drew ?_))); (case side4 => exact (Kd.R_reads' HO193.out).2.1); rintro e w' ⟨rfl, ⟨nd, rfl⟩⟩))
        go_meet
        case rel => exact ⟨_, (!t194), (by first | rfl | (simp; done) | (simp [*]; done)), H', ⟨by first | omega | exact Nat.le_refl _⟩, ⟨by (with_reducible repeat (first | apply Kd.R_alloc | apply Kd.R_drewN | apply Kd.R_drew)); exact Kd.R_mono HO189.out (fun _ hk => hk.2)⟩, ⟨by (with_reducible repeat (first | apply Kd.R_alloc | apply Kd.R_drewN | apply Kd.R_drew)); exact Kd.R_mono HO193.out (fun _ hk => hk.2)⟩, ⟨by repeat (first | (with_reducible first | exact HB.out | apply below_alloc | apply pw_below_drewN | apply below_drew1) | exact HB.out)⟩⟩
      · rw [if_neg c10] at H
        have c10b0 : (t187 == t191) = false := beq_eq_false_iff_ne.mpr c10
        have c10b1 : (t187 != t191) = true := bne_iff_ne.mpr c10
        (first | rw [c10b0] | (simp only [i64_w, i32_w]; rw [c10b0]) | skip)
        have H' := Aside0.mk H
        clear H
        go_wp2
        go_meet
        case rel => exact ⟨_, (true), (by first | rfl | (simp; done) | (simp [*]; done)), H', ⟨by first | omega | exact Nat.le_refl _⟩, ⟨by (with_reducible repeat (first | apply Kd.R_alloc | apply Kd.R_drewN | apply Kd.R_drew)); exact Kd.R_mono HO189.out (fun _ hk => hk.2)⟩, ⟨by (with_reducible repeat (first | apply Kd.R_alloc | apply Kd.R_drewN | apply Kd.R_drew)); exact Kd.R_mono HO193.out (fun _ hk => hk.2)⟩, ⟨by repeat (first | (with_reducible first | exact HB.out | apply below_alloc | apply pw_below_drewN | apply below_drew1) | exact HB.out)⟩⟩
    case rest =>
      clear HC7
      try clear c1
      try clear c2
      try clear c2b0
      try clear c2b1
      try clear p2
      try clear c3
      try clear c9
      try clear c10
      try clear c10b0
      try clear c10b1
      try clear c11
      obtain ⟨kq, x32_6, rfl, HA, HJ6, HO_3, HO_5, HB⟩ := hcut
      cases kq with
      | zero => exact absurd HA.out (by simp [bastionlaw02_WordsSplit.j0])
      | succ kj6 =>
        have H := HA.out
        clear HA
        simp only [bastionlaw02_WordsSplit.j0] at H
        by_cases c14 : x32_6 = true
        · subst c14
          have H1 : (some false) = some r := by rw [if_pos rfl] at H; exact H
          clear H
          have H := H1
          clear H1
          obtain rfl := Option.some.inj H
          go_wp2
          go_ret
          exact ⟨by first | rfl | (simp [errW_none, errW_some] <;> rfl) | (simp [*, errW_none, errW_some] <;> rfl), by repeat (first | (with_reducible first | exact HB.out | apply below_alloc | apply pw_below_drewN | apply below_drew1) | exact HB.out)⟩
        · replace c14 := Bool.eq_false_iff.mpr c14
          subst c14
          have H1 : (bastionlaw02_WordsSplit.l0 kj6 a0 t186 t190 0) = some r := by rw [if_neg (show ¬ (false = true) by decide)] at H; exact H
          clear H
          have H := H1
          clear H1
          have H' := Aside0.mk H
          clear H
          go_wp2
          go_loopg [7] kj6 (fun kq v7 w' => ∃ (x3_2 : List ByteArray) (x7_2 : Int), v7 = .int .i64 x7_2 ∧ Aside0 (bastionlaw02_WordsSplit.l0 kq a0 x3_2 t190 x7_2 = some r) ∧ Aside0 (kq ≤ kj6) ∧ Aside0 (Kd.R Kd.string 9 w' w.heap.size (fun k_ => some k_ ≠ (v192 : Value).ownBlock) v188 x3_2) ∧ Aside0 (Kd.R Kd.string 9 w' w.heap.size (fun k_ => some k_ ≠ (v188 : Value).ownBlock) v192 t190) ∧ Aside0 (Below w.heap.size w w'))
          case atStart => exact ⟨(t186), (0), (by first | rfl | (simp; done) | (simp [*]; done)), H', ⟨Nat.le_refl _⟩, ⟨by (with_reducible repeat (first | apply Kd.R_alloc | apply Kd.R_drewN | apply Kd.R_drew)); exact HO_3.out⟩, ⟨by (with_reducible repeat (first | apply Kd.R_alloc | apply Kd.R_drewN | apply Kd.R_drew)); exact HO_5.out⟩, ⟨by repeat (first | (with_reducible first | exact HB.out | apply below_alloc | apply pw_below_drewN | apply below_drew1) | exact HB.out)⟩⟩
          case round =>
            clear H'
            try clear c1
            try clear c2
            try clear c2b0
            try clear c2b1
            try clear p2
            try clear c3
            try clear c9
            try clear c10
            try clear c10b0
            try clear c10b1
            try clear c11
            try clear c14
            try clear p2
            obtain ⟨x3_2, x7_2, rfl, HA, HK2, HO_3, HO_5, HB⟩ := hrel
            cases gk with
            | zero => exact absurd HA.out (by simp [bastionlaw02_WordsSplit.l0])
            | succ k2 =>
              have H := HA.out
              clear HA
              simp only [bastionlaw02_WordsSplit.l0] at H
              by_cases c15 : x7_2 < (x3_2.length : Int)
              · rw [if_pos c15] at H
                have c15b0 : decide (x7_2 < (x3_2.length : Int)) = true := decide_eq_true c15
                clear c15
                by_cases c16 : 0 ≤ x7_2
                · rw [if_pos c16] at H
                  have c16b0 : decide (0 ≤ x7_2) = true := decide_eq_true c16
                  clear c16
                  obtain ⟨y195, hy195⟩ : ∃ y_ : List ByteArray, y_ = (x3_2.set (x7_2 : Int).toNat (⟨#[115, 112, 111, 105, 108, 116]⟩ : ByteArray)) := ⟨_, rfl⟩
                  replace H : (bastionlaw02_WordsSplit.l0 k2 a0 y195 t190 (wrap64 (x7_2 + 1))) = some r := by first | (rw [hy195]; with_reducible exact H) | (have H2_ := (Option.bind_some _ _).symm.trans H; rw [hy195]; with_reducible exact H2_) | (have H2_ := (Option.bind_some _ _).symm.trans H; with_reducible exact H2_) | with_reducible exact H | (rw [hy195]; exact H) | exact H
                  have Ny195 := Aside0.mk hy195
                  clear hy195
                  have H' := Aside0.mk H
                  clear H
                  obtain ⟨Ao18, co18, eo18⟩ := Kd.R_slice HO_3.out
                  subst eo18
                  have p17 : 0 ≤ (x7_2 : Int) := of_decide_eq_true (by first | (with_reducible assumption) | assumption)
                  have q17 : (x7_2 : Int) < ((x3_2.length : Int) : Int) := of_decide_eq_true (by first | (with_reducible assumption) | assumption)
                  obtain ⟨go17, co17, eo17, gb17, gl17, cl17, HG17⟩ := Kd.R_form HO_3.out (by omega)
                  (first | cases eo17 | (injection eo17 with ea_ en_ ec_; (first | subst ea_ | (injection ea_ with ea_; subst ea_)); subst ec_; clear en_))
                  have GB17 := Aside0.mk gb17
                  have GG17 := Aside0.mk HG17
                  clear gb17 gl17 HG17
                  obtain ⟨hx17_0, hf17_0⟩ := Kd.R_celln (⟨#[]⟩ : ByteArray) HO_3.out (x7_2 : Int) p17 q17
                  replace p17 := eq_true p17
                  replace q17 := eq_true q17
                  have HP19 := Kd.R_putg HO_3.out (x7_2 : Int) (⟨#[115, 112, 111, 105, 108, 116]⟩ : ByteArray)
                  go_wp2_with (first | ((with_reducible refine gate_store (t := 9) (p := 41) rfl ?_); refine store_event (t := 9) (p := 41) (v := ?vo_w20) (w1 := (wr.setCell ⟨go17, (x7_2 : Int).toNat, none⟩ (.string (⟨#[115, 112, 111, 105, 108, 116]⟩ : ByteArray)))) ?hg ?ho ?hn ?hr ?_; (case ho => rfl); (case hg => rfl); (case hn => rfl); (case hr => first | (go_simp; done) | (go_simp; rfl)); intro w20 hw; have hg : wr.grownBy w20 (some go17) := (by rw [hw]; exact HP19.2); have hp_ : Kd.R Kd.string 9 w20 w.heap.size (fun k_ => some k_ ≠ (v192 : Value).ownBlock) (.slice (some ⟨go17, 0, none⟩) x3_2.length co18) y195 := (by rw [hw, Ny195.out]; exact HP19.1); clear HP19; have n0_ := Aside0.mk (hp_); have n1_ := Aside0.mk (Kd.R_after (v := (.slice (some ⟨go17, 0, none⟩) x3_2.length co18)) (v1 := (.slice (some ⟨go17, 0, none⟩) x3_2.length co18)) (ok := (fun _ => True)) (by (with_reducible repeat (first | apply Kd.R_alloc | apply Kd.R_drewN | apply Kd.R_drew)); exact Kd.R_mono HO_5.out (fun _ hk => ⟨trivial, hk⟩)) hg (.inl rfl)); have n2_ := Aside0.mk ((by rw [hw]; exact below_set (HB.out) GB17.out : Below w.heap.size w w20)); clear HO_3; clear HO_5; clear HB; have HO_3 := n0_; have HO_5 := n1_; have HB := n2_; clear n0_ n1_ n2_; clear hg hw hp_))
                  go_roundg k2
                  case measure => have := HJ6.out; have := HK2.out; omega
                  case rel => exact ⟨(y195), (wrap64 (x7_2 + 1)), (by first | rfl | (simp; done) | (simp [*]; done)), H', ⟨by have := HJ6.out; have := HK2.out; omega⟩, ⟨by (with_reducible repeat (first | apply Kd.R_alloc | apply Kd.R_drewN | apply Kd.R_drew)); exact HO_3.out⟩, ⟨by (with_reducible repeat (first | apply Kd.R_alloc | apply Kd.R_drewN | apply Kd.R_drew)); exact Kd.R_mono HO_5.out (fun _ hk => hk.2)⟩, ⟨by repeat (first | (with_reducible first | exact HB.out | apply below_alloc | apply pw_below_drewN | apply below_drew1) | exact HB.out)⟩⟩
                · rw [if_neg c16] at H
                  exact absurd H (by simp)
              · rw [if_neg c15] at H
                have c15b0 : decide (x7_2 < (x3_2.length : Int)) = false := decide_eq_false c15
                clear c15
                replace H := Option.bind_eq_some_iff.mp H
                obtain ⟨⟨t196, t197⟩, A210, H⟩ := H
                replace H : ((bastionref02_Same.f k2 t196 t190).bind fun t200 => (if t200 = true then ((bastionlaw02_awake.f k2).bind fun t201 => (some t201)) else (some false))) = some r := H
                have A21 := Aside0.mk A210
                clear A210
                replace H := Option.bind_eq_some_iff.mp H
                obtain ⟨t200, A220, H⟩ := H
                replace H : (if t200 = true then ((bastionlaw02_awake.f k2).bind fun t201 => (some t201)) else (some false)) = some r := H
                have A22 := Aside0.mk A220
                clear A220
                by_cases c23 : t200 = true
                · subst c23
                  have H1 : ((bastionlaw02_awake.f k2).bind fun t201 => (some t201)) = some r := by rw [if_pos rfl] at H; exact H
                  clear H
                  have H := H1
                  clear H1
                  replace H := Option.bind_eq_some_iff.mp H
                  obtain ⟨t201, A240, H⟩ := H
                  replace H : (some t201) = some r := H
                  have A24 := Aside0.mk A240
                  clear A240
                  obtain rfl := Option.some.inj H
                  obtain ⟨Ao25, co25, eo25⟩ := Kd.R_slice HO_3.out
                  subst eo25
                  go_wp2_with (first | ((with_reducible refine gate_callee (f := 10) rfl ?_); refine goesL_ (some 44) rfl rfl Tryd.func10 (by kernel_rfl) rfl #[.string a0] rfl (by (try simp only [List.map_toArray, List.map_cons, List.map_nil]); first | done | rfl | (simp only [List.length_drop, List.length_take]; rfl)) ?_; (with_reducible refine (words_Split.calls k2 a0 t196 t197 _ A21.out).mono ?_); rintro e w26 ⟨v198, rfl, ho0, hb⟩; refine ⟨_, rfl, ?_⟩; have n0_ := Aside0.mk (Kd.R_elder' (by (with_reducible repeat (first | apply Kd.R_alloc | apply Kd.R_drewN | apply Kd.R_drew)); exact HO_3.out) (Kd.R_base ho0) hb); have n1_ := Aside0.mk (Kd.R_elder' (by (with_reducible repeat (first | apply Kd.R_alloc | apply Kd.R_drewN | apply Kd.R_drew)); exact HO_5.out) (Kd.R_base ho0) hb); have n2_ := Aside0.mk (Kd.R_lower (Kd.R_new' (Kd.R_new' ho0 (Kd.R_lt (by (with_reducible repeat (first | apply Kd.R_alloc | apply Kd.R_drewN | apply Kd.R_drew)); exact HO_3.out))) (Kd.R_lt (by (with_reducible repeat (first | apply Kd.R_alloc | apply Kd.R_drewN | apply Kd.R_drew)); exact HO_5.out))) (below_size (by repeat (first | (with_reducible first | exact HB.out | apply below_alloc | apply pw_below_drewN | apply below_drew1) | exact HB.out)))); have n3_ := Aside0.mk (below_step (by repeat (first | (with_reducible first | exact HB.out | apply below_alloc | apply pw_below_drewN | apply below_drew1) | exact HB.out)) hb); clear HO_3; clear HO_5; clear HB; have HO_3 := n0_; have HO_5 := n1_; have HO199 := n2_; have HB := n3_; clear n0_ n1_ n2_ n3_; (try clear hb); (try clear hb2); (try clear hk); (try clear hi); (try clear ho0); obtain ⟨Ao27, co27, eo27⟩ := Kd.R_slice HO199.out; subst eo27; obtain ⟨Ao28, co28, eo28⟩ := Kd.R_slice HO_5.out; subst eo28) | ((with_reducible refine gate_callee (f := 12) rfl ?_); refine goesL_ (some 49) rfl rfl Tryd.func12 (by kernel_rfl) rfl #[.slice Ao27 t196.length co27, .slice Ao28 t190.length co28] rfl (by (try simp only [List.map_toArray, List.map_cons, List.map_nil]); first | done | rfl | (simp only [List.length_drop, List.length_take]; rfl)) ?_; (with_reducible refine (bastionref02_Same.calls k2 _ _ t196 _ _ t190 true _ ?side1 ?side2 ?side3 ?side4 A22.out).mono ?_); (case side1 => repeat (first | exact (Kd.R_reads' HO199.out).2.2 | (with_reducible refine Kd.C_alloc ?_ _) | (with_reducible refine Kd.C_drewN ?_ _) | (with_reducible refine Kd.C_drew ?_))); (case side2 => exact (Kd.R_reads' HO199.out).2.1); (case side3 => repeat (first | exact (Kd.R_reads' HO_5.out).2.2 | (with_reducible refine Kd.C_alloc ?_ _) | (with_reducible refine Kd.C_drewN ?_ _) | (with_reducible refine Kd.C_drew ?_))); (case side4 => exact (Kd.R_reads' HO_5.out).2.1); rintro e w' ⟨rfl, ⟨nd, rfl⟩⟩; refine ⟨_, rfl, ?_⟩) | (go_at_call 9; (with_reducible refine (bastionlaw02_awake.calls k2  t201 _ A24.out).mono ?_); rintro e w29 ⟨rfl, hb⟩; have n0_ := Aside0.mk (Kd.R_below (by (with_reducible repeat (first | apply Kd.R_alloc | apply Kd.R_drewN | apply Kd.R_drew)); exact HO_3.out) hb); have n1_ := Aside0.mk (Kd.R_below (by (with_reducible repeat (first | apply Kd.R_alloc | apply Kd.R_drewN | apply Kd.R_drew)); exact HO_5.out) hb); have n2_ := Aside0.mk (Kd.R_below (by (with_reducible repeat (first | apply Kd.R_alloc | apply Kd.R_drewN | apply Kd.R_drew)); exact HO199.out) hb); have n3_ := Aside0.mk (below_step (by repeat (first | (with_reducible first | exact HB.out | apply below_alloc | apply pw_below_drewN | apply below_drew1) | exact HB.out)) hb); clear HO_3; clear HO_5; clear HO199; clear HB; have HO_3 := n0_; have HO_5 := n1_; have HO199 := n2_; have HB := n3_; clear n0_ n1_ n2_ n3_; (try clear hb); (try clear hb2); (try clear hk); (try clear hi)))
                  go_ret
                  exact ⟨by first | rfl | (simp [errW_none, errW_some] <;> rfl) | (simp [*, errW_none, errW_some] <;> rfl), by repeat (first | (with_reducible first | exact HB.out | apply below_alloc | apply pw_below_drewN | apply below_drew1) | exact HB.out)⟩
                · replace c23 := Bool.eq_false_iff.mpr c23
                  subst c23
                  have H1 : (some false) = some r := by rw [if_neg (show ¬ (false = true) by decide)] at H; exact H
                  clear H
                  have H := H1
                  clear H1
                  obtain rfl := Option.some.inj H
                  obtain ⟨Ao30, co30, eo30⟩ := Kd.R_slice HO_3.out
                  subst eo30
                  go_wp2_with (first | ((with_reducible refine gate_callee (f := 10) rfl ?_); refine goesL_ (some 44) rfl rfl Tryd.func10 (by kernel_rfl) rfl #[.string a0] rfl (by (try simp only [List.map_toArray, List.map_cons, List.map_nil]); first | done | rfl | (simp only [List.length_drop, List.length_take]; rfl)) ?_; (with_reducible refine (words_Split.calls k2 a0 t196 t197 _ A21.out).mono ?_); rintro e w31 ⟨v198, rfl, ho0, hb⟩; refine ⟨_, rfl, ?_⟩; have n0_ := Aside0.mk (Kd.R_elder' (by (with_reducible repeat (first | apply Kd.R_alloc | apply Kd.R_drewN | apply Kd.R_drew)); exact HO_3.out) (Kd.R_base ho0) hb); have n1_ := Aside0.mk (Kd.R_elder' (by (with_reducible repeat (first | apply Kd.R_alloc | apply Kd.R_drewN | apply Kd.R_drew)); exact HO_5.out) (Kd.R_base ho0) hb); have n2_ := Aside0.mk (Kd.R_lower (Kd.R_new' (Kd.R_new' ho0 (Kd.R_lt (by (with_reducible repeat (first | apply Kd.R_alloc | apply Kd.R_drewN | apply Kd.R_drew)); exact HO_3.out))) (Kd.R_lt (by (with_reducible repeat (first | apply Kd.R_alloc | apply Kd.R_drewN | apply Kd.R_drew)); exact HO_5.out))) (below_size (by repeat (first | (with_reducible first | exact HB.out | apply below_alloc | apply pw_below_drewN | apply below_drew1) | exact HB.out)))); have n3_ := Aside0.mk (below_step (by repeat (first | (with_reducible first | exact HB.out | apply below_alloc | apply pw_below_drewN | apply below_drew1) | exact HB.out)) hb); clear HO_3; clear HO_5; clear HB; have HO_3 := n0_; have HO_5 := n1_; have HO199 := n2_; have HB := n3_; clear n0_ n1_ n2_ n3_; (try clear hb); (try clear hb2); (try clear hk); (try clear hi); (try clear ho0); obtain ⟨Ao32, co32, eo32⟩ := Kd.R_slice HO199.out; subst eo32; obtain ⟨Ao33, co33, eo33⟩ := Kd.R_slice HO_5.out; subst eo33) | ((with_reducible refine gate_callee (f := 12) rfl ?_); refine goesL_ (some 49) rfl rfl Tryd.func12 (by kernel_rfl) rfl #[.slice Ao32 t196.length co32, .slice Ao33 t190.length co33] rfl (by (try simp only [List.map_toArray, List.map_cons, List.map_nil]); first | done | rfl | (simp only [List.length_drop, List.length_take]; rfl)) ?_; (with_reducible refine (bastionref02_Same.calls k2 _ _ t196 _ _ t190 false _ ?side1 ?side2 ?side3 ?side4 A22.out).mono ?_); (case side1 => repeat (first | exact (Kd.R_reads' HO199.out).2.2 | (with_reducible refine Kd.C_alloc ?_ _) | (with_reducible refine Kd.C_drewN ?_ _) | (with_reducible refine Kd.C_drew ?_))); (case side2 => exact (Kd.R_reads' HO199.out).2.1); (case side3 => repeat (first | exact (Kd.R_reads' HO_5.out).2.2 | (with_reducible refine Kd.C_alloc ?_ _) | (with_reducible refine Kd.C_drewN ?_ _) | (with_reducible refine Kd.C_drew ?_))); (case side4 => exact (Kd.R_reads' HO_5.out).2.1); rintro e w' ⟨rfl, ⟨nd, rfl⟩⟩; refine ⟨_, rfl, ?_⟩))
                  go_ret
                  exact ⟨by first | rfl | (simp [errW_none, errW_some] <;> rfl) | (simp [*, errW_none, errW_some] <;> rfl), by repeat (first | (with_reducible first | exact HB.out | apply below_alloc | apply pw_below_drewN | apply below_drew1) | exact HB.out)⟩

/-- THE ONE PURE STATEMENT of bastionlaw02_WordsSplit: yours. -/
def bastionlaw02_WordsSplit.Pure : Prop := ∀ (a0 : ByteArray), a0.size ≤ 140737488351232 → ∃ k, bastionlaw02_WordsSplit.f k a0 = some true
theorem bastionlaw02_WordsSplit.walk (P : bastionlaw02_WordsSplit.Pure) (a0 : ByteArray) (w : World) (w0 : a0.size ≤ 140737488351232) :
    Calls Tryd.prog 3 #[.string a0] w fun e w' => e = .returned (.bool true) ∧ Below w.heap.size w w' := by
  obtain ⟨k, h⟩ := P a0 w0
  refine (bastionlaw02_WordsSplit.calls k a0 true w h).mono ?_
  rintro e w' ⟨rfl, hd⟩
  exact ⟨rfl, hd⟩

/-! ### bastionlaw02_long: function 13 -/
def bastionlaw02_long.l0 : Nat → List ByteArray → Int → Int → Option (Bool)
  | 0, _, _, _ => none
  | k + 1, x0, x3, x4 => if x4 < (x0.length : Int) then (if x4 < 1000 then (if 0 ≤ x4 then (bastionlaw02_long.l0 k x0 (wrap64 (x3 + ((rdOf ByteArray.empty x0 x4).size : Int))) (wrap64 (x4 + 1))) else (none)) else (some (decide (x3 > 5000)))) else (some (decide (x3 > 5000)))
def bastionlaw02_long.f (k : Nat) (l0 : List ByteArray) : Option (Bool) := bastionlaw02_long.l0 k l0 (l0.length : Int) 0
theorem bastionlaw02_long.mono_l : ∀ k, (∀ y0 y1 y2, LeO (bastionlaw02_long.l0 k y0 y1 y2) (bastionlaw02_long.l0 (k + 1) y0 y1 y2))
  | 0 => fun _ _ _ r h => by simp [bastionlaw02_long.l0] at h
  | k + 1 => by
    have ih0 := bastionlaw02_long.mono_l k
    · intro y0 y1 y2
      unfold bastionlaw02_long.l0
      repeat' first
      | (with_reducible exact ih0 _ _ _)
      | (with_reducible exact LeO.refl _)
      | (with_reducible exact LeO.none _)
      | (with_reducible refine LeO.ite ?_ ?_)
      | (with_reducible refine LeO.bind ?_ (fun _ => ?_))
      | exact ih0 _ _ _
      | exact LeO.none _
      | refine LeO.ite ?_ ?_
      | refine LeO.bind ?_ (fun _ => ?_)
theorem bastionlaw02_long.mono : ∀ a0 k, LeO (bastionlaw02_long.f k a0) (bastionlaw02_long.f (k + 1) a0) := by
  intro a0 k
  have ih0 := bastionlaw02_long.mono_l k
  unfold bastionlaw02_long.f
  repeat' first
      | (with_reducible exact ih0 _ _ _)
      | (with_reducible exact LeO.refl _)
      | (with_reducible exact LeO.none _)
      | (with_reducible refine LeO.ite ?_ ?_)
      | (with_reducible refine LeO.bind ?_ (fun _ => ?_))
      | exact ih0 _ _ _
      | exact LeO.none _
      | refine LeO.ite ?_ ?_
      | refine LeO.bind ?_ (fun _ => ?_)
set_option maxHeartbeats 8000000 in
set_option maxRecDepth 100000 in
theorem bastionlaw02_long.calls (k : Nat) (A0 : Option Addr) (c0 : Nat) (l0 : List ByteArray) (r : Bool) (w : World) (hr0 : Kd.C Kd.string w A0 l0.length l0) (hc0 : l0.length ≤ c0) (h : bastionlaw02_long.f k l0 = some r) :
    Calls Tryd.prog 13 #[.slice A0 l0.length c0] w fun e w' => e = .returned (.bool r) ∧ Drawn0 w w' := by
  have HR0 := Aside0.mk hr0
  have HC0 := Aside0.mk hc0
  clear hr0 hc0
  have H : (bastionlaw02_long.l0 k l0 (l0.length : Int) 0) = some r := h
  clear h
  have H' := Aside0.mk H
  clear H
  go_enter Tryd.func13, Tryd.ntmps13
  go_wp2
  go_loopg [3, 4] k (fun kq v3 v4 w' => ∃ (x3_1 : Int) (x4_1 : Int), v3 = .int .i64 x3_1 ∧ v4 = .int .i64 x4_1 ∧ Aside0 (bastionlaw02_long.l0 kq l0 x3_1 x4_1 = some r) ∧ Aside0 (kq ≤ k) ∧ Drawn0 w w')
  case atStart => exact ⟨((l0.length : Int)), (0), (by first | rfl | (simp; done) | (simp [*]; done)), (by first | rfl | (simp; done) | (simp [*]; done)), H', ⟨Nat.le_refl _⟩, by repeat (first | exact Drawn0.refl _ | apply Drawn0.step)⟩
  case round =>
    clear H'
    try clear c1
    obtain ⟨x3_1, x4_1, rfl, rfl, HA, HK1, ⟨m1, rfl⟩⟩ := hrel
    cases gk with
    | zero => exact absurd HA.out (by simp [bastionlaw02_long.l0])
    | succ k1 =>
      have H := HA.out
      clear HA
      simp only [bastionlaw02_long.l0] at H
      by_cases c2 : x4_1 < (l0.length : Int)
      · rw [if_pos c2] at H
        have c2b0 : decide (x4_1 < (l0.length : Int)) = true := decide_eq_true c2
        clear c2
        by_cases c3 : x4_1 < 1000
        · rw [if_pos c3] at H
          have c3b0 : decide (x4_1 < 1000) = true := decide_eq_true c3
          clear c3
          by_cases c4 : 0 ≤ x4_1
          · rw [if_pos c4] at H
            have c4b0 : decide (0 ≤ x4_1) = true := decide_eq_true c4
            clear c4
            have H' := Aside0.mk H
            clear H
            have p202 : 0 ≤ (x4_1 : Int) := of_decide_eq_true (by first | (with_reducible assumption) | assumption)
            have q202 : x4_1 < (l0.length : Int) := of_decide_eq_true (by first | (with_reducible assumption) | assumption)
            obtain ⟨ad202, e202, hx202_0⟩ := Kd.at_string HR0.out x4_1 p202 q202
            cases e202
            replace p202 := eq_true p202
            replace q202 := eq_true q202
            go_wp2
            go_roundg k1
            case measure => have := HK1.out; omega
            case rel => exact ⟨(wrap64 (x3_1 + ((rdOf ByteArray.empty l0 x4_1).size : Int))), (wrap64 (x4_1 + 1)), (by first | rfl | (simp; done) | (simp [*]; done)), (by first | rfl | (simp; done) | (simp [*]; done)), H', ⟨by have := HK1.out; omega⟩, by repeat (first | exact Drawn0.refl _ | apply Drawn0.step)⟩
          · rw [if_neg c4] at H
            exact absurd H (by simp)
        · rw [if_neg c3] at H
          have c3b0 : decide (x4_1 < 1000) = false := decide_eq_false c3
          clear c3
          obtain rfl := Option.some.inj H
          go_wp2
          go_ret
          exact ⟨by first | rfl | (simp; done) | (simp [*]; done), by repeat (first | exact Drawn0.refl _ | apply Drawn0.step)⟩
      · rw [if_neg c2] at H
        have c2b0 : decide (x4_1 < (l0.length : Int)) = false := decide_eq_false c2
        clear c2
        obtain rfl := Option.some.inj H
        go_wp2
        go_ret
        exact ⟨by first | rfl | (simp; done) | (simp [*]; done), by repeat (first | exact Drawn0.refl _ | apply Drawn0.step)⟩

theorem lit_cells (w : World) (cs : Array Value) (t : TypeId) : ∀ (j : Nat) u, cs.toList[j]? = some u → (w.alloc (.cells cs t)).cell? ((⟨w.heap.size, 0, none⟩ : Addr).add j) = some u := by
  intro j u hj
  rw [add_plain]
  have h := heap_alloc_new w (.cells cs t)
  simp only [World.cell?, h]
  simpa using hj
/-- A row of bytes of the call's own. -/
def RowU8 (w : World) (B : Nat) (v : Value) (xs : List Int) : Prop := isU8 xs ∧ w.ownsRow B 5 1 v xs.length (nums .u8 xs)
theorem RowU8.drewN {w : World} {B : Nat} {v : Value} {xs : List Int} (h : RowU8 w B v xs) (n : Nat) : RowU8 (w.drewN n) B v xs := h
theorem infoU8 : (Tryd.prog.info? 5).map (fun i => (i.zero, i.size, i.bytes)) = some (some (.int .u8 0), 1, 1) := by kernel_rfl
theorem wpList_app8 {ops : Array Oper} {rest : List Oper} {o : Oper} {a : Act} {Q : Exit → Act → World → Prop} (w : World) (cs : Array Value) (hgd : o.guard = none) (s x : Operand) (ho : o.op = .call { callee := .builtin .append, args := #[s, x], argTypes := #[42, 42] })
    (B : Nat) (v : Value) (xs : List Int) (hs : a.eval s = v) (hown : RowU8 w B v xs) (hB : B ≤ w.heap.size) (ys : List Int) (c : Nat) (hx : a.eval x = .slice (some ⟨w.heap.size, 0, none⟩) ys.length c) (h8 : isU8 ys) (hlen : xs.length + ys.length ≤ 140737488355328) (hcs : cs.toList = nums .u8 ys)
    (h : ∀ v' w', RowU8 w' B v' (xs ++ ys) → (w.alloc (.cells cs 5)).grownBy w' v.ownBlock → wpList Tryd.prog ops Q rest (a.put o.dst v') w') :
    wpList Tryd.prog ops Q (o :: rest) a (w.alloc (.cells cs 5)) := by
  obtain ⟨i0, hi, hz0, hz1, hz2⟩ := info_parts infoU8
  refine wpList_append_own _ hgd s x 42 ho B 5 i0 (.int .u8 0) 1 1 Tryd.underlying42 hi hz0 hz1 hz2 rfl (by decide) v xs.length (nums .u8 xs) hs (hown.2.alloc _) ⟨w.heap.size, 0, none⟩ ys.length c (nums .u8 ys) hx (by simp [nums]) (fun j u hj => lit_cells w cs 5 j u (by rw [hcs]; exact hj)) (fun u hu => by simp only [nums, List.mem_map] at hu; obtain ⟨z, _, rfl⟩ := hu; rfl) (by unfold maxLen; omega) (by omega) (by simp; omega) ?_
  intro v' w' h1 h2 _
  exact h v' w' ⟨isU8_append hown.1 h8, by rw [List.length_append, nums_append]; exact h1⟩ h2
theorem RowU8.alloc {w : World} {B : Nat} {v : Value} {xs : List Int} (h : RowU8 w B v xs) (o : Obj) : RowU8 (w.alloc o) B v xs := ⟨h.1, h.2.alloc o⟩
theorem RowU8.drew {w : World} {B : Nat} {v : Value} {xs : List Int} (h : RowU8 w B v xs) : RowU8 w.drew B v xs := h
theorem step_app8 {ops : Array Oper} {o : Oper} {a : Act} {K : Act → World → Prop} {Q : Exit → Act → World → Prop} {E : Prop} (W : World) (hgd : o.guard = none) (s x : Operand) (ho : o.op = .call { callee := .builtin .append, args := #[s, x], argTypes := #[42, 42] })
    (B : Nat) (v : Value) (xs : List Int) (hs : a.eval s = v) (hown : RowU8 W B v xs) (hB : B ≤ W.heap.size) (ys : List Int) (ad : Addr) (c : Nat) (hx : a.eval x = .slice (some ad) ys.length c) (h8 : isU8 ys) (hlen : xs.length + ys.length ≤ 140737488355328) (hcells : ∀ (j : Nat) u, (nums .u8 ys)[j]? = some u → W.cell? (ad.add j) = some u)
    (h : ∀ v' w', RowU8 w' B v' (xs ++ ys) → W.grownBy w' v.ownBlock → K (a.put o.dst v') w') :
    if Region.wanted o (yielded ops a.tmps) = true then Oper.wp Tryd.prog o a W K Q else E := by
  have hw : Region.wanted o (yielded ops a.tmps) = true := by simp [Region.wanted, hgd]
  rw [if_pos hw]
  obtain ⟨i0, hi, hz0, hz1, hz2⟩ := info_parts infoU8
  refine wp_append_own _ s x 42 ho B 5 i0 (.int .u8 0) 1 1 Tryd.underlying42 hi hz0 hz1 hz2 rfl (by decide) v xs.length (nums .u8 xs) hs hown.2 ad ys.length c (nums .u8 ys) hx (by simp [nums]) hcells (fun u hu => by simp only [nums, List.mem_map] at hu; obtain ⟨z, _, rfl⟩ := hu; rfl) (by unfold maxLen; omega) (by omega) hB ?_
  intro v' w' h1 h2 _
  exact h v' w' ⟨isU8_append hown.1 h8, by rw [List.length_append, nums_append]; exact h1⟩ h2

/-! ### bastionref02_Own: function 26 -/
def bastionref02_Own.f (a0 : ByteArray) : Option ByteArray := if a0.size ≤ 17592186044416 then some (strOfNums (ownL (bytesOf a0))) else none
def bastionref02_Own.Post (w : World) (l : List Int) (e : Ending) (w' : World) : Prop := e = .returned (.string (strOfNums l)) ∧ Below w.heap.size w w'
theorem wrap_quo16 (c : Int) (h0 : 0 ≤ c) (h1 : c ≤ 255) : IntKind.u8.wrap (c.tdiv 16) = c / 16 := by
  rw [Int.tdiv_eq_ediv_of_nonneg h0]
  simp [IntKind.wrap, IntKind.bits, IntKind.signed]
  omega
theorem plainI_parts (c : Int) : plainI c = (decide (33 ≤ c) && (decide (c ≤ 126) && (c != 34))) := by
  unfold plainI
  by_cases h : c = 34
  · simp [h]
  · have : (c != 34) = true := bne_iff_ne.2 h
    rw [this, decide_eq_true h]
/-- What stands behind the tests, with the word told not to be plain: the second loop and what follows. -/
theorem esc_app (c : Int) (h0 : 0 ≤ c) (h1 : c ≤ 255) : isU8 (escI c) := by
  have hr1 := digI_range (c / 16) (by omega) (by omega)
  have hr2 := digI_range (c % 16) (by omega) (by omega)
  intro x hx
  unfold escI at hx
  (repeat' split at hx) <;> simp only [List.mem_cons, List.mem_nil_iff, or_false] at hx <;> (rcases hx with rfl | rfl | rfl | rfl <;> omega) <;> omega
set_option maxHeartbeats 16000000 in
set_option maxRecDepth 100000 in
theorem bastionref02_Own.walk (s : ByteArray) (w : World) (hs : s.size ≤ 17592186044416) :
    Calls Tryd.prog 26 #[.string s] w fun e w' => bastionref02_Own.Post w (ownL (bytesOf s)) e w' := by
  generalize hq : ownL (bytesOf s) = q
  have HQ := Aside0.mk hq
  clear hq
  obtain ⟨b0, hb0⟩ : ∃ b0 : Bool, b0 = plainL0 (bytesOf s) := ⟨_, rfl⟩
  have HB0 := Aside0.mk hb0
  clear hb0
  have hcase : (s.size = 0 ∧ s.toList.isEmpty = true ∧ b0 = false) ∨ (∃ h : 0 < s.size, s.toList.isEmpty = false ∧ b0 = ((s[0].toNat : Int) != 35)) := by
    by_cases h0 : s.size = 0
    · refine .inl ⟨h0, toList_empty h0, ?_⟩
      rw [HB0.out, bytesOf_empty h0]
      rfl
    · have hp : 0 < s.size := by omega
      refine .inr ⟨hp, toList_nonempty' hp, ?_⟩
      rw [HB0.out, bytesOf_cons hp]
      rfl
  rcases hcase with ⟨-, e0, rfl⟩ | ⟨hp, e0, e1⟩
  all_goals
    try replace e1 := e1.symm
    go_enter Tryd.func26, Tryd.ntmps26
    go_wp2_with fail
    clear e0
    go_loopg [3, 4] s.size (fun m v3 v4 wr => ∃ (i : Nat) (b : Bool), v3 = .bool b ∧ v4 = .int .i64 i ∧ Aside0 (b = (plainL0 (bytesOf s) && ((bytesOf s).take i).all plainI)) ∧ Aside0 (i + m = s.size) ∧ Aside0 (w = wr))
    case atStart => exact ⟨0, _, rfl, rfl, ⟨by rw [← HB0.out]; simp⟩, ⟨by omega⟩, ⟨rfl⟩⟩
    case round =>
      obtain ⟨i, b, rfl, rfl, HP, HM, HW⟩ := hrel
      have hm := HM.out
      obtain rfl := HW.out
      by_cases hlt : i < s.size
      · obtain ⟨c, hc⟩ : ∃ c : Int, (s[i].toNat : Int) = c := ⟨_, rfl⟩
        have HT := Aside0.mk (bytes_take s i hlt)
        have HC := Aside0.mk hc
        cases b with
        | false =>
          go_wp2
          go_roundg (gk - 1)
          case measure => omega
          case rel => exact ⟨i + 1, false, rfl, rfl, ⟨by rw [HT.out, List.all_append, ← Bool.and_assoc, ← HP.out]; rfl⟩, ⟨by omega⟩, ⟨rfl⟩⟩
        | true =>
          by_cases c1 : 33 ≤ c
          · have HC1 := Aside0.mk c1
            by_cases c2 : c ≤ 126
            · have HC2 := Aside0.mk c2
              go_wp2
              go_roundg (gk - 1)
              case measure => omega
              case rel => exact ⟨i + 1, (c != 34), rfl, rfl, ⟨by rw [HT.out, HC.out, List.all_append, ← Bool.and_assoc, ← HP.out]; simp only [List.all_cons, List.all_nil, Bool.and_true, Bool.true_and]; rw [plainI_parts, decide_eq_true HC1.out, decide_eq_true HC2.out]; rfl⟩, ⟨by omega⟩, ⟨rfl⟩⟩
            · have HC2 := Aside0.mk (decide_eq_false c2)
              go_wp2
              go_roundg (gk - 1)
              case measure => omega
              case rel => exact ⟨i + 1, false, rfl, rfl, ⟨by rw [HT.out, HC.out, List.all_append, ← Bool.and_assoc, ← HP.out]; simp only [List.all_cons, List.all_nil, Bool.and_true, Bool.true_and]; rw [plainI_parts, decide_eq_true HC1.out, HC2.out]; rfl⟩, ⟨by omega⟩, ⟨rfl⟩⟩
          · have HC1 := Aside0.mk (decide_eq_false c1)
            go_wp2
            go_roundg (gk - 1)
            case measure => omega
            case rel => exact ⟨i + 1, false, rfl, rfl, ⟨by rw [HT.out, HC.out, List.all_append, ← Bool.and_assoc, ← HP.out]; simp only [List.all_cons, List.all_nil, Bool.and_true, Bool.true_and]; rw [plainI_parts, HC1.out]; rfl⟩, ⟨by omega⟩, ⟨rfl⟩⟩
      · have hall : (bytesOf s).take i = bytesOf s := List.take_of_length_le (by rw [bytesOf_length]; omega)
        have hpl : b = plainL (bytesOf s) := by rw [HP.out, hall, plainL_eq]
        have hqe := HQ.out
        cases b with
        | true =>
          have hol : ownL (bytesOf s) = bytesOf s := by unfold ownL; rw [if_pos hpl.symm]
          rw [hol] at hqe
          have HQE := Aside0.mk hqe
          clear hol hqe hpl hall
          go_wp2
          go_ret
          exact ⟨by rw [← HQE.out, strOfNums_bytesOf]; rfl, Below.refl _ _⟩
        | false =>
          have hol : ownL (bytesOf s) = 34 :: ((bytesOf s).flatMap escI ++ [34]) := by unfold ownL; rw [← hpl, if_neg (by decide)]
          rw [hol] at hqe
          have HQE := Aside0.mk hqe
          clear hol hqe hpl hall
          go_wp2_with fail
          have HR0 : Aside0 (RowU8 (w.alloc (.cells #[.int .u8 34] 5)) w.heap.size (.slice (some ⟨w.heap.size, 0, none⟩) 1 1) [34]) := ⟨⟨(fun x hx => by simp at hx; omega), ⟨by simp [nums], .inr ⟨w.heap.size, 1, _, rfl, Nat.le_refl _, heap_alloc_new w _, Nat.le_refl _, by decide, by simp, by simp [nums]⟩⟩⟩⟩
          have HW0 : Aside0 (Below w.heap.size w (w.alloc (.cells #[.int .u8 34] 5))) := ⟨(Below.refl _ _).alloc (Nat.le_refl _) _⟩
          go_loopg [5, 6] s.size (fun m v5 v6 wr => ∃ (j : Nat) (xs : List Int), v6 = .int .i64 j ∧ Aside0 (xs = 34 :: ((bytesOf s).take j).flatMap escI) ∧ Aside0 (j + m = s.size) ∧ Aside0 (xs.length ≤ 1 + 4 * j) ∧ Aside0 (RowU8 wr w.heap.size v5 xs) ∧ Aside0 (Below w.heap.size w wr))
          case atStart => exact ⟨0, [34], rfl, ⟨by simp⟩, ⟨by omega⟩, ⟨by simp⟩, HR0, HW0⟩
          case round =>
            clear HR0 HW0
            obtain ⟨j, xs, rfl, HX, HM2, HL, HR, HW2⟩ := hrel
            have hm2 := HM2.out
            have hB := HW2.out.size
            by_cases hlt2 : j < s.size
            · have hxl : xs.length + 4 ≤ 140737488355328 := by have := HL.out; omega
              obtain ⟨c, hc⟩ : ∃ c : Int, (s[j].toNat : Int) = c := ⟨_, rfl⟩
              have hclo : 0 ≤ c := by rw [← hc]; exact u8_lo _
              have hchi : c ≤ 255 := by rw [← hc]; exact u8_hi _
              have HT := Aside0.mk (bytes_take s j hlt2)
              have HC := Aside0.mk hc
              have HE8 := Aside0.mk (esc_app c hclo hchi)
              have HEL := Aside0.mk (esc_len c)
              have hfin : ∀ ys : List Int, ys = escI c → xs ++ ys = 34 :: ((bytesOf s).take (j + 1)).flatMap escI := fun ys e => by
                rw [e, HT.out, HC.out, List.flatMap_append, HX.out]
                simp
              have HF := Aside0.mk hfin
              clear hfin
              by_cases c1 : c = 34 ∨ c = 92
              · have he : escI c = [92, c] := by unfold escI; rw [if_pos c1]
                have HE := Aside0.mk he
                clear he
                rcases c1 with rfl | rfl
                all_goals
                  go_wp2_with (at_builtin; go_must (refine wpList_app8 _ _ rfl _ _ rfl w.heap.size _ xs rfl HR.out hB [92, _] 2 rfl (fun x hx => by simp at hx; omega) (by simp; omega) rfl ?_); intro v1 w1 hown1 hg1; have HO := Aside0.mk hown1; have HG := Aside0.mk hg1; clear hown1 hg1)
                  go_roundg (gk - 1)
                  case measure => omega
                  case rel => exact ⟨j + 1, xs ++ [92, _], rfl, ⟨HF.out _ HE.out.symm⟩, ⟨by omega⟩, ⟨by have := HL.out; simp; omega⟩, HO, ⟨(HW2.out.alloc hB _).grown HG.out (by simp; omega) (fun k hk => own_base HR.out.2 k hk)⟩⟩
              have c1a : (c == 34) = false := beq_eq_false_iff_ne.2 (by omega)
              have c1b : (c == 92) = false := beq_eq_false_iff_ne.2 (by omega)
              by_cases c2 : c = 10
              · have he : escI c = [92, 110] := by unfold escI; rw [if_neg c1, if_pos c2]
                have HE := Aside0.mk he
                subst c2
                clear he c1
                go_wp2_with (at_builtin; go_must (refine wpList_app8 _ _ rfl _ _ rfl w.heap.size _ xs rfl HR.out hB [92, 110] 2 rfl (fun x hx => by simp at hx; omega) (by simp; omega) rfl ?_); intro v1 w1 hown1 hg1; have HO := Aside0.mk hown1; have HG := Aside0.mk hg1; clear hown1 hg1)
                go_roundg (gk - 1)
                case measure => omega
                case rel => exact ⟨j + 1, xs ++ [92, 110], rfl, ⟨HF.out _ HE.out.symm⟩, ⟨by omega⟩, ⟨by have := HL.out; simp; omega⟩, HO, ⟨(HW2.out.alloc hB _).grown HG.out (by simp; omega) (fun k hk => own_base HR.out.2 k hk)⟩⟩
              have c2b : (c == 10) = false := beq_eq_false_iff_ne.2 c2
              by_cases c3 : c = 9
              · have he : escI c = [92, 116] := by unfold escI; rw [if_neg c1, if_neg c2, if_pos c3]
                have HE := Aside0.mk he
                subst c3
                clear he c1 c2
                go_wp2_with (at_builtin; go_must (refine wpList_app8 _ _ rfl _ _ rfl w.heap.size _ xs rfl HR.out hB [92, 116] 2 rfl (fun x hx => by simp at hx; omega) (by simp; omega) rfl ?_); intro v1 w1 hown1 hg1; have HO := Aside0.mk hown1; have HG := Aside0.mk hg1; clear hown1 hg1)
                go_roundg (gk - 1)
                case measure => omega
                case rel => exact ⟨j + 1, xs ++ [92, 116], rfl, ⟨HF.out _ HE.out.symm⟩, ⟨by omega⟩, ⟨by have := HL.out; simp; omega⟩, HO, ⟨(HW2.out.alloc hB _).grown HG.out (by simp; omega) (fun k hk => own_base HR.out.2 k hk)⟩⟩
              have c3b : (c == 9) = false := beq_eq_false_iff_ne.2 c3
              by_cases c4 : 32 ≤ c ∧ c ≤ 126
              · have he : escI c = [c] := by unfold escI; rw [if_neg c1, if_neg c2, if_neg c3, if_pos c4]
                have HE := Aside0.mk he
                obtain ⟨c4a, c4b⟩ := c4
                clear he c1 c2 c3
                go_wp2_with (at_builtin; go_must (refine wpList_app8 _ _ rfl _ _ rfl w.heap.size _ xs rfl HR.out hB [c] 1 rfl (fun x hx => by simp at hx; subst hx; exact ⟨hclo, hchi⟩) (by simp; omega) rfl ?_); intro v1 w1 hown1 hg1; have HO := Aside0.mk hown1; have HG := Aside0.mk hg1; clear hown1 hg1)
                go_roundg (gk - 1)
                case measure => omega
                case rel => exact ⟨j + 1, xs ++ [c], rfl, ⟨HF.out _ HE.out.symm⟩, ⟨by omega⟩, ⟨by have := HL.out; simp; omega⟩, HO, ⟨(HW2.out.alloc hB _).grown HG.out (by simp; omega) (fun k hk => own_base HR.out.2 k hk)⟩⟩
              have he : escI c = [92, 120, digI (c / 16), digI (c % 16)] := by unfold escI; rw [if_neg c1, if_neg c2, if_neg c3, if_neg c4]
              have HE := Aside0.mk he
              have hr1 := digI_range (c / 16) (by omega) (by omega)
              have hr2 := digI_range (c % 16) (by omega) (by omega)
              have hu8 : isU8 [92, 120, digI (c / 16), digI (c % 16)] := fun x hx => by
                simp only [List.mem_cons, List.mem_nil_iff, or_false] at hx
                rcases hx with rfl | rfl | rfl | rfl <;> omega
              have HU8 := Aside0.mk hu8
              have HC4 := Aside0.mk c4
              have hq0 : 0 ≤ c / 16 := by omega
              have hq1 : c / 16 < 16 := by omega
              have hq2 : 0 ≤ c % 16 := by omega
              have hq3 : c % 16 < 16 := by omega
              have hd1 : ∀ h, ((((⟨#[48, 49, 50, 51, 52, 53, 54, 55, 56, 57, 97, 98, 99, 100, 101, 102]⟩ : ByteArray)[(c / 16).toNat]'h).toNat : Nat) : Int) = digI (c / 16) := fun h => by rw [digI_at]; congr 1; omega
              have hd2 : ∀ h, ((((⟨#[48, 49, 50, 51, 52, 53, 54, 55, 56, 57, 97, 98, 99, 100, 101, 102]⟩ : ByteArray)[(c % 16).toNat]'h).toNat : Nat) : Int) = digI (c % 16) := fun h => by rw [digI_at]; congr 1; omega
              clear he hr1 hr2 hu8 c1 c2 c3 c4
              have hw1 := wrap_quo16 c hclo hchi
              have hw2 : c.tmod 16 = c % 16 := Int.tmod_eq_emod_of_nonneg hclo
              by_cases c5 : 32 ≤ c
              · have c5b : decide (32 ≤ c) = true := decide_eq_true c5
                have c6b : decide (c ≤ 126) = false := decide_eq_false (fun h => HC4.out ⟨c5, h⟩)
                clear c5
                go_wp2_with fail
                go_region_law (refine step_app8 _ rfl (.tmp 52) (.tmp 59) rfl w.heap.size _ xs (by simp [Act.eval, Act.put]) (HR.out.drew.alloc _) (by simp; omega) [92, 120, digI (c / 16), digI (c % 16)] _ 4 (by simp [Act.eval, Act.put]) HU8.out (by simp; omega) (fun j u hj => lit_cells _ _ _ j u hj) ?_; intro v1 w1 hown1 hg1; have HO := Aside0.mk hown1; have HG := Aside0.mk hg1; clear hown1 hg1)
                all_goals
                  go_wp2
                  go_roundg (gk - 1)
                  case measure => omega
                  case rel => exact ⟨j + 1, xs ++ [92, 120, digI (c / 16), digI (c % 16)], rfl, ⟨HF.out _ HE.out.symm⟩, ⟨by omega⟩, ⟨by have := HL.out; simp; omega⟩, HO, ⟨((HW2.out.alloc hB _).drew).grown HG.out (by simp; omega) (fun k hk => own_base HR.out.2 k hk)⟩⟩
              · have c5b : decide (32 ≤ c) = false := decide_eq_false c5
                clear c5
                go_wp2_with fail
                go_region_law (refine step_app8 _ rfl (.tmp 52) (.tmp 59) rfl w.heap.size _ xs (by simp [Act.eval, Act.put]) (HR.out.drew.alloc _) (by simp; omega) [92, 120, digI (c / 16), digI (c % 16)] _ 4 (by simp [Act.eval, Act.put]) HU8.out (by simp; omega) (fun j u hj => lit_cells _ _ _ j u hj) ?_; intro v1 w1 hown1 hg1; have HO := Aside0.mk hown1; have HG := Aside0.mk hg1; clear hown1 hg1)
                all_goals
                  go_wp2
                  go_roundg (gk - 1)
                  case measure => omega
                  case rel => exact ⟨j + 1, xs ++ [92, 120, digI (c / 16), digI (c % 16)], rfl, ⟨HF.out _ HE.out.symm⟩, ⟨by omega⟩, ⟨by have := HL.out; simp; omega⟩, HO, ⟨((HW2.out.alloc hB _).drew).grown HG.out (by simp; omega) (fun k hk => own_base HR.out.2 k hk)⟩⟩
            · have hall : (bytesOf s).take j = bytesOf s := List.take_of_length_le (by rw [bytesOf_length]; omega)
              have hx := HX.out
              rw [hall] at hx
              have HX2 := Aside0.mk hx
              clear hall hx
              have hl := HL.out
              go_wp2_with (at_builtin; go_must (refine wpList_app8 _ _ rfl _ _ rfl w.heap.size _ xs rfl HR.out hB [34] 1 rfl (fun x hx => by simp at hx; omega) (by simp; omega) rfl ?_))
              intro v1 w1 hown1 hg1
              have hcv := own_string (P := Tryd.prog) (w := w1) (src := 42) (dst := 9) Tryd.underlying42 Tryd.underlying5 Tryd.underlying9 hown1.2
              have HO := Aside0.mk hown1
              have HG := Aside0.mk hg1
              clear hown1 hg1
              go_wp2
              go_ret
              exact ⟨by rw [← HQE.out, HX2.out]; rfl, (HW2.out.alloc hB _).grown HG.out (by simp; omega) (fun k hk => own_base HR.out.2 k hk)⟩
theorem bastionref02_Own.calls (a0 : ByteArray) (r : ByteArray) (w : World) (h : bastionref02_Own.f a0 = some r) :
    Calls Tryd.prog 26 #[.string a0] w fun e w' => e = .returned (.string r) ∧ Below w.heap.size w w' := by
  unfold bastionref02_Own.f at h
  by_cases hc : a0.size ≤ 17592186044416
  case neg => rw [if_neg hc] at h; cases h
  rw [if_pos hc] at h
  injection h with h
  subst h
  exact bastionref02_Own.walk a0 w hc

/-! ### bastionref02_Join: function 15 -/
def bastionref02_Join.l0 : Nat → List ByteArray → ByteArray → Int → Option (ByteArray × Int)
  | 0, _, _, _ => none
  | k + 1, x0, x4, x5 => if x5 < (x0.length : Int) then (if x5 > 0 then (if x4.size + 1 ≤ 9223372036854775807 then (if 0 ≤ x5 then ((bastionref02_Own.f (rdOf ByteArray.empty x0 x5)).bind fun t204 => (if (x4 ++ (⟨#[32]⟩ : ByteArray)).size + t204.size ≤ 9223372036854775807 then (if (((x4 ++ (⟨#[32]⟩ : ByteArray)) ++ t204).size : Int) > 400 then (some ((⟨#[]⟩ : ByteArray), 40)) else (bastionref02_Join.l0 k x0 ((x4 ++ (⟨#[32]⟩ : ByteArray)) ++ t204) (wrap64 (x5 + 1)))) else (none))) else (none)) else (none)) else (if 0 ≤ x5 then ((bastionref02_Own.f (rdOf ByteArray.empty x0 x5)).bind fun t206 => (if x4.size + t206.size ≤ 9223372036854775807 then (if ((x4 ++ t206).size : Int) > 400 then (some ((⟨#[]⟩ : ByteArray), 40)) else (bastionref02_Join.l0 k x0 (x4 ++ t206) (wrap64 (x5 + 1)))) else (none))) else (none))) else (some (x4, 0))
def bastionref02_Join.f (k : Nat) (l0 : List ByteArray) : Option (ByteArray × Int) := bastionref02_Join.l0 k l0 (⟨#[]⟩ : ByteArray) 0
theorem bastionref02_Join.mono_l : ∀ k, (∀ y0 y1 y2, LeO (bastionref02_Join.l0 k y0 y1 y2) (bastionref02_Join.l0 (k + 1) y0 y1 y2))
  | 0 => fun _ _ _ r h => by simp [bastionref02_Join.l0] at h
  | k + 1 => by
    have ih0 := bastionref02_Join.mono_l k
    · intro y0 y1 y2
      unfold bastionref02_Join.l0
      repeat' first
      | (with_reducible exact ih0 _ _ _)
      | (with_reducible exact LeO.refl _)
      | (with_reducible exact LeO.none _)
      | (with_reducible refine LeO.ite ?_ ?_)
      | (with_reducible refine LeO.bind ?_ (fun _ => ?_))
      | exact ih0 _ _ _
      | exact LeO.none _
      | refine LeO.ite ?_ ?_
      | refine LeO.bind ?_ (fun _ => ?_)
theorem bastionref02_Join.mono : ∀ a0 k, LeO (bastionref02_Join.f k a0) (bastionref02_Join.f (k + 1) a0) := by
  intro a0 k
  have ih0 := bastionref02_Join.mono_l k
  unfold bastionref02_Join.f
  repeat' first
      | (with_reducible exact ih0 _ _ _)
      | (with_reducible exact LeO.refl _)
      | (with_reducible exact LeO.none _)
      | (with_reducible refine LeO.ite ?_ ?_)
      | (with_reducible refine LeO.bind ?_ (fun _ => ?_))
      | exact ih0 _ _ _
      | exact LeO.none _
      | refine LeO.ite ?_ ?_
      | refine LeO.bind ?_ (fun _ => ?_)
set_option maxHeartbeats 8000000 in
set_option maxRecDepth 100000 in
theorem bastionref02_Join.calls (k : Nat) (A0 : Option Addr) (c0 : Nat) (l0 : List ByteArray) (r1 : ByteArray) (r2 : Int) (w : World) (hr0 : Kd.C Kd.string w A0 l0.length l0) (hc0 : l0.length ≤ c0) (h : bastionref02_Join.f k l0 = some (r1, r2)) :
    Calls Tryd.prog 15 #[.slice A0 l0.length c0] w fun e w' => e = .returned (.tuple #[.string r1, .int .i64 r2]) ∧ Below w.heap.size w w' := by
  have HR0 := Aside0.mk hr0
  have HC0 := Aside0.mk hc0
  clear hr0 hc0
  have HB := Aside0.mk (Below.refl w.heap.size w)
  have H : (bastionref02_Join.l0 k l0 (⟨#[]⟩ : ByteArray) 0) = some (r1, r2) := h
  clear h
  have H' := Aside0.mk H
  clear H
  go_enter Tryd.func15, Tryd.ntmps15
  go_wp2
  go_loopg [4, 5] k (fun kq v4 v5 w' => ∃ (x4_1 : ByteArray) (x5_1 : Int), v4 = .string x4_1 ∧ v5 = .int .i64 x5_1 ∧ Aside0 (bastionref02_Join.l0 kq l0 x4_1 x5_1 = some (r1, r2)) ∧ Aside0 (kq ≤ k) ∧ Aside0 (Below w.heap.size w w'))
  case atStart => exact ⟨((⟨#[]⟩ : ByteArray)), (0), (by first | rfl | (simp; done) | (simp [*]; done)), (by first | rfl | (simp; done) | (simp [*]; done)), H', ⟨Nat.le_refl _⟩, ⟨by repeat (first | (with_reducible first | exact HB.out | apply below_alloc | apply pw_below_drewN | apply below_drew1) | exact HB.out)⟩⟩
  case round =>
    clear H'
    try clear c1
    obtain ⟨x4_1, x5_1, rfl, rfl, HA, HK1, HB⟩ := hrel
    cases gk with
    | zero => exact absurd HA.out (by simp [bastionref02_Join.l0])
    | succ k1 =>
      have H := HA.out
      clear HA
      simp only [bastionref02_Join.l0] at H
      by_cases c2 : x5_1 < (l0.length : Int)
      · rw [if_pos c2] at H
        have c2b0 : decide (x5_1 < (l0.length : Int)) = true := decide_eq_true c2
        clear c2
        by_cases c3 : x5_1 > 0
        · rw [if_pos c3] at H
          have c3b0 : decide (0 < x5_1) = true := decide_eq_true c3
          clear c3
          by_cases c4 : x4_1.size + 1 ≤ 9223372036854775807
          · rw [if_pos c4] at H
            have c4b0 := eq_true c4
            have c4b1 : decide (x4_1.size + 1 ≤ 9223372036854775807) = true := decide_eq_true c4
            try have c4b2 : (9223372036854775807 < x4_1.size + 1) = False := eq_false (Nat.not_lt.2 c4)
            by_cases c5 : 0 ≤ x5_1
            · rw [if_pos c5] at H
              have c5b0 : decide (0 ≤ x5_1) = true := decide_eq_true c5
              clear c5
              replace H := Option.bind_eq_some_iff.mp H
              obtain ⟨t204, A60, H⟩ := H
              replace H : (if (x4_1 ++ (⟨#[32]⟩ : ByteArray)).size + t204.size ≤ 9223372036854775807 then (if (((x4_1 ++ (⟨#[32]⟩ : ByteArray)) ++ t204).size : Int) > 400 then (some ((⟨#[]⟩ : ByteArray), 40)) else (bastionref02_Join.l0 k1 l0 ((x4_1 ++ (⟨#[32]⟩ : ByteArray)) ++ t204) (wrap64 (x5_1 + 1)))) else (none)) = some (r1, r2) := H
              have A6 := Aside0.mk A60
              clear A60
              by_cases c7 : (x4_1 ++ (⟨#[32]⟩ : ByteArray)).size + t204.size ≤ 9223372036854775807
              · rw [if_pos c7] at H
                have c7b0 := eq_true c7
                have c7b1 : decide ((x4_1 ++ (⟨#[32]⟩ : ByteArray)).size + t204.size ≤ 9223372036854775807) = true := decide_eq_true c7
                try (have c7s1 := c7b1; simp [-decide_eq_true_eq, -decide_eq_false_iff_not, show (⟨#[32]⟩ : ByteArray).size = 1 from rfl] at c7s1)
                try have c7b2 : (9223372036854775807 < (x4_1 ++ (⟨#[32]⟩ : ByteArray)).size + t204.size) = False := eq_false (Nat.not_lt.2 c7)
                try (have c7t := c7; simp [show (⟨#[32]⟩ : ByteArray).size = 1 from rfl] at c7t; replace c7t := eq_false (Nat.not_lt.2 c7t))
                try (have c7u := c7; simp only [ByteArray.size_append, show (⟨#[32]⟩ : ByteArray).size = 1 from rfl] at c7u; replace c7u := eq_false (Nat.not_lt.2 c7u))
                by_cases c8 : (((x4_1 ++ (⟨#[32]⟩ : ByteArray)) ++ t204).size : Int) > 400
                · rw [if_pos c8] at H
                  have c8b0 : decide (400 < (((x4_1 ++ (⟨#[32]⟩ : ByteArray)) ++ t204).size : Int)) = true := decide_eq_true c8
                  try (have c8s0 := c8b0; simp [-decide_eq_true_eq, -decide_eq_false_iff_not, show (⟨#[32]⟩ : ByteArray).size = 1 from rfl] at c8s0)
                  have c8b1 : decide (400 < ((x4_1 ++ (⟨#[32]⟩ : ByteArray)) ++ t204).size) = true := decide_eq_true (by omega)
                  try (have c8s1 := c8b1; simp [-decide_eq_true_eq, -decide_eq_false_iff_not, show (⟨#[32]⟩ : ByteArray).size = 1 from rfl] at c8s1)
                  clear c8
                  simp only [Option.some.injEq, Prod.mk.injEq] at H
                  obtain ⟨rfl, rfl⟩ := H
                  have p203 : 0 ≤ (x5_1 : Int) := of_decide_eq_true (by first | (with_reducible assumption) | assumption)
                  have q203 : x5_1 < (l0.length : Int) := of_decide_eq_true (by first | (with_reducible assumption) | assumption)
                  obtain ⟨ad203, e203, hx203_0⟩ := Kd.at_string HR0.out x5_1 p203 q203
                  cases e203
                  replace hx203_0 := (HB.out.cell (World.block_lt_of_cell? w _ hx203_0)).trans hx203_0
                  replace p203 := eq_true p203
                  replace q203 := eq_true q203
                  go_wp2_with (first | ((with_reducible refine gate_callee (f := 26) rfl ?_); refine goesL_ (some 21) rfl rfl Tryd.func26 (by kernel_rfl) rfl #[.string (rdOf ByteArray.empty l0 x5_1)] rfl (by (try simp only [List.map_toArray, List.map_cons, List.map_nil]); first | done | rfl | (simp only [List.length_drop, List.length_take]; rfl)) ?_; (with_reducible refine (bastionref02_Own.calls (rdOf ByteArray.empty l0 x5_1) t204 _ A6.out).mono ?_); rintro e w9 ⟨rfl, hb⟩; refine ⟨_, rfl, ?_⟩; have n0_ := Aside0.mk (below_step (by repeat (first | (with_reducible first | exact HB.out | apply below_alloc | apply pw_below_drewN | apply below_drew1) | exact HB.out)) hb); clear HB; have HB := n0_; clear n0_; (try clear hb); (try clear hb2); (try clear hk); (try clear hi)))
                  go_ret2
                  exact ⟨by first | rfl | (simp [errW_none, errW_some] <;> rfl) | (simp [*, errW_none, errW_some] <;> rfl), by repeat (first | (with_reducible first | exact HB.out | apply below_alloc | apply pw_below_drewN | apply below_drew1) | exact HB.out)⟩
                · rw [if_neg c8] at H
                  have c8b0 : decide (400 < (((x4_1 ++ (⟨#[32]⟩ : ByteArray)) ++ t204).size : Int)) = false := decide_eq_false c8
                  try (have c8s0 := c8b0; simp [-decide_eq_true_eq, -decide_eq_false_iff_not, show (⟨#[32]⟩ : ByteArray).size = 1 from rfl] at c8s0)
                  have c8b1 : decide (400 < ((x4_1 ++ (⟨#[32]⟩ : ByteArray)) ++ t204).size) = false := decide_eq_false (by omega)
                  try (have c8s1 := c8b1; simp [-decide_eq_true_eq, -decide_eq_false_iff_not, show (⟨#[32]⟩ : ByteArray).size = 1 from rfl] at c8s1)
                  clear c8
                  have H' := Aside0.mk H
                  clear H
                  have p203 : 0 ≤ (x5_1 : Int) := of_decide_eq_true (by first | (with_reducible assumption) | assumption)
                  have q203 : x5_1 < (l0.length : Int) := of_decide_eq_true (by first | (with_reducible assumption) | assumption)
                  obtain ⟨ad203, e203, hx203_0⟩ := Kd.at_string HR0.out x5_1 p203 q203
                  cases e203
                  replace hx203_0 := (HB.out.cell (World.block_lt_of_cell? w _ hx203_0)).trans hx203_0
                  replace p203 := eq_true p203
                  replace q203 := eq_true q203
                  go_wp2_with (first | ((with_reducible refine gate_callee (f := 26) rfl ?_); refine goesL_ (some 21) rfl rfl Tryd.func26 (by kernel_rfl) rfl #[.string (rdOf ByteArray.empty l0 x5_1)] rfl (by (try simp only [List.map_toArray, List.map_cons, List.map_nil]); first | done | rfl | (simp only [List.length_drop, List.length_take]; rfl)) ?_; (with_reducible refine (bastionref02_Own.calls (rdOf ByteArray.empty l0 x5_1) t204 _ A6.out).mono ?_); rintro e w10 ⟨rfl, hb⟩; refine ⟨_, rfl, ?_⟩; have n0_ := Aside0.mk (below_step (by repeat (first | (with_reducible first | exact HB.out | apply below_alloc | apply pw_below_drewN | apply below_drew1) | exact HB.out)) hb); clear HB; have HB := n0_; clear n0_; (try clear hb); (try clear hb2); (try clear hk); (try clear hi)))
                  go_roundg k1
                  case measure => have := HK1.out; omega
                  case rel => exact ⟨((x4_1 ++ (⟨#[32]⟩ : ByteArray)) ++ t204), (wrap64 (x5_1 + 1)), (by first | rfl | (simp; done) | (simp [*]; done)), (by first | rfl | (simp; done) | (simp [*]; done)), H', ⟨by have := HK1.out; omega⟩, ⟨by repeat (first | (with_reducible first | exact HB.out | apply below_alloc | apply pw_below_drewN | apply below_drew1) | exact HB.out)⟩⟩
              · rw [if_neg c7] at H
                exact absurd H (by simp)
            · rw [if_neg c5] at H
              exact absurd H (by simp)
          · rw [if_neg c4] at H
            exact absurd H (by simp)
        · rw [if_neg c3] at H
          have c3b0 : decide (0 < x5_1) = false := decide_eq_false c3
          clear c3
          by_cases c11 : 0 ≤ x5_1
          · rw [if_pos c11] at H
            have c11b0 : decide (0 ≤ x5_1) = true := decide_eq_true c11
            clear c11
            replace H := Option.bind_eq_some_iff.mp H
            obtain ⟨t206, A120, H⟩ := H
            replace H : (if x4_1.size + t206.size ≤ 9223372036854775807 then (if ((x4_1 ++ t206).size : Int) > 400 then (some ((⟨#[]⟩ : ByteArray), 40)) else (bastionref02_Join.l0 k1 l0 (x4_1 ++ t206) (wrap64 (x5_1 + 1)))) else (none)) = some (r1, r2) := H
            have A12 := Aside0.mk A120
            clear A120
            by_cases c13 : x4_1.size + t206.size ≤ 9223372036854775807
            · rw [if_pos c13] at H
              have c13b0 := eq_true c13
              have c13b1 : decide (x4_1.size + t206.size ≤ 9223372036854775807) = true := decide_eq_true c13
              try have c13b2 : (9223372036854775807 < x4_1.size + t206.size) = False := eq_false (Nat.not_lt.2 c13)
              by_cases c14 : ((x4_1 ++ t206).size : Int) > 400
              · rw [if_pos c14] at H
                have c14b0 : decide (400 < ((x4_1 ++ t206).size : Int)) = true := decide_eq_true c14
                try (have c14s0 := c14b0; simp [-decide_eq_true_eq, -decide_eq_false_iff_not] at c14s0)
                have c14b1 : decide (400 < (x4_1 ++ t206).size) = true := decide_eq_true (by omega)
                try (have c14s1 := c14b1; simp [-decide_eq_true_eq, -decide_eq_false_iff_not] at c14s1)
                clear c14
                simp only [Option.some.injEq, Prod.mk.injEq] at H
                obtain ⟨rfl, rfl⟩ := H
                have p205 : 0 ≤ (x5_1 : Int) := of_decide_eq_true (by first | (with_reducible assumption) | assumption)
                have q205 : x5_1 < (l0.length : Int) := of_decide_eq_true (by first | (with_reducible assumption) | assumption)
                obtain ⟨ad205, e205, hx205_0⟩ := Kd.at_string HR0.out x5_1 p205 q205
                cases e205
                replace hx205_0 := (HB.out.cell (World.block_lt_of_cell? w _ hx205_0)).trans hx205_0
                replace p205 := eq_true p205
                replace q205 := eq_true q205
                go_wp2_with (first | ((with_reducible refine gate_callee (f := 26) rfl ?_); refine goesL_ (some 21) rfl rfl Tryd.func26 (by kernel_rfl) rfl #[.string (rdOf ByteArray.empty l0 x5_1)] rfl (by (try simp only [List.map_toArray, List.map_cons, List.map_nil]); first | done | rfl | (simp only [List.length_drop, List.length_take]; rfl)) ?_; (with_reducible refine (bastionref02_Own.calls (rdOf ByteArray.empty l0 x5_1) t206 _ A12.out).mono ?_); rintro e w15 ⟨rfl, hb⟩; refine ⟨_, rfl, ?_⟩; have n0_ := Aside0.mk (below_step (by repeat (first | (with_reducible first | exact HB.out | apply below_alloc | apply pw_below_drewN | apply below_drew1) | exact HB.out)) hb); clear HB; have HB := n0_; clear n0_; (try clear hb); (try clear hb2); (try clear hk); (try clear hi)))
                go_ret2
                exact ⟨by first | rfl | (simp [errW_none, errW_some] <;> rfl) | (simp [*, errW_none, errW_some] <;> rfl), by repeat (first | (with_reducible first | exact HB.out | apply below_alloc | apply pw_below_drewN | apply below_drew1) | exact HB.out)⟩
              · rw [if_neg c14] at H
                have c14b0 : decide (400 < ((x4_1 ++ t206).size : Int)) = false := decide_eq_false c14
                try (have c14s0 := c14b0; simp [-decide_eq_true_eq, -decide_eq_false_iff_not] at c14s0)
                have c14b1 : decide (400 < (x4_1 ++ t206).size) = false := decide_eq_false (by omega)
                try (have c14s1 := c14b1; simp [-decide_eq_true_eq, -decide_eq_false_iff_not] at c14s1)
                clear c14
                have H' := Aside0.mk H
                clear H
                have p205 : 0 ≤ (x5_1 : Int) := of_decide_eq_true (by first | (with_reducible assumption) | assumption)
                have q205 : x5_1 < (l0.length : Int) := of_decide_eq_true (by first | (with_reducible assumption) | assumption)
                obtain ⟨ad205, e205, hx205_0⟩ := Kd.at_string HR0.out x5_1 p205 q205
                cases e205
                replace hx205_0 := (HB.out.cell (World.block_lt_of_cell? w _ hx205_0)).trans hx205_0
                replace p205 := eq_true p205
                replace q205 := eq_true q205
                go_wp2_with (first | ((with_reducible refine gate_callee (f := 26) rfl ?_); refine goesL_ (some 21) rfl rfl Tryd.func26 (by kernel_rfl) rfl #[.string (rdOf ByteArray.empty l0 x5_1)] rfl (by (try simp only [List.map_toArray, List.map_cons, List.map_nil]); first | done | rfl | (simp only [List.length_drop, List.length_take]; rfl)) ?_; (with_reducible refine (bastionref02_Own.calls (rdOf ByteArray.empty l0 x5_1) t206 _ A12.out).mono ?_); rintro e w16 ⟨rfl, hb⟩; refine ⟨_, rfl, ?_⟩; have n0_ := Aside0.mk (below_step (by repeat (first | (with_reducible first | exact HB.out | apply below_alloc | apply pw_below_drewN | apply below_drew1) | exact HB.out)) hb); clear HB; have HB := n0_; clear n0_; (try clear hb); (try clear hb2); (try clear hk); (try clear hi)))
                go_roundg k1
                case measure => have := HK1.out; omega
                case rel => exact ⟨(x4_1 ++ t206), (wrap64 (x5_1 + 1)), (by first | rfl | (simp; done) | (simp [*]; done)), (by first | rfl | (simp; done) | (simp [*]; done)), H', ⟨by have := HK1.out; omega⟩, ⟨by repeat (first | (with_reducible first | exact HB.out | apply below_alloc | apply pw_below_drewN | apply below_drew1) | exact HB.out)⟩⟩
            · rw [if_neg c13] at H
              exact absurd H (by simp)
          · rw [if_neg c11] at H
            exact absurd H (by simp)
      · rw [if_neg c2] at H
        have c2b0 : decide (x5_1 < (l0.length : Int)) = false := decide_eq_false c2
        clear c2
        simp only [Option.some.injEq, Prod.mk.injEq] at H
        obtain ⟨rfl, rfl⟩ := H
        go_wp2
        go_ret2
        exact ⟨by first | rfl | (simp [errW_none, errW_some] <;> rfl) | (simp [*, errW_none, errW_some] <;> rfl), by repeat (first | (with_reducible first | exact HB.out | apply below_alloc | apply pw_below_drewN | apply below_drew1) | exact HB.out)⟩

end Go.Proofs.YtckfpbkckffjjaaDoor.X
