-- Written by wip/xprint.py: the kit's print with functions proved by hand in their places. Not trusted: Lean checks it.
import Derived.Test.YtifgdhmbjlfnhaaDoorMx0
import Derived.Test.YtifgdhmbjlfnhaaDoorMx2
import Derived.Test.YtifgdhmbjlfnhaaDoorMx3
import Derived.Test.YtifgdhmbjlfnhaaDoorMx5
import Derived.Test.YtifgdhmbjlfnhaaDoorMx10
namespace Go.Proofs.YtifgdhmbjlfnhaaDoor.M
open Go.RowKit Go.Proofs.YtifgdhmbjlfnhaaDoorW.PrintWords Go.Proofs.YtifgdhmbjlfnhaaDoorW.PrintLast Go.Proofs.YtifgdhmbjlfnhaaDoorW.PrintMore
attribute [local go_sem] max2_int min2_int max_two min_two max_three min_three max_four min_four   -- for this text's walks alone
set_option linter.unusedVariables false
set_option linter.unusedSimpArgs false

/-! ### bastionref14_marked: function 27 -/
def bastionref14_marked.l0 : Nat → ByteArray → Int → List Int → Int → Option (ByteArray)
  | 0, _, _, _, _ => none
  | k + 1, x0, x1, x5, x6 => if x6 < (x0.size : Int) then (if 0 ≤ x6 then (if (bt x0 x6) = 92 then (if x5.length < 140737488355328 then ((some (x5 ++ [92] : List Int)).bind fun y245 => (if y245.length < 140737488355328 then (bastionref14_marked.l0 k x0 x1 (y245 ++ [bt x0 x6]) (wrap64 (x6 + 1))) else (none))) else (none)) else (if (bt x0 x6) = x1 then (if x5.length < 140737488355328 then ((some (x5 ++ [92] : List Int)).bind fun y251 => (if y251.length < 140737488355328 then (bastionref14_marked.l0 k x0 x1 (y251 ++ [bt x0 x6]) (wrap64 (x6 + 1))) else (none))) else (none)) else (if x5.length < 140737488355328 then (bastionref14_marked.l0 k x0 x1 (x5 ++ [bt x0 x6]) (wrap64 (x6 + 1))) else (none)))) else (none)) else (some (strOfNums x5))
def bastionref14_marked.f (k : Nat) (a0 : ByteArray) (a1 : Int) : Option (ByteArray) := bastionref14_marked.l0 k a0 a1 ([] : List Int) 0
theorem bastionref14_marked.mono_l : ∀ k, (∀ y0 y1 y2 y3, LeO (bastionref14_marked.l0 k y0 y1 y2 y3) (bastionref14_marked.l0 (k + 1) y0 y1 y2 y3))
  | 0 => fun _ _ _ _ r h => by simp [bastionref14_marked.l0] at h
  | k + 1 => by
    have ih0 := bastionref14_marked.mono_l k
    · intro y0 y1 y2 y3
      unfold bastionref14_marked.l0
      repeat' first
      | (with_reducible exact ih0 _ _ _ _)
      | (with_reducible exact LeO.refl _)
      | (with_reducible exact LeO.none _)
      | (with_reducible refine LeO.ite ?_ ?_)
      | (with_reducible refine LeO.bind ?_ (fun _ => ?_))
      | exact ih0 _ _ _ _
      | exact LeO.none _
      | refine LeO.ite ?_ ?_
      | refine LeO.bind ?_ (fun _ => ?_)
theorem bastionref14_marked.mono : ∀ a0 a1 k, LeO (bastionref14_marked.f k a0 a1) (bastionref14_marked.f (k + 1) a0 a1) := by
  intro a0 a1 k
  have ih0 := bastionref14_marked.mono_l k
  unfold bastionref14_marked.f
  repeat' first
      | (with_reducible exact ih0 _ _ _ _)
      | (with_reducible exact LeO.refl _)
      | (with_reducible exact LeO.none _)
      | (with_reducible refine LeO.ite ?_ ?_)
      | (with_reducible refine LeO.bind ?_ (fun _ => ?_))
      | exact ih0 _ _ _ _
      | exact LeO.none _
      | refine LeO.ite ?_ ?_
      | refine LeO.bind ?_ (fun _ => ?_)
set_option maxHeartbeats 8000000 in
set_option maxRecDepth 100000 in
theorem bastionref14_marked.calls (k : Nat) (a0 : ByteArray) (a1 : Int) (r : ByteArray) (w : World) (h : bastionref14_marked.f k a0 a1 = some r) :
    Calls Tryd.prog 27 #[.string a0, .int .u8 a1] w fun e w' => e = .returned (.string r) ∧ Below w.heap.size w w' := by
  have HB := Aside0.mk (Below.refl w.heap.size w)
  have H : (bastionref14_marked.l0 k a0 a1 ([] : List Int) 0) = some r := h
  clear h
  have H' := Aside0.mk H
  clear H
  go_enter Tryd.func27, Tryd.ntmps27
  go_wp2
  go_loopg [5, 6] k (fun kq v5 v6 w' => ∃ (x5_1 : List Int) (x6_1 : Int), v6 = .int .i64 x6_1 ∧ Aside0 (bastionref14_marked.l0 kq a0 a1 x5_1 x6_1 = some r) ∧ Aside0 (kq ≤ k) ∧ Aside0 (Kd.R (Kd.int .u8) 5 w' w.heap.size (fun _ => True) v5 x5_1) ∧ Aside0 (Below w.heap.size w w'))
  case atStart => exact ⟨(([] : List Int)), (0), (by first | rfl | (simp; done) | (simp [*]; done)), H', ⟨Nat.le_refl _⟩, ⟨by first | exact Kd.R_nil _ _ _ _ _ | exact Kd.N_nil _ _ _ _ _ | exact Kd.V_nil _ _ _ _ _ | exact Kd.Q_nil _ _ _ _ _ | exact Kd.S_nil _ _ _ _ _⟩, ⟨by repeat (first | (with_reducible first | exact HB.out | apply below_alloc | apply pw_below_drewN | apply below_drew1) | exact HB.out)⟩⟩
  case round =>
    clear H'
    try clear c2
    try clear p2
    obtain ⟨x5_1, x6_1, rfl, HA, HK1, HO_5, HB⟩ := hrel
    cases gk with
    | zero => exact absurd HA.out (by simp [bastionref14_marked.l0])
    | succ k1 =>
      have H := HA.out
      clear HA
      simp only [bastionref14_marked.l0] at H
      by_cases c3 : x6_1 < (a0.size : Int)
      · rw [if_pos c3] at H
        have c3b0 : decide (x6_1 < (a0.size : Int)) = true := decide_eq_true c3
        clear c3
        by_cases c4 : 0 ≤ x6_1
        · rw [if_pos c4] at H
          have c4b0 : decide (0 ≤ x6_1) = true := decide_eq_true c4
          clear c4
          by_cases c6 : (bt a0 x6_1) = 92
          · rw [if_pos c6] at H
            have c6b0 : ((bt a0 x6_1) == 92) = true := beq_iff_eq.mpr c6
            have c6b1 : ((bt a0 x6_1) != 92) = false := bne_eq_false_iff_eq.mpr c6
            clear c6
            by_cases c7 : x5_1.length < 140737488355328
            · rw [if_pos c7] at H
              have LMc7 := Aside0.mk c7
              clear c7
              obtain ⟨y245, hy245⟩ : ∃ y_ : List Int, y_ = (x5_1 ++ [92]) := ⟨_, rfl⟩
              replace H : (if y245.length < 140737488355328 then (bastionref14_marked.l0 k1 a0 a1 (y245 ++ [bt a0 x6_1]) (wrap64 (x6_1 + 1))) else (none)) = some r := by first | (rw [hy245]; with_reducible exact H) | (have H2_ := (Option.bind_some _ _).symm.trans H; rw [hy245]; with_reducible exact H2_) | (have H2_ := (Option.bind_some _ _).symm.trans H; with_reducible exact H2_) | with_reducible exact H | (rw [hy245]; exact H) | exact H
              have Ny245 := Aside0.mk hy245
              clear hy245
              by_cases c9 : y245.length < 140737488355328
              · rw [if_pos c9] at H
                have LMc9 := Aside0.mk c9
                clear c9
                obtain ⟨y248, hy248⟩ : ∃ y_ : List Int, y_ = (y245 ++ [bt a0 x6_1]) := ⟨_, rfl⟩
                replace H : (bastionref14_marked.l0 k1 a0 a1 y248 (wrap64 (x6_1 + 1))) = some r := by first | (rw [hy248]; with_reducible exact H) | (have H2_ := (Option.bind_some _ _).symm.trans H; rw [hy248]; with_reducible exact H2_) | (have H2_ := (Option.bind_some _ _).symm.trans H; with_reducible exact H2_) | with_reducible exact H | (rw [hy248]; exact H) | exact H
                have Ny248 := Aside0.mk hy248
                clear hy248
                have H' := Aside0.mk H
                clear H
                have p5 : 0 ≤ (x6_1 : Int) := of_decide_eq_true (by first | (with_reducible assumption) | assumption)
                have q5 : x6_1 < (a0.size : Int) := of_decide_eq_true (by first | (with_reducible assumption) | assumption)
                have hx5 := bt_at a0 x6_1
                replace p5 := eq_true p5
                replace q5 := eq_true q5
                go_wp2_with (first | ((with_reducible refine gate_builtin (b := .append) (xs := #[.tmp 24, .tmp 25]) rfl ?_); at_builtin; refine Kd.R_append (Kd.int .u8) (w0 := w) w.heap.size rfl (.tmp 24) (.tmp 25) 63 5 (.int .u8 0) 1 rfl Tryd.underlying63 info5 rfl (by decide) (by omega) u5 x5_1 92 [.int .u8 92] (fun _ => True) (fun _ => False) rfl rfl ?aP (fun _ hk => hk.elim) ?aF ?aO ?aB ?aS ?aL ?_; (case aP => exact rfl); (case aB => exact (by repeat (first | (with_reducible first | exact HB.out | apply below_alloc | apply pw_below_drewN | apply below_drew1) | exact HB.out))); (case aF => exact (fun _ _ => trivial)); (case aO => exact (by (with_reducible repeat (first | apply Kd.R_alloc | apply Kd.R_drewN | apply Kd.R_drew)); exact HO_5.out)); (case aS => exact (below_size (by repeat (first | (with_reducible first | exact HB.out | apply below_alloc | apply pw_below_drewN | apply below_drew1) | exact HB.out)))); (case aL => have := LMc7.out; omega); intro v246 w10 ho hb hg hat; rw [← Ny245.out] at ho; have n0_ := Aside0.mk (hb); have n1_ := Aside0.mk (ho); clear HB; clear HO_5; have HB := n0_; have HO247 := n1_; clear n0_ n1_; clear ho hb hg hat; have p8 : 0 ≤ (x6_1 : Int) := of_decide_eq_true (by first | (with_reducible assumption) | assumption); have q8 : x6_1 < (a0.size : Int) := of_decide_eq_true (by first | (with_reducible assumption) | assumption); have hx8 := bt_at a0 x6_1; replace p8 := eq_true p8; replace q8 := eq_true q8) | ((with_reducible refine gate_builtin (b := .append) (xs := #[.tmp 27, .tmp 31]) rfl ?_); at_builtin; refine Kd.R_append (Kd.int .u8) (w0 := w) w.heap.size rfl (.tmp 27) (.tmp 31) 63 5 (.int .u8 0) 1 rfl Tryd.underlying63 info5 rfl (by decide) (by omega) v246 y245 (bt a0 x6_1) [.int .u8 (bt a0 x6_1)] (fun _ => True) (fun _ => False) rfl rfl ?aP (fun _ hk => hk.elim) ?aF ?aO ?aB ?aS ?aL ?_; (case aP => exact rfl); (case aB => exact (by repeat (first | (with_reducible first | exact HB.out | apply below_alloc | apply pw_below_drewN | apply below_drew1) | exact HB.out))); (case aF => exact (fun _ _ => trivial)); (case aO => exact (by (with_reducible repeat (first | apply Kd.R_alloc | apply Kd.R_drewN | apply Kd.R_drew)); exact HO247.out)); (case aS => exact (below_size (by repeat (first | (with_reducible first | exact HB.out | apply below_alloc | apply pw_below_drewN | apply below_drew1) | exact HB.out)))); (case aL => have := LMc9.out; omega); intro v249 w11 ho hb hg hat; rw [← Ny248.out] at ho; have n0_ := Aside0.mk (hb); have n1_ := Aside0.mk (ho); clear HB; clear HO247; have HB := n0_; have HO250 := n1_; clear n0_ n1_; clear ho hb hg hat))
                go_roundg k1
                case measure => have := HK1.out; omega
                case rel => exact ⟨(y248), (wrap64 (x6_1 + 1)), (by first | rfl | (simp; done) | (simp [*]; done)), H', ⟨by have := HK1.out; omega⟩, ⟨by (with_reducible repeat (first | apply Kd.R_alloc | apply Kd.R_drewN | apply Kd.R_drew)); exact HO250.out⟩, ⟨by repeat (first | (with_reducible first | exact HB.out | apply below_alloc | apply pw_below_drewN | apply below_drew1) | exact HB.out)⟩⟩
              · rw [if_neg c9] at H
                exact absurd H (by simp)
            · rw [if_neg c7] at H
              exact absurd H (by simp)
          · rw [if_neg c6] at H
            have c6b0 : ((bt a0 x6_1) == 92) = false := beq_eq_false_iff_ne.mpr c6
            have c6b1 : ((bt a0 x6_1) != 92) = true := bne_iff_ne.mpr c6
            by_cases c13 : (bt a0 x6_1) = a1
            · rw [if_pos c13] at H
              have c13b0 : ((bt a0 x6_1) == a1) = true := beq_iff_eq.mpr c13
              have c13b1 : ((bt a0 x6_1) != a1) = false := bne_eq_false_iff_eq.mpr c13
              clear c13
              by_cases c14 : x5_1.length < 140737488355328
              · rw [if_pos c14] at H
                have LMc14 := Aside0.mk c14
                clear c14
                obtain ⟨y251, hy251⟩ : ∃ y_ : List Int, y_ = (x5_1 ++ [92]) := ⟨_, rfl⟩
                replace H : (if y251.length < 140737488355328 then (bastionref14_marked.l0 k1 a0 a1 (y251 ++ [bt a0 x6_1]) (wrap64 (x6_1 + 1))) else (none)) = some r := by first | (rw [hy251]; with_reducible exact H) | (have H2_ := (Option.bind_some _ _).symm.trans H; rw [hy251]; with_reducible exact H2_) | (have H2_ := (Option.bind_some _ _).symm.trans H; with_reducible exact H2_) | with_reducible exact H | (rw [hy251]; exact H) | exact H
                have Ny251 := Aside0.mk hy251
                clear hy251
                by_cases c16 : y251.length < 140737488355328
                · rw [if_pos c16] at H
                  have LMc16 := Aside0.mk c16
                  clear c16
                  obtain ⟨y254, hy254⟩ : ∃ y_ : List Int, y_ = (y251 ++ [bt a0 x6_1]) := ⟨_, rfl⟩
                  replace H : (bastionref14_marked.l0 k1 a0 a1 y254 (wrap64 (x6_1 + 1))) = some r := by first | (rw [hy254]; with_reducible exact H) | (have H2_ := (Option.bind_some _ _).symm.trans H; rw [hy254]; with_reducible exact H2_) | (have H2_ := (Option.bind_some _ _).symm.trans H; with_reducible exact H2_) | with_reducible exact H | (rw [hy254]; exact H) | exact H
                  have Ny254 := Aside0.mk hy254
                  clear hy254
                  have H' := Aside0.mk H
                  clear H
                  have p5 : 0 ≤ (x6_1 : Int) := of_decide_eq_true (by first | (with_reducible assumption) | assumption)
                  have q5 : x6_1 < (a0.size : Int) := of_decide_eq_true (by first | (with_reducible assumption) | assumption)
                  have hx5 := bt_at a0 x6_1
                  replace p5 := eq_true p5
                  replace q5 := eq_true q5
                  have p12 : 0 ≤ (x6_1 : Int) := of_decide_eq_true (by first | (with_reducible assumption) | assumption)
                  have q12 : x6_1 < (a0.size : Int) := of_decide_eq_true (by first | (with_reducible assumption) | assumption)
                  have hx12 := bt_at a0 x6_1
                  replace p12 := eq_true p12
                  replace q12 := eq_true q12
                  go_wp2_with (first | ((with_reducible refine gate_builtin (b := .append) (xs := #[.tmp 24, .tmp 25]) rfl ?_); at_builtin; refine Kd.R_append (Kd.int .u8) (w0 := w) w.heap.size rfl (.tmp 24) (.tmp 25) 63 5 (.int .u8 0) 1 rfl Tryd.underlying63 info5 rfl (by decide) (by omega) u5 x5_1 92 [.int .u8 92] (fun _ => True) (fun _ => False) rfl rfl ?aP (fun _ hk => hk.elim) ?aF ?aO ?aB ?aS ?aL ?_; (case aP => exact rfl); (case aB => exact (by repeat (first | (with_reducible first | exact HB.out | apply below_alloc | apply pw_below_drewN | apply below_drew1) | exact HB.out))); (case aF => exact (fun _ _ => trivial)); (case aO => exact (by (with_reducible repeat (first | apply Kd.R_alloc | apply Kd.R_drewN | apply Kd.R_drew)); exact HO_5.out)); (case aS => exact (below_size (by repeat (first | (with_reducible first | exact HB.out | apply below_alloc | apply pw_below_drewN | apply below_drew1) | exact HB.out)))); (case aL => have := LMc14.out; omega); intro v252 w17 ho hb hg hat; rw [← Ny251.out] at ho; have n0_ := Aside0.mk (hb); have n1_ := Aside0.mk (ho); clear HB; clear HO_5; have HB := n0_; have HO253 := n1_; clear n0_ n1_; clear ho hb hg hat; have p15 : 0 ≤ (x6_1 : Int) := of_decide_eq_true (by first | (with_reducible assumption) | assumption); have q15 : x6_1 < (a0.size : Int) := of_decide_eq_true (by first | (with_reducible assumption) | assumption); have hx15 := bt_at a0 x6_1; replace p15 := eq_true p15; replace q15 := eq_true q15) | ((with_reducible refine gate_builtin (b := .append) (xs := #[.tmp 27, .tmp 31]) rfl ?_); at_builtin; refine Kd.R_append (Kd.int .u8) (w0 := w) w.heap.size rfl (.tmp 27) (.tmp 31) 63 5 (.int .u8 0) 1 rfl Tryd.underlying63 info5 rfl (by decide) (by omega) v252 y251 (bt a0 x6_1) [.int .u8 (bt a0 x6_1)] (fun _ => True) (fun _ => False) rfl rfl ?aP (fun _ hk => hk.elim) ?aF ?aO ?aB ?aS ?aL ?_; (case aP => exact rfl); (case aB => exact (by repeat (first | (with_reducible first | exact HB.out | apply below_alloc | apply pw_below_drewN | apply below_drew1) | exact HB.out))); (case aF => exact (fun _ _ => trivial)); (case aO => exact (by (with_reducible repeat (first | apply Kd.R_alloc | apply Kd.R_drewN | apply Kd.R_drew)); exact HO253.out)); (case aS => exact (below_size (by repeat (first | (with_reducible first | exact HB.out | apply below_alloc | apply pw_below_drewN | apply below_drew1) | exact HB.out)))); (case aL => have := LMc16.out; omega); intro v255 w18 ho hb hg hat; rw [← Ny254.out] at ho; have n0_ := Aside0.mk (hb); have n1_ := Aside0.mk (ho); clear HB; clear HO253; have HB := n0_; have HO256 := n1_; clear n0_ n1_; clear ho hb hg hat))
                  go_roundg k1
                  case measure => have := HK1.out; omega
                  case rel => exact ⟨(y254), (wrap64 (x6_1 + 1)), (by first | rfl | (simp; done) | (simp [*]; done)), H', ⟨by have := HK1.out; omega⟩, ⟨by (with_reducible repeat (first | apply Kd.R_alloc | apply Kd.R_drewN | apply Kd.R_drew)); exact HO256.out⟩, ⟨by repeat (first | (with_reducible first | exact HB.out | apply below_alloc | apply pw_below_drewN | apply below_drew1) | exact HB.out)⟩⟩
                · rw [if_neg c16] at H
                  exact absurd H (by simp)
              · rw [if_neg c14] at H
                exact absurd H (by simp)
            · rw [if_neg c13] at H
              have c13b0 : ((bt a0 x6_1) == a1) = false := beq_eq_false_iff_ne.mpr c13
              have c13b1 : ((bt a0 x6_1) != a1) = true := bne_iff_ne.mpr c13
              by_cases c20 : x5_1.length < 140737488355328
              · rw [if_pos c20] at H
                have LMc20 := Aside0.mk c20
                clear c20
                obtain ⟨y257, hy257⟩ : ∃ y_ : List Int, y_ = (x5_1 ++ [bt a0 x6_1]) := ⟨_, rfl⟩
                replace H : (bastionref14_marked.l0 k1 a0 a1 y257 (wrap64 (x6_1 + 1))) = some r := by first | (rw [hy257]; with_reducible exact H) | (have H2_ := (Option.bind_some _ _).symm.trans H; rw [hy257]; with_reducible exact H2_) | (have H2_ := (Option.bind_some _ _).symm.trans H; with_reducible exact H2_) | with_reducible exact H | (rw [hy257]; exact H) | exact H
                have Ny257 := Aside0.mk hy257
                clear hy257
                have H' := Aside0.mk H
                clear H
                have p5 : 0 ≤ (x6_1 : Int) := of_decide_eq_true (by first | (with_reducible assumption) | assumption)
                have q5 : x6_1 < (a0.size : Int) := of_decide_eq_true (by first | (with_reducible assumption) | assumption)
                have hx5 := bt_at a0 x6_1
                replace p5 := eq_true p5
                replace q5 := eq_true q5
                have p12 : 0 ≤ (x6_1 : Int) := of_decide_eq_true (by first | (with_reducible assumption) | assumption)
                have q12 : x6_1 < (a0.size : Int) := of_decide_eq_true (by first | (with_reducible assumption) | assumption)
                have hx12 := bt_at a0 x6_1
                replace p12 := eq_true p12
                replace q12 := eq_true q12
                have p19 : 0 ≤ (x6_1 : Int) := of_decide_eq_true (by first | (with_reducible assumption) | assumption)
                have q19 : x6_1 < (a0.size : Int) := of_decide_eq_true (by first | (with_reducible assumption) | assumption)
                have hx19 := bt_at a0 x6_1
                replace p19 := eq_true p19
                replace q19 := eq_true q19
                go_wp2_with (first | ((with_reducible refine gate_builtin (b := .append) (xs := #[.tmp 27, .tmp 31]) rfl ?_); at_builtin; refine Kd.R_append (Kd.int .u8) (w0 := w) w.heap.size rfl (.tmp 27) (.tmp 31) 63 5 (.int .u8 0) 1 rfl Tryd.underlying63 info5 rfl (by decide) (by omega) u5 x5_1 (bt a0 x6_1) [.int .u8 (bt a0 x6_1)] (fun _ => True) (fun _ => False) rfl rfl ?aP (fun _ hk => hk.elim) ?aF ?aO ?aB ?aS ?aL ?_; (case aP => exact rfl); (case aB => exact (by repeat (first | (with_reducible first | exact HB.out | apply below_alloc | apply pw_below_drewN | apply below_drew1) | exact HB.out))); (case aF => exact (fun _ _ => trivial)); (case aO => exact (by (with_reducible repeat (first | apply Kd.R_alloc | apply Kd.R_drewN | apply Kd.R_drew)); exact HO_5.out)); (case aS => exact (below_size (by repeat (first | (with_reducible first | exact HB.out | apply below_alloc | apply pw_below_drewN | apply below_drew1) | exact HB.out)))); (case aL => have := LMc20.out; omega); intro v258 w21 ho hb hg hat; rw [← Ny257.out] at ho; have n0_ := Aside0.mk (hb); have n1_ := Aside0.mk (ho); clear HB; clear HO_5; have HB := n0_; have HO259 := n1_; clear n0_ n1_; clear ho hb hg hat))
                go_roundg k1
                case measure => have := HK1.out; omega
                case rel => exact ⟨(y257), (wrap64 (x6_1 + 1)), (by first | rfl | (simp; done) | (simp [*]; done)), H', ⟨by have := HK1.out; omega⟩, ⟨by (with_reducible repeat (first | apply Kd.R_alloc | apply Kd.R_drewN | apply Kd.R_drew)); exact HO259.out⟩, ⟨by repeat (first | (with_reducible first | exact HB.out | apply below_alloc | apply pw_below_drewN | apply below_drew1) | exact HB.out)⟩⟩
              · rw [if_neg c20] at H
                exact absurd H (by simp)
        · rw [if_neg c4] at H
          exact absurd H (by simp)
      · rw [if_neg c3] at H
        have c3b0 : decide (x6_1 < (a0.size : Int)) = false := decide_eq_false c3
        clear c3
        obtain rfl := Option.some.inj H
        have hcv22 := own_string (P := Tryd.prog) Tryd.underlying63 Tryd.underlying5 Tryd.underlying9 (Kd.own_of_R HO_5.out)
        go_wp2
        go_ret
        exact ⟨by first | rfl | (simp [errW_none, errW_some] <;> rfl) | (simp [*, errW_none, errW_some] <;> rfl), by repeat (first | (with_reducible first | exact HB.out | apply below_alloc | apply pw_below_drewN | apply below_drew1) | exact HB.out)⟩

/-! ### bastionref14_Label: function 20 -/
def bastionref14_Label.l0 : Nat → List ByteArray → ByteArray → Int → Option (ByteArray)
  | 0, _, _, _ => none
  | k + 1, x1, x5, x6 => if x6 < (x1.length : Int) then (if x6 = 0 then (if x5.size + 1 ≤ 9223372036854775807 then (if 0 ≤ x6 then ((bastionref14_marked.f k (rdOf ByteArray.empty x1 x6) 44).bind fun t262 => (if (x5 ++ (⟨#[58]⟩ : ByteArray)).size + t262.size ≤ 9223372036854775807 then (bastionref14_Label.l0 k x1 ((x5 ++ (⟨#[58]⟩ : ByteArray)) ++ t262) (wrap64 (x6 + 1))) else (none))) else (none)) else (none)) else (if x5.size + 1 ≤ 9223372036854775807 then (if 0 ≤ x6 then ((bastionref14_marked.f k (rdOf ByteArray.empty x1 x6) 44).bind fun t264 => (if (x5 ++ (⟨#[44]⟩ : ByteArray)).size + t264.size ≤ 9223372036854775807 then (bastionref14_Label.l0 k x1 ((x5 ++ (⟨#[44]⟩ : ByteArray)) ++ t264) (wrap64 (x6 + 1))) else (none))) else (none)) else (none))) else (some x5)
def bastionref14_Label.f (k : Nat) (a0 : ByteArray) (l1 : List ByteArray) : Option (ByteArray) := (bastionref14_marked.f k a0 58).bind fun t260 => (bastionref14_Label.l0 k l1 t260 0)
theorem bastionref14_Label.mono_l : ∀ k, (∀ y0 y1 y2, LeO (bastionref14_Label.l0 k y0 y1 y2) (bastionref14_Label.l0 (k + 1) y0 y1 y2))
  | 0 => fun _ _ _ r h => by simp [bastionref14_Label.l0] at h
  | k + 1 => by
    have ih0 := bastionref14_Label.mono_l k
    · intro y0 y1 y2
      unfold bastionref14_Label.l0
      repeat' first
      | (with_reducible exact ih0 _ _ _)
      | (with_reducible exact bastionref14_marked.mono _ _ _)
      | (with_reducible exact LeO.refl _)
      | (with_reducible exact LeO.none _)
      | (with_reducible refine LeO.ite ?_ ?_)
      | (with_reducible refine LeO.bind ?_ (fun _ => ?_))
      | exact ih0 _ _ _
      | exact bastionref14_marked.mono _ _ _
      | exact LeO.none _
      | refine LeO.ite ?_ ?_
      | refine LeO.bind ?_ (fun _ => ?_)
theorem bastionref14_Label.mono : ∀ a0 a1 k, LeO (bastionref14_Label.f k a0 a1) (bastionref14_Label.f (k + 1) a0 a1) := by
  intro a0 a1 k
  have ih0 := bastionref14_Label.mono_l k
  unfold bastionref14_Label.f
  repeat' first
      | (with_reducible exact ih0 _ _ _)
      | (with_reducible exact bastionref14_marked.mono _ _ _)
      | (with_reducible exact LeO.refl _)
      | (with_reducible exact LeO.none _)
      | (with_reducible refine LeO.ite ?_ ?_)
      | (with_reducible refine LeO.bind ?_ (fun _ => ?_))
      | exact ih0 _ _ _
      | exact bastionref14_marked.mono _ _ _
      | exact LeO.none _
      | refine LeO.ite ?_ ?_
      | refine LeO.bind ?_ (fun _ => ?_)
set_option maxHeartbeats 8000000 in
set_option maxRecDepth 100000 in
theorem bastionref14_Label.calls (k : Nat) (a0 : ByteArray) (A1 : Option Addr) (c1 : Nat) (l1 : List ByteArray) (r : ByteArray) (w : World) (hr1 : Kd.C Kd.string w A1 l1.length l1) (hc1 : l1.length ≤ c1) (h : bastionref14_Label.f k a0 l1 = some r) :
    Calls Tryd.prog 20 #[.string a0, .slice A1 l1.length c1] w fun e w' => e = .returned (.string r) ∧ Below w.heap.size w w' := by
  have HR1 := Aside0.mk hr1
  have HC1 := Aside0.mk hc1
  clear hr1 hc1
  have HB := Aside0.mk (Below.refl w.heap.size w)
  have H : ((bastionref14_marked.f k a0 58).bind fun t260 => (bastionref14_Label.l0 k l1 t260 0)) = some r := h
  clear h
  replace H := Option.bind_eq_some_iff.mp H
  obtain ⟨t260, A30, H⟩ := H
  replace H : (bastionref14_Label.l0 k l1 t260 0) = some r := H
  have A3 := Aside0.mk A30
  clear A30
  have H' := Aside0.mk H
  clear H
  go_enter Tryd.func20, Tryd.ntmps20
  go_wp2_with (first | ((with_reducible refine gate_callee (f := 27) rfl ?_); refine goesL_ (some 8) rfl rfl Tryd.func27 (by kernel_rfl) rfl #[.string a0, .int .u8 58] rfl (by (try simp only [List.map_toArray, List.map_cons, List.map_nil]); first | done | rfl | (simp only [List.length_drop, List.length_take]; rfl)) ?_; (with_reducible refine (bastionref14_marked.calls k a0 58 t260 _ A3.out).mono ?_); rintro e w4 ⟨rfl, hb⟩; refine ⟨_, rfl, ?_⟩; have n0_ := Aside0.mk (below_step (by repeat (first | (with_reducible first | exact HB.out | apply below_alloc | apply pw_below_drewN | apply below_drew1) | exact HB.out)) hb); clear HB; have HB := n0_; clear n0_; (try clear hb); (try clear hb2); (try clear hk); (try clear hi)))
  go_loopg [5, 6] k (fun kq v5 v6 w' => ∃ (x5_1 : ByteArray) (x6_1 : Int), v5 = .string x5_1 ∧ v6 = .int .i64 x6_1 ∧ Aside0 (bastionref14_Label.l0 kq l1 x5_1 x6_1 = some r) ∧ Aside0 (kq ≤ k) ∧ Aside0 (Below w.heap.size w w'))
  case atStart => exact ⟨(t260), (0), (by first | rfl | (simp; done) | (simp [*]; done)), (by first | rfl | (simp; done) | (simp [*]; done)), H', ⟨Nat.le_refl _⟩, ⟨by repeat (first | (with_reducible first | exact HB.out | apply below_alloc | apply pw_below_drewN | apply below_drew1) | exact HB.out)⟩⟩
  case round =>
    clear H'
    try clear c1
    try clear c2
    try clear p2
    obtain ⟨x5_1, x6_1, rfl, rfl, HA, HK1, HB⟩ := hrel
    cases gk with
    | zero => exact absurd HA.out (by simp [bastionref14_Label.l0])
    | succ k1 =>
      have H := HA.out
      clear HA
      simp only [bastionref14_Label.l0] at H
      by_cases c5 : x6_1 < (l1.length : Int)
      · rw [if_pos c5] at H
        have c5b0 : decide (x6_1 < (l1.length : Int)) = true := decide_eq_true c5
        clear c5
        by_cases c6 : x6_1 = 0
        · rw [if_pos c6] at H
          have c6b0 : (x6_1 == 0) = true := beq_iff_eq.mpr c6
          have c6b1 : (x6_1 != 0) = false := bne_eq_false_iff_eq.mpr c6
          clear c6
          by_cases c7 : x5_1.size + 1 ≤ 9223372036854775807
          · rw [if_pos c7] at H
            have c7b0 := eq_true c7
            have c7b1 : decide (x5_1.size + 1 ≤ 9223372036854775807) = true := decide_eq_true c7
            try have c7b2 : (9223372036854775807 < x5_1.size + 1) = False := eq_false (Nat.not_lt.2 c7)
            by_cases c8 : 0 ≤ x6_1
            · rw [if_pos c8] at H
              have c8b0 : decide (0 ≤ x6_1) = true := decide_eq_true c8
              clear c8
              replace H := Option.bind_eq_some_iff.mp H
              obtain ⟨t262, A90, H⟩ := H
              replace H : (if (x5_1 ++ (⟨#[58]⟩ : ByteArray)).size + t262.size ≤ 9223372036854775807 then (bastionref14_Label.l0 k1 l1 ((x5_1 ++ (⟨#[58]⟩ : ByteArray)) ++ t262) (wrap64 (x6_1 + 1))) else (none)) = some r := H
              have A9 := Aside0.mk A90
              clear A90
              by_cases c10 : (x5_1 ++ (⟨#[58]⟩ : ByteArray)).size + t262.size ≤ 9223372036854775807
              · rw [if_pos c10] at H
                have c10b0 := eq_true c10
                have c10b1 : decide ((x5_1 ++ (⟨#[58]⟩ : ByteArray)).size + t262.size ≤ 9223372036854775807) = true := decide_eq_true c10
                try (have c10s1 := c10b1; simp [-decide_eq_true_eq, -decide_eq_false_iff_not, show (⟨#[58]⟩ : ByteArray).size = 1 from rfl] at c10s1)
                try have c10b2 : (9223372036854775807 < (x5_1 ++ (⟨#[58]⟩ : ByteArray)).size + t262.size) = False := eq_false (Nat.not_lt.2 c10)
                try (have c10t := c10; simp [show (⟨#[58]⟩ : ByteArray).size = 1 from rfl] at c10t; replace c10t := eq_false (Nat.not_lt.2 c10t))
                try (have c10u := c10; simp only [ByteArray.size_append, show (⟨#[58]⟩ : ByteArray).size = 1 from rfl] at c10u; replace c10u := eq_false (Nat.not_lt.2 c10u))
                have H' := Aside0.mk H
                clear H
                have p261 : 0 ≤ (x6_1 : Int) := of_decide_eq_true (by first | (with_reducible assumption) | assumption)
                have q261 : x6_1 < (l1.length : Int) := of_decide_eq_true (by first | (with_reducible assumption) | assumption)
                obtain ⟨ad261, e261, hx261_0⟩ := Kd.at_string HR1.out x6_1 p261 q261
                cases e261
                replace hx261_0 := (HB.out.cell (World.block_lt_of_cell? w _ hx261_0)).trans hx261_0
                replace p261 := eq_true p261
                replace q261 := eq_true q261
                go_wp2_with (first | ((with_reducible refine gate_callee (f := 27) rfl ?_); refine goesL_ (some 26) rfl rfl Tryd.func27 (by kernel_rfl) rfl #[.string (rdOf ByteArray.empty l1 x6_1), .int .u8 44] rfl (by (try simp only [List.map_toArray, List.map_cons, List.map_nil]); first | done | rfl | (simp only [List.length_drop, List.length_take]; rfl)) ?_; (with_reducible refine (bastionref14_marked.calls k1 (rdOf ByteArray.empty l1 x6_1) 44 t262 _ A9.out).mono ?_); rintro e w11 ⟨rfl, hb⟩; refine ⟨_, rfl, ?_⟩; have n0_ := Aside0.mk (below_step (by repeat (first | (with_reducible first | exact HB.out | apply below_alloc | apply pw_below_drewN | apply below_drew1) | exact HB.out)) hb); clear HB; have HB := n0_; clear n0_; (try clear hb); (try clear hb2); (try clear hk); (try clear hi)))
                go_roundg k1
                case measure => have := HK1.out; omega
                case rel => exact ⟨((x5_1 ++ (⟨#[58]⟩ : ByteArray)) ++ t262), (wrap64 (x6_1 + 1)), (by first | rfl | (simp; done) | (simp [*]; done)), (by first | rfl | (simp; done) | (simp [*]; done)), H', ⟨by have := HK1.out; omega⟩, ⟨by repeat (first | (with_reducible first | exact HB.out | apply below_alloc | apply pw_below_drewN | apply below_drew1) | exact HB.out)⟩⟩
              · rw [if_neg c10] at H
                exact absurd H (by simp)
            · rw [if_neg c8] at H
              exact absurd H (by simp)
          · rw [if_neg c7] at H
            exact absurd H (by simp)
        · rw [if_neg c6] at H
          have c6b0 : (x6_1 == 0) = false := beq_eq_false_iff_ne.mpr c6
          have c6b1 : (x6_1 != 0) = true := bne_iff_ne.mpr c6
          by_cases c12 : x5_1.size + 1 ≤ 9223372036854775807
          · rw [if_pos c12] at H
            have c12b0 := eq_true c12
            have c12b1 : decide (x5_1.size + 1 ≤ 9223372036854775807) = true := decide_eq_true c12
            try have c12b2 : (9223372036854775807 < x5_1.size + 1) = False := eq_false (Nat.not_lt.2 c12)
            by_cases c13 : 0 ≤ x6_1
            · rw [if_pos c13] at H
              have c13b0 : decide (0 ≤ x6_1) = true := decide_eq_true c13
              clear c13
              replace H := Option.bind_eq_some_iff.mp H
              obtain ⟨t264, A140, H⟩ := H
              replace H : (if (x5_1 ++ (⟨#[44]⟩ : ByteArray)).size + t264.size ≤ 9223372036854775807 then (bastionref14_Label.l0 k1 l1 ((x5_1 ++ (⟨#[44]⟩ : ByteArray)) ++ t264) (wrap64 (x6_1 + 1))) else (none)) = some r := H
              have A14 := Aside0.mk A140
              clear A140
              by_cases c15 : (x5_1 ++ (⟨#[44]⟩ : ByteArray)).size + t264.size ≤ 9223372036854775807
              · rw [if_pos c15] at H
                have c15b0 := eq_true c15
                have c15b1 : decide ((x5_1 ++ (⟨#[44]⟩ : ByteArray)).size + t264.size ≤ 9223372036854775807) = true := decide_eq_true c15
                try (have c15s1 := c15b1; simp [-decide_eq_true_eq, -decide_eq_false_iff_not, show (⟨#[44]⟩ : ByteArray).size = 1 from rfl] at c15s1)
                try have c15b2 : (9223372036854775807 < (x5_1 ++ (⟨#[44]⟩ : ByteArray)).size + t264.size) = False := eq_false (Nat.not_lt.2 c15)
                try (have c15t := c15; simp [show (⟨#[44]⟩ : ByteArray).size = 1 from rfl] at c15t; replace c15t := eq_false (Nat.not_lt.2 c15t))
                try (have c15u := c15; simp only [ByteArray.size_append, show (⟨#[44]⟩ : ByteArray).size = 1 from rfl] at c15u; replace c15u := eq_false (Nat.not_lt.2 c15u))
                have H' := Aside0.mk H
                clear H
                have p263 : 0 ≤ (x6_1 : Int) := of_decide_eq_true (by first | (with_reducible assumption) | assumption)
                have q263 : x6_1 < (l1.length : Int) := of_decide_eq_true (by first | (with_reducible assumption) | assumption)
                obtain ⟨ad263, e263, hx263_0⟩ := Kd.at_string HR1.out x6_1 p263 q263
                cases e263
                replace hx263_0 := (HB.out.cell (World.block_lt_of_cell? w _ hx263_0)).trans hx263_0
                replace p263 := eq_true p263
                replace q263 := eq_true q263
                go_wp2_with (first | ((with_reducible refine gate_callee (f := 27) rfl ?_); refine goesL_ (some 26) rfl rfl Tryd.func27 (by kernel_rfl) rfl #[.string (rdOf ByteArray.empty l1 x6_1), .int .u8 44] rfl (by (try simp only [List.map_toArray, List.map_cons, List.map_nil]); first | done | rfl | (simp only [List.length_drop, List.length_take]; rfl)) ?_; (with_reducible refine (bastionref14_marked.calls k1 (rdOf ByteArray.empty l1 x6_1) 44 t264 _ A14.out).mono ?_); rintro e w16 ⟨rfl, hb⟩; refine ⟨_, rfl, ?_⟩; have n0_ := Aside0.mk (below_step (by repeat (first | (with_reducible first | exact HB.out | apply below_alloc | apply pw_below_drewN | apply below_drew1) | exact HB.out)) hb); clear HB; have HB := n0_; clear n0_; (try clear hb); (try clear hb2); (try clear hk); (try clear hi)))
                go_roundg k1
                case measure => have := HK1.out; omega
                case rel => exact ⟨((x5_1 ++ (⟨#[44]⟩ : ByteArray)) ++ t264), (wrap64 (x6_1 + 1)), (by first | rfl | (simp; done) | (simp [*]; done)), (by first | rfl | (simp; done) | (simp [*]; done)), H', ⟨by have := HK1.out; omega⟩, ⟨by repeat (first | (with_reducible first | exact HB.out | apply below_alloc | apply pw_below_drewN | apply below_drew1) | exact HB.out)⟩⟩
              · rw [if_neg c15] at H
                exact absurd H (by simp)
            · rw [if_neg c13] at H
              exact absurd H (by simp)
          · rw [if_neg c12] at H
            exact absurd H (by simp)
      · rw [if_neg c5] at H
        have c5b0 : decide (x6_1 < (l1.length : Int)) = false := decide_eq_false c5
        clear c5
        obtain rfl := Option.some.inj H
        go_wp2
        go_ret
        exact ⟨by first | rfl | (simp [errW_none, errW_some] <;> rfl) | (simp [*, errW_none, errW_some] <;> rfl), by repeat (first | (with_reducible first | exact HB.out | apply below_alloc | apply pw_below_drewN | apply below_drew1) | exact HB.out)⟩

/-! ### bastionlaw14_MatrixLabels: function 5 -/
def bastionlaw14_MatrixLabels.j0 : Nat → ByteArray → List ByteArray → ByteArray → Bool → Option (Bool)
  | 0, _, _, _, _ => none
  | k + 1, x0, x1, x2, x24 => if x24 = true then ((bastionlaw14_awake.f k).bind fun t266 => (some t266)) else ((matrix_Parse.f k x2).bind fun bt267 => ((bastionref14_Parse.f k x2).bind fun bt272 => ((matrix_Label.f k x0 x1).bind fun t277 => ((bastionref14_Label.f k x0 x1).bind fun t278 => (if t277.toList = t278.toList then (if bt267.2.2 = bt272.2.2 then (if bt267.1.toList = bt272.1.toList then ((bastionref02_Same.f k bt267.2.1 bt272.2.1).bind fun t279 => (if t279 = true then ((bastionlaw14_awake.f k).bind fun t280 => (some t280)) else (some false))) else (some false)) else (some false)) else (some false))))))
def bastionlaw14_MatrixLabels.f (k : Nat) (a0 : ByteArray) (l1 : List ByteArray) (a2 : ByteArray) : Option (Bool) := (bastionlaw14_long.f k l1).bind fun t265 => (if t265 = true then (bastionlaw14_MatrixLabels.j0 k a0 l1 a2 true) else (if (a0.size : Int) > 3000 then (bastionlaw14_MatrixLabels.j0 k a0 l1 a2 true) else (bastionlaw14_MatrixLabels.j0 k a0 l1 a2 (decide ((a2.size : Int) > 3000)))))
theorem bastionlaw14_MatrixLabels.mono_l : ∀ k, (∀ y0 y1 y2 y3, LeO (bastionlaw14_MatrixLabels.j0 k y0 y1 y2 y3) (bastionlaw14_MatrixLabels.j0 (k + 1) y0 y1 y2 y3))
  | 0 => fun _ _ _ _ r h => by simp [bastionlaw14_MatrixLabels.j0] at h
  | k + 1 => by
    have ih0 := bastionlaw14_MatrixLabels.mono_l k
    · intro y0 y1 y2 y3
      unfold bastionlaw14_MatrixLabels.j0
      repeat' first
      | (with_reducible exact ih0 _ _ _ _)
      | (with_reducible exact bastionlaw14_awake.mono _)
      | (with_reducible exact bastionlaw14_long.mono _ _)
      | (with_reducible exact bastionref02_Same.mono _ _ _)
      | (with_reducible exact bastionref14_Label.mono _ _ _)
      | (with_reducible exact bastionref14_Parse.mono _ _)
      | (with_reducible exact matrix_Label.mono _ _ _)
      | (with_reducible exact matrix_Parse.mono _ _)
      | (with_reducible exact LeO.refl _)
      | (with_reducible exact LeO.none _)
      | (with_reducible refine LeO.ite ?_ ?_)
      | (with_reducible refine LeO.bind ?_ (fun _ => ?_))
      | exact ih0 _ _ _ _
      | exact bastionlaw14_awake.mono _
      | exact bastionlaw14_long.mono _ _
      | exact bastionref02_Same.mono _ _ _
      | exact bastionref14_Label.mono _ _ _
      | exact bastionref14_Parse.mono _ _
      | exact matrix_Label.mono _ _ _
      | exact matrix_Parse.mono _ _
      | exact LeO.none _
      | refine LeO.ite ?_ ?_
      | refine LeO.bind ?_ (fun _ => ?_)
theorem bastionlaw14_MatrixLabels.mono : ∀ a0 a1 a2 k, LeO (bastionlaw14_MatrixLabels.f k a0 a1 a2) (bastionlaw14_MatrixLabels.f (k + 1) a0 a1 a2) := by
  intro a0 a1 a2 k
  have ih0 := bastionlaw14_MatrixLabels.mono_l k
  unfold bastionlaw14_MatrixLabels.f
  repeat' first
      | (with_reducible exact ih0 _ _ _ _)
      | (with_reducible exact bastionlaw14_awake.mono _)
      | (with_reducible exact bastionlaw14_long.mono _ _)
      | (with_reducible exact bastionref02_Same.mono _ _ _)
      | (with_reducible exact bastionref14_Label.mono _ _ _)
      | (with_reducible exact bastionref14_Parse.mono _ _)
      | (with_reducible exact matrix_Label.mono _ _ _)
      | (with_reducible exact matrix_Parse.mono _ _)
      | (with_reducible exact LeO.refl _)
      | (with_reducible exact LeO.none _)
      | (with_reducible refine LeO.ite ?_ ?_)
      | (with_reducible refine LeO.bind ?_ (fun _ => ?_))
      | exact ih0 _ _ _ _
      | exact bastionlaw14_awake.mono _
      | exact bastionlaw14_long.mono _ _
      | exact bastionref02_Same.mono _ _ _
      | exact bastionref14_Label.mono _ _ _
      | exact bastionref14_Parse.mono _ _
      | exact matrix_Label.mono _ _ _
      | exact matrix_Parse.mono _ _
      | exact LeO.none _
      | refine LeO.ite ?_ ?_
      | refine LeO.bind ?_ (fun _ => ?_)
set_option maxHeartbeats 8000000 in
set_option maxRecDepth 100000 in
theorem bastionlaw14_MatrixLabels.calls (k : Nat) (a0 : ByteArray) (A1 : Option Addr) (c1 : Nat) (l1 : List ByteArray) (a2 : ByteArray) (r : Bool) (w : World) (hr1 : Kd.C Kd.string w A1 l1.length l1) (hc1 : l1.length ≤ c1) (h : bastionlaw14_MatrixLabels.f k a0 l1 a2 = some r) :
    Calls Tryd.prog 5 #[.string a0, .slice A1 l1.length c1, .string a2] w fun e w' => e = .returned (.bool r) ∧ Below w.heap.size w w' := by
  have HR1 := Aside0.mk hr1
  have HC1 := Aside0.mk hc1
  clear hr1 hc1
  have HB := Aside0.mk (Below.refl w.heap.size w)
  have H : ((bastionlaw14_long.f k l1).bind fun t265 => (if t265 = true then (bastionlaw14_MatrixLabels.j0 k a0 l1 a2 true) else (if (a0.size : Int) > 3000 then (bastionlaw14_MatrixLabels.j0 k a0 l1 a2 true) else (bastionlaw14_MatrixLabels.j0 k a0 l1 a2 (decide ((a2.size : Int) > 3000)))))) = some r := h
  clear h
  have HC4 := Aside0.mk H
  clear H
  go_enter Tryd.func5, Tryd.ntmps5
  go_upto_region 1 with (fail)
  go_cut [24] (fun v24 wc => ∃ (kq : Nat) (x24_3 : Bool), v24 = .bool x24_3 ∧ Aside0 (bastionlaw14_MatrixLabels.j0 kq a0 l1 a2 x24_3 = some r) ∧ Aside0 (kq ≤ k) ∧ Aside0 (Below w.heap.size w wc))
  case first =>
    have H := HC4.out
    clear HC4
    replace H := Option.bind_eq_some_iff.mp H
    obtain ⟨t265, A50, H⟩ := H
    replace H : (if t265 = true then (bastionlaw14_MatrixLabels.j0 k a0 l1 a2 true) else (if (a0.size : Int) > 3000 then (bastionlaw14_MatrixLabels.j0 k a0 l1 a2 true) else (bastionlaw14_MatrixLabels.j0 k a0 l1 a2 (decide ((a2.size : Int) > 3000))))) = some r := H
    have A5 := Aside0.mk A50
    clear A50
    by_cases c6 : t265 = true
    · subst c6
      have H1 : (bastionlaw14_MatrixLabels.j0 k a0 l1 a2 true) = some r := by rw [if_pos rfl] at H; exact H
      clear H
      have H := H1
      clear H1
      have H' := Aside0.mk H
      clear H
      go_wp2_with (first | ((with_reducible refine gate_callee (f := 9) rfl ?_); refine goesL_ (some 14) rfl rfl Tryd.func9 (by kernel_rfl) rfl #[.slice A1 l1.length c1] rfl (by (try simp only [List.map_toArray, List.map_cons, List.map_nil]); first | done | rfl | (simp only [List.length_drop, List.length_take]; rfl)) ?_; (with_reducible refine (bastionlaw14_long.calls k _ _ l1 true _ ?side1 ?side2 A5.out).mono ?_); (case side1 => repeat (first | exact (Kd.C_below HR1.out HB.out) | (with_reducible refine Kd.C_alloc ?_ _) | (with_reducible refine Kd.C_drewN ?_ _) | (with_reducible refine Kd.C_drew ?_))); (case side2 => exact HC1.out); rintro e w' ⟨rfl, ⟨nd, rfl⟩⟩; refine ⟨_, rfl, ?_⟩))
      go_meet
      case rel => exact ⟨_, (true), (by first | rfl | (simp; done) | (simp [*]; done)), H', ⟨by first | omega | exact Nat.le_refl _⟩, ⟨by repeat (first | (with_reducible first | exact HB.out | apply below_alloc | apply pw_below_drewN | apply below_drew1) | exact HB.out)⟩⟩
    · replace c6 := Bool.eq_false_iff.mpr c6
      subst c6
      have H1 : (if (a0.size : Int) > 3000 then (bastionlaw14_MatrixLabels.j0 k a0 l1 a2 true) else (bastionlaw14_MatrixLabels.j0 k a0 l1 a2 (decide ((a2.size : Int) > 3000)))) = some r := by rw [if_neg (show ¬ (false = true) by decide)] at H; exact H
      clear H
      have H := H1
      clear H1
      by_cases c7 : (a0.size : Int) > 3000
      · rw [if_pos c7] at H
        have c7b0 : decide (3000 < (a0.size : Int)) = true := decide_eq_true c7
        have c7b1 : decide (3000 < a0.size) = true := decide_eq_true (by omega)
        clear c7
        (first | rw [c7b0] | (simp only [i64_w, i32_w]; rw [c7b0]) | skip)
        have H' := Aside0.mk H
        clear H
        go_wp2_with (first | ((with_reducible refine gate_callee (f := 9) rfl ?_); refine goesL_ (some 14) rfl rfl Tryd.func9 (by kernel_rfl) rfl #[.slice A1 l1.length c1] rfl (by (try simp only [List.map_toArray, List.map_cons, List.map_nil]); first | done | rfl | (simp only [List.length_drop, List.length_take]; rfl)) ?_; (with_reducible refine (bastionlaw14_long.calls k _ _ l1 false _ ?side1 ?side2 A5.out).mono ?_); (case side1 => repeat (first | exact (Kd.C_below HR1.out HB.out) | (with_reducible refine Kd.C_alloc ?_ _) | (with_reducible refine Kd.C_drewN ?_ _) | (with_reducible refine Kd.C_drew ?_))); (case side2 => exact HC1.out); rintro e w' ⟨rfl, ⟨nd, rfl⟩⟩; refine ⟨_, rfl, ?_⟩))
        go_meet
        case rel => exact ⟨_, (true), (by first | rfl | (simp; done) | (simp [*]; done)), H', ⟨by first | omega | exact Nat.le_refl _⟩, ⟨by repeat (first | (with_reducible first | exact HB.out | apply below_alloc | apply pw_below_drewN | apply below_drew1) | exact HB.out)⟩⟩
      · rw [if_neg c7] at H
        have c7b0 : decide (3000 < (a0.size : Int)) = false := decide_eq_false c7
        have c7b1 : decide (3000 < a0.size) = false := decide_eq_false (by omega)
        clear c7
        (first | rw [c7b0] | (simp only [i64_w, i32_w]; rw [c7b0]) | skip)
        have H' := Aside0.mk H
        clear H
        go_wp2_with (first | ((with_reducible refine gate_callee (f := 9) rfl ?_); refine goesL_ (some 14) rfl rfl Tryd.func9 (by kernel_rfl) rfl #[.slice A1 l1.length c1] rfl (by (try simp only [List.map_toArray, List.map_cons, List.map_nil]); first | done | rfl | (simp only [List.length_drop, List.length_take]; rfl)) ?_; (with_reducible refine (bastionlaw14_long.calls k _ _ l1 false _ ?side1 ?side2 A5.out).mono ?_); (case side1 => repeat (first | exact (Kd.C_below HR1.out HB.out) | (with_reducible refine Kd.C_alloc ?_ _) | (with_reducible refine Kd.C_drewN ?_ _) | (with_reducible refine Kd.C_drew ?_))); (case side2 => exact HC1.out); rintro e w' ⟨rfl, ⟨nd, rfl⟩⟩; refine ⟨_, rfl, ?_⟩))
        go_meet
        case rel => exact ⟨_, (decide ((a2.size : Int) > 3000)), (by first | rfl | (simp; done) | (simp [*]; done)), H', ⟨by first | omega | exact Nat.le_refl _⟩, ⟨by repeat (first | (with_reducible first | exact HB.out | apply below_alloc | apply pw_below_drewN | apply below_drew1) | exact HB.out)⟩⟩
  case rest =>
    clear HC4
    try clear c1
    try clear p2
    try clear c5
    try clear c6
    try clear c7
    try clear c7b0
    try clear c7b1
    obtain ⟨kq, x24_3, rfl, HA, HJ3, HB⟩ := hcut
    cases kq with
    | zero => exact absurd HA.out (by simp [bastionlaw14_MatrixLabels.j0])
    | succ kj3 =>
      have H := HA.out
      clear HA
      simp only [bastionlaw14_MatrixLabels.j0] at H
      by_cases c8 : x24_3 = true
      · subst c8
        have H1 : ((bastionlaw14_awake.f kj3).bind fun t266 => (some t266)) = some r := by rw [if_pos rfl] at H; exact H
        clear H
        have H := H1
        clear H1
        replace H := Option.bind_eq_some_iff.mp H
        obtain ⟨t266, A90, H⟩ := H
        replace H : (some t266) = some r := H
        have A9 := Aside0.mk A90
        clear A90
        obtain rfl := Option.some.inj H
        go_wp2_with (first | ((with_reducible refine gate_callee (f := 10) rfl ?_); refine goesL_ (some 25) rfl rfl Tryd.func10 (by kernel_rfl) rfl #[] rfl (by (try simp only [List.map_toArray, List.map_cons, List.map_nil]); first | done | rfl | (simp only [List.length_drop, List.length_take]; rfl)) ?_; (with_reducible refine (bastionlaw14_awake.calls kj3  t266 _ A9.out).mono ?_); rintro e w10 ⟨rfl, hb⟩; refine ⟨_, rfl, ?_⟩; have n0_ := Aside0.mk (below_step (by repeat (first | (with_reducible first | exact HB.out | apply below_alloc | apply pw_below_drewN | apply below_drew1) | exact HB.out)) hb); clear HB; have HB := n0_; clear n0_; (try clear hb); (try clear hb2); (try clear hk); (try clear hi)))
        go_ret
        exact ⟨by first | rfl | (simp [errW_none, errW_some] <;> rfl) | (simp [*, errW_none, errW_some] <;> rfl), by repeat (first | (with_reducible first | exact HB.out | apply below_alloc | apply pw_below_drewN | apply below_drew1) | exact HB.out)⟩
      · replace c8 := Bool.eq_false_iff.mpr c8
        subst c8
        have H1 : ((matrix_Parse.f kj3 a2).bind fun bt267 => ((bastionref14_Parse.f kj3 a2).bind fun bt272 => ((matrix_Label.f kj3 a0 l1).bind fun t277 => ((bastionref14_Label.f kj3 a0 l1).bind fun t278 => (if t277.toList = t278.toList then (if bt267.2.2 = bt272.2.2 then (if bt267.1.toList = bt272.1.toList then ((bastionref02_Same.f kj3 bt267.2.1 bt272.2.1).bind fun t279 => (if t279 = true then ((bastionlaw14_awake.f kj3).bind fun t280 => (some t280)) else (some false))) else (some false)) else (some false)) else (some false)))))) = some r := by rw [if_neg (show ¬ (false = true) by decide)] at H; exact H
        clear H
        have H := H1
        clear H1
        replace H := Option.bind_eq_some_iff.mp H
        obtain ⟨⟨t267, t268, t269⟩, A110, H⟩ := H
        replace H : ((bastionref14_Parse.f kj3 a2).bind fun bt272 => ((matrix_Label.f kj3 a0 l1).bind fun t277 => ((bastionref14_Label.f kj3 a0 l1).bind fun t278 => (if t277.toList = t278.toList then (if t269 = bt272.2.2 then (if t267.toList = bt272.1.toList then ((bastionref02_Same.f kj3 t268 bt272.2.1).bind fun t279 => (if t279 = true then ((bastionlaw14_awake.f kj3).bind fun t280 => (some t280)) else (some false))) else (some false)) else (some false)) else (some false))))) = some r := H
        have A11 := Aside0.mk A110
        clear A110
        replace H := Option.bind_eq_some_iff.mp H
        obtain ⟨⟨t272, t273, t274⟩, A120, H⟩ := H
        replace H : ((matrix_Label.f kj3 a0 l1).bind fun t277 => ((bastionref14_Label.f kj3 a0 l1).bind fun t278 => (if t277.toList = t278.toList then (if t269 = t274 then (if t267.toList = t272.toList then ((bastionref02_Same.f kj3 t268 t273).bind fun t279 => (if t279 = true then ((bastionlaw14_awake.f kj3).bind fun t280 => (some t280)) else (some false))) else (some false)) else (some false)) else (some false)))) = some r := H
        have A12 := Aside0.mk A120
        clear A120
        replace H := Option.bind_eq_some_iff.mp H
        obtain ⟨t277, A130, H⟩ := H
        replace H : ((bastionref14_Label.f kj3 a0 l1).bind fun t278 => (if t277.toList = t278.toList then (if t269 = t274 then (if t267.toList = t272.toList then ((bastionref02_Same.f kj3 t268 t273).bind fun t279 => (if t279 = true then ((bastionlaw14_awake.f kj3).bind fun t280 => (some t280)) else (some false))) else (some false)) else (some false)) else (some false))) = some r := H
        have A13 := Aside0.mk A130
        clear A130
        replace H := Option.bind_eq_some_iff.mp H
        obtain ⟨t278, A140, H⟩ := H
        replace H : (if t277.toList = t278.toList then (if t269 = t274 then (if t267.toList = t272.toList then ((bastionref02_Same.f kj3 t268 t273).bind fun t279 => (if t279 = true then ((bastionlaw14_awake.f kj3).bind fun t280 => (some t280)) else (some false))) else (some false)) else (some false)) else (some false)) = some r := H
        have A14 := Aside0.mk A140
        clear A140
        by_cases c15 : t277.toList = t278.toList
        · rw [if_pos c15] at H
          have c15b0 : (t277.toList == t278.toList) = true := beq_iff_eq.mpr c15
          have c15b1 : (t277.toList != t278.toList) = false := bne_eq_false_iff_eq.mpr c15
          clear c15
          by_cases c16 : t269 = t274
          · rw [if_pos c16] at H
            have c16b0 : (t269 == t274) = true := beq_iff_eq.mpr c16
            have c16b1 : (t269 != t274) = false := bne_eq_false_iff_eq.mpr c16
            clear c16
            by_cases c17 : t267.toList = t272.toList
            · rw [if_pos c17] at H
              have c17b0 : (t267.toList == t272.toList) = true := beq_iff_eq.mpr c17
              have c17b1 : (t267.toList != t272.toList) = false := bne_eq_false_iff_eq.mpr c17
              clear c17
              replace H := Option.bind_eq_some_iff.mp H
              obtain ⟨t279, A180, H⟩ := H
              replace H : (if t279 = true then ((bastionlaw14_awake.f kj3).bind fun t280 => (some t280)) else (some false)) = some r := H
              have A18 := Aside0.mk A180
              clear A180
              by_cases c19 : t279 = true
              · subst c19
                have H1 : ((bastionlaw14_awake.f kj3).bind fun t280 => (some t280)) = some r := by rw [if_pos rfl] at H; exact H
                clear H
                have H := H1
                clear H1
                replace H := Option.bind_eq_some_iff.mp H
                obtain ⟨t280, A200, H⟩ := H
                replace H : (some t280) = some r := H
                have A20 := Aside0.mk A200
                clear A200
                obtain rfl := Option.some.inj H
                go_wp2_with (first | ((with_reducible refine gate_callee (f := 18) rfl ?_); refine goesL_ (some 28) rfl rfl Tryd.func18 (by kernel_rfl) rfl #[.string a2] rfl (by (try simp only [List.map_toArray, List.map_cons, List.map_nil]); first | done | rfl | (simp only [List.length_drop, List.length_take]; rfl)) ?_; (with_reducible refine (matrix_Parse.calls kj3 a2 t267 t268 t269 _ A11.out).mono ?_); rintro e w21 ⟨v270, rfl, ho0, hb⟩; refine ⟨_, rfl, ?_⟩; have n0_ := Aside0.mk (Kd.R_lower ho0 (below_size (by repeat (first | (with_reducible first | exact HB.out | apply below_alloc | apply pw_below_drewN | apply below_drew1) | exact HB.out)))); have n1_ := Aside0.mk (below_step (by repeat (first | (with_reducible first | exact HB.out | apply below_alloc | apply pw_below_drewN | apply below_drew1) | exact HB.out)) hb); clear HB; have HO271 := n0_; have HB := n1_; clear n0_ n1_; (try clear hb); (try clear hb2); (try clear hk); (try clear hi); (try clear ho0)) | ((with_reducible refine gate_callee (f := 19) rfl ?_); refine goesL_ (some 34) rfl rfl Tryd.func19 (by kernel_rfl) rfl #[.string a2] rfl (by (try simp only [List.map_toArray, List.map_cons, List.map_nil]); first | done | rfl | (simp only [List.length_drop, List.length_take]; rfl)) ?_; (with_reducible refine (bastionref14_Parse.calls kj3 a2 t272 t273 t274 _ A12.out).mono ?_); rintro e w22 ⟨v275, rfl, ho0, hb⟩; refine ⟨_, rfl, ?_⟩; have n0_ := Aside0.mk (Kd.R_elder' (by (with_reducible repeat (first | apply Kd.R_alloc | apply Kd.R_drewN | apply Kd.R_drew)); exact HO271.out) (Kd.R_base ho0) hb); have n1_ := Aside0.mk (Kd.R_lower (Kd.R_new' ho0 (Kd.R_lt (by (with_reducible repeat (first | apply Kd.R_alloc | apply Kd.R_drewN | apply Kd.R_drew)); exact HO271.out))) (below_size (by repeat (first | (with_reducible first | exact HB.out | apply below_alloc | apply pw_below_drewN | apply below_drew1) | exact HB.out)))); have n2_ := Aside0.mk (below_step (by repeat (first | (with_reducible first | exact HB.out | apply below_alloc | apply pw_below_drewN | apply below_drew1) | exact HB.out)) hb); clear HO271; clear HB; have HO271 := n0_; have HO276 := n1_; have HB := n2_; clear n0_ n1_ n2_; (try clear hb); (try clear hb2); (try clear hk); (try clear hi); (try clear ho0)) | ((with_reducible refine gate_callee (f := 17) rfl ?_); refine goesL_ (some 40) rfl rfl Tryd.func17 (by kernel_rfl) rfl #[.string a0, .slice A1 l1.length c1] rfl (by (try simp only [List.map_toArray, List.map_cons, List.map_nil]); first | done | rfl | (simp only [List.length_drop, List.length_take]; rfl)) ?_; (with_reducible refine (matrix_Label.calls kj3 a0 _ _ l1 t277 _ ?side1 ?side2 A13.out).mono ?_); (case side1 => repeat (first | exact (Kd.C_below HR1.out HB.out) | (with_reducible refine Kd.C_alloc ?_ _) | (with_reducible refine Kd.C_drewN ?_ _) | (with_reducible refine Kd.C_drew ?_))); (case side2 => exact HC1.out); rintro e w23 ⟨rfl, hb⟩; refine ⟨_, rfl, ?_⟩; have n0_ := Aside0.mk (Kd.R_below (by (with_reducible repeat (first | apply Kd.R_alloc | apply Kd.R_drewN | apply Kd.R_drew)); exact HO271.out) hb); have n1_ := Aside0.mk (Kd.R_below (by (with_reducible repeat (first | apply Kd.R_alloc | apply Kd.R_drewN | apply Kd.R_drew)); exact HO276.out) hb); have n2_ := Aside0.mk (below_step (by repeat (first | (with_reducible first | exact HB.out | apply below_alloc | apply pw_below_drewN | apply below_drew1) | exact HB.out)) hb); clear HO271; clear HO276; clear HB; have HO271 := n0_; have HO276 := n1_; have HB := n2_; clear n0_ n1_ n2_; (try clear hb); (try clear hb2); (try clear hk); (try clear hi)) | ((with_reducible refine gate_callee (f := 20) rfl ?_); refine goesL_ (some 43) rfl rfl Tryd.func20 (by kernel_rfl) rfl #[.string a0, .slice A1 l1.length c1] rfl (by (try simp only [List.map_toArray, List.map_cons, List.map_nil]); first | done | rfl | (simp only [List.length_drop, List.length_take]; rfl)) ?_; (with_reducible refine (bastionref14_Label.calls kj3 a0 _ _ l1 t278 _ ?side1 ?side2 A14.out).mono ?_); (case side1 => repeat (first | exact (Kd.C_below HR1.out HB.out) | (with_reducible refine Kd.C_alloc ?_ _) | (with_reducible refine Kd.C_drewN ?_ _) | (with_reducible refine Kd.C_drew ?_))); (case side2 => exact HC1.out); rintro e w24 ⟨rfl, hb⟩; refine ⟨_, rfl, ?_⟩; have n0_ := Aside0.mk (Kd.R_below (by (with_reducible repeat (first | apply Kd.R_alloc | apply Kd.R_drewN | apply Kd.R_drew)); exact HO271.out) hb); have n1_ := Aside0.mk (Kd.R_below (by (with_reducible repeat (first | apply Kd.R_alloc | apply Kd.R_drewN | apply Kd.R_drew)); exact HO276.out) hb); have n2_ := Aside0.mk (below_step (by repeat (first | (with_reducible first | exact HB.out | apply below_alloc | apply pw_below_drewN | apply below_drew1) | exact HB.out)) hb); clear HO271; clear HO276; clear HB; have HO271 := n0_; have HO276 := n1_; have HB := n2_; clear n0_ n1_ n2_; (try clear hb); (try clear hb2); (try clear hk); (try clear hi); obtain ⟨Ao25, co25, eo25⟩ := Kd.R_slice HO271.out; subst eo25; obtain ⟨Ao26, co26, eo26⟩ := Kd.R_slice HO276.out; subst eo26) | (go_at_call 21; (with_reducible refine (bastionref02_Same.calls kj3 _ _ t268 _ _ t273 true _ ?side1 ?side2 ?side3 ?side4 A18.out).mono ?_); (case side1 => repeat (first | exact (Kd.R_reads' HO271.out).2.2 | (with_reducible refine Kd.C_alloc ?_ _) | (with_reducible refine Kd.C_drewN ?_ _) | (with_reducible refine Kd.C_drew ?_))); (case side2 => exact (Kd.R_reads' HO271.out).2.1); (case side3 => repeat (first | exact (Kd.R_reads' HO276.out).2.2 | (with_reducible refine Kd.C_alloc ?_ _) | (with_reducible refine Kd.C_drewN ?_ _) | (with_reducible refine Kd.C_drew ?_))); (case side4 => exact (Kd.R_reads' HO276.out).2.1); rintro e w' ⟨rfl, ⟨nd, rfl⟩⟩) | (go_at_call 10; (with_reducible refine (bastionlaw14_awake.calls kj3  t280 _ A20.out).mono ?_); rintro e w27 ⟨rfl, hb⟩; have n0_ := Aside0.mk (Kd.R_below (by (with_reducible repeat (first | apply Kd.R_alloc | apply Kd.R_drewN | apply Kd.R_drew)); exact HO271.out) hb); have n1_ := Aside0.mk (Kd.R_below (by (with_reducible repeat (first | apply Kd.R_alloc | apply Kd.R_drewN | apply Kd.R_drew)); exact HO276.out) hb); have n2_ := Aside0.mk (below_step (by repeat (first | (with_reducible first | exact HB.out | apply below_alloc | apply pw_below_drewN | apply below_drew1) | exact HB.out)) hb); clear HO271; clear HO276; clear HB; have HO271 := n0_; have HO276 := n1_; have HB := n2_; clear n0_ n1_ n2_; (try clear hb); (try clear hb2); (try clear hk); (try clear hi)))
                go_ret
                exact ⟨by first | rfl | (simp [errW_none, errW_some] <;> rfl) | (simp [*, errW_none, errW_some] <;> rfl), by repeat (first | (with_reducible first | exact HB.out | apply below_alloc | apply pw_below_drewN | apply below_drew1) | exact HB.out)⟩
              · replace c19 := Bool.eq_false_iff.mpr c19
                subst c19
                have H1 : (some false) = some r := by rw [if_neg (show ¬ (false = true) by decide)] at H; exact H
                clear H
                have H := H1
                clear H1
                obtain rfl := Option.some.inj H
                go_wp2_with (first | ((with_reducible refine gate_callee (f := 18) rfl ?_); refine goesL_ (some 28) rfl rfl Tryd.func18 (by kernel_rfl) rfl #[.string a2] rfl (by (try simp only [List.map_toArray, List.map_cons, List.map_nil]); first | done | rfl | (simp only [List.length_drop, List.length_take]; rfl)) ?_; (with_reducible refine (matrix_Parse.calls kj3 a2 t267 t268 t269 _ A11.out).mono ?_); rintro e w28 ⟨v270, rfl, ho0, hb⟩; refine ⟨_, rfl, ?_⟩; have n0_ := Aside0.mk (Kd.R_lower ho0 (below_size (by repeat (first | (with_reducible first | exact HB.out | apply below_alloc | apply pw_below_drewN | apply below_drew1) | exact HB.out)))); have n1_ := Aside0.mk (below_step (by repeat (first | (with_reducible first | exact HB.out | apply below_alloc | apply pw_below_drewN | apply below_drew1) | exact HB.out)) hb); clear HB; have HO271 := n0_; have HB := n1_; clear n0_ n1_; (try clear hb); (try clear hb2); (try clear hk); (try clear hi); (try clear ho0)) | ((with_reducible refine gate_callee (f := 19) rfl ?_); refine goesL_ (some 34) rfl rfl Tryd.func19 (by kernel_rfl) rfl #[.string a2] rfl (by (try simp only [List.map_toArray, List.map_cons, List.map_nil]); first | done | rfl | (simp only [List.length_drop, List.length_take]; rfl)) ?_; (with_reducible refine (bastionref14_Parse.calls kj3 a2 t272 t273 t274 _ A12.out).mono ?_); rintro e w29 ⟨v275, rfl, ho0, hb⟩; refine ⟨_, rfl, ?_⟩; have n0_ := Aside0.mk (Kd.R_elder' (by (with_reducible repeat (first | apply Kd.R_alloc | apply Kd.R_drewN | apply Kd.R_drew)); exact HO271.out) (Kd.R_base ho0) hb); have n1_ := Aside0.mk (Kd.R_lower (Kd.R_new' ho0 (Kd.R_lt (by (with_reducible repeat (first | apply Kd.R_alloc | apply Kd.R_drewN | apply Kd.R_drew)); exact HO271.out))) (below_size (by repeat (first | (with_reducible first | exact HB.out | apply below_alloc | apply pw_below_drewN | apply below_drew1) | exact HB.out)))); have n2_ := Aside0.mk (below_step (by repeat (first | (with_reducible first | exact HB.out | apply below_alloc | apply pw_below_drewN | apply below_drew1) | exact HB.out)) hb); clear HO271; clear HB; have HO271 := n0_; have HO276 := n1_; have HB := n2_; clear n0_ n1_ n2_; (try clear hb); (try clear hb2); (try clear hk); (try clear hi); (try clear ho0)) | ((with_reducible refine gate_callee (f := 17) rfl ?_); refine goesL_ (some 40) rfl rfl Tryd.func17 (by kernel_rfl) rfl #[.string a0, .slice A1 l1.length c1] rfl (by (try simp only [List.map_toArray, List.map_cons, List.map_nil]); first | done | rfl | (simp only [List.length_drop, List.length_take]; rfl)) ?_; (with_reducible refine (matrix_Label.calls kj3 a0 _ _ l1 t277 _ ?side1 ?side2 A13.out).mono ?_); (case side1 => repeat (first | exact (Kd.C_below HR1.out HB.out) | (with_reducible refine Kd.C_alloc ?_ _) | (with_reducible refine Kd.C_drewN ?_ _) | (with_reducible refine Kd.C_drew ?_))); (case side2 => exact HC1.out); rintro e w30 ⟨rfl, hb⟩; refine ⟨_, rfl, ?_⟩; have n0_ := Aside0.mk (Kd.R_below (by (with_reducible repeat (first | apply Kd.R_alloc | apply Kd.R_drewN | apply Kd.R_drew)); exact HO271.out) hb); have n1_ := Aside0.mk (Kd.R_below (by (with_reducible repeat (first | apply Kd.R_alloc | apply Kd.R_drewN | apply Kd.R_drew)); exact HO276.out) hb); have n2_ := Aside0.mk (below_step (by repeat (first | (with_reducible first | exact HB.out | apply below_alloc | apply pw_below_drewN | apply below_drew1) | exact HB.out)) hb); clear HO271; clear HO276; clear HB; have HO271 := n0_; have HO276 := n1_; have HB := n2_; clear n0_ n1_ n2_; (try clear hb); (try clear hb2); (try clear hk); (try clear hi)) | ((with_reducible refine gate_callee (f := 20) rfl ?_); refine goesL_ (some 43) rfl rfl Tryd.func20 (by kernel_rfl) rfl #[.string a0, .slice A1 l1.length c1] rfl (by (try simp only [List.map_toArray, List.map_cons, List.map_nil]); first | done | rfl | (simp only [List.length_drop, List.length_take]; rfl)) ?_; (with_reducible refine (bastionref14_Label.calls kj3 a0 _ _ l1 t278 _ ?side1 ?side2 A14.out).mono ?_); (case side1 => repeat (first | exact (Kd.C_below HR1.out HB.out) | (with_reducible refine Kd.C_alloc ?_ _) | (with_reducible refine Kd.C_drewN ?_ _) | (with_reducible refine Kd.C_drew ?_))); (case side2 => exact HC1.out); rintro e w31 ⟨rfl, hb⟩; refine ⟨_, rfl, ?_⟩; have n0_ := Aside0.mk (Kd.R_below (by (with_reducible repeat (first | apply Kd.R_alloc | apply Kd.R_drewN | apply Kd.R_drew)); exact HO271.out) hb); have n1_ := Aside0.mk (Kd.R_below (by (with_reducible repeat (first | apply Kd.R_alloc | apply Kd.R_drewN | apply Kd.R_drew)); exact HO276.out) hb); have n2_ := Aside0.mk (below_step (by repeat (first | (with_reducible first | exact HB.out | apply below_alloc | apply pw_below_drewN | apply below_drew1) | exact HB.out)) hb); clear HO271; clear HO276; clear HB; have HO271 := n0_; have HO276 := n1_; have HB := n2_; clear n0_ n1_ n2_; (try clear hb); (try clear hb2); (try clear hk); (try clear hi); obtain ⟨Ao32, co32, eo32⟩ := Kd.R_slice HO271.out; subst eo32; obtain ⟨Ao33, co33, eo33⟩ := Kd.R_slice HO276.out; subst eo33) | (go_at_call 21; (with_reducible refine (bastionref02_Same.calls kj3 _ _ t268 _ _ t273 false _ ?side1 ?side2 ?side3 ?side4 A18.out).mono ?_); (case side1 => repeat (first | exact (Kd.R_reads' HO271.out).2.2 | (with_reducible refine Kd.C_alloc ?_ _) | (with_reducible refine Kd.C_drewN ?_ _) | (with_reducible refine Kd.C_drew ?_))); (case side2 => exact (Kd.R_reads' HO271.out).2.1); (case side3 => repeat (first | exact (Kd.R_reads' HO276.out).2.2 | (with_reducible refine Kd.C_alloc ?_ _) | (with_reducible refine Kd.C_drewN ?_ _) | (with_reducible refine Kd.C_drew ?_))); (case side4 => exact (Kd.R_reads' HO276.out).2.1); rintro e w' ⟨rfl, ⟨nd, rfl⟩⟩))
                go_ret
                exact ⟨by first | rfl | (simp [errW_none, errW_some] <;> rfl) | (simp [*, errW_none, errW_some] <;> rfl), by repeat (first | (with_reducible first | exact HB.out | apply below_alloc | apply pw_below_drewN | apply below_drew1) | exact HB.out)⟩
            · rw [if_neg c17] at H
              have c17b0 : (t267.toList == t272.toList) = false := beq_eq_false_iff_ne.mpr c17
              have c17b1 : (t267.toList != t272.toList) = true := bne_iff_ne.mpr c17
              obtain rfl := Option.some.inj H
              go_wp2_with (first | ((with_reducible refine gate_callee (f := 18) rfl ?_); refine goesL_ (some 28) rfl rfl Tryd.func18 (by kernel_rfl) rfl #[.string a2] rfl (by (try simp only [List.map_toArray, List.map_cons, List.map_nil]); first | done | rfl | (simp only [List.length_drop, List.length_take]; rfl)) ?_; (with_reducible refine (matrix_Parse.calls kj3 a2 t267 t268 t269 _ A11.out).mono ?_); rintro e w34 ⟨v270, rfl, ho0, hb⟩; refine ⟨_, rfl, ?_⟩; have n0_ := Aside0.mk (Kd.R_lower ho0 (below_size (by repeat (first | (with_reducible first | exact HB.out | apply below_alloc | apply pw_below_drewN | apply below_drew1) | exact HB.out)))); have n1_ := Aside0.mk (below_step (by repeat (first | (with_reducible first | exact HB.out | apply below_alloc | apply pw_below_drewN | apply below_drew1) | exact HB.out)) hb); clear HB; have HO271 := n0_; have HB := n1_; clear n0_ n1_; (try clear hb); (try clear hb2); (try clear hk); (try clear hi); (try clear ho0)) | ((with_reducible refine gate_callee (f := 19) rfl ?_); refine goesL_ (some 34) rfl rfl Tryd.func19 (by kernel_rfl) rfl #[.string a2] rfl (by (try simp only [List.map_toArray, List.map_cons, List.map_nil]); first | done | rfl | (simp only [List.length_drop, List.length_take]; rfl)) ?_; (with_reducible refine (bastionref14_Parse.calls kj3 a2 t272 t273 t274 _ A12.out).mono ?_); rintro e w35 ⟨v275, rfl, ho0, hb⟩; refine ⟨_, rfl, ?_⟩; have n0_ := Aside0.mk (Kd.R_elder' (by (with_reducible repeat (first | apply Kd.R_alloc | apply Kd.R_drewN | apply Kd.R_drew)); exact HO271.out) (Kd.R_base ho0) hb); have n1_ := Aside0.mk (Kd.R_lower (Kd.R_new' ho0 (Kd.R_lt (by (with_reducible repeat (first | apply Kd.R_alloc | apply Kd.R_drewN | apply Kd.R_drew)); exact HO271.out))) (below_size (by repeat (first | (with_reducible first | exact HB.out | apply below_alloc | apply pw_below_drewN | apply below_drew1) | exact HB.out)))); have n2_ := Aside0.mk (below_step (by repeat (first | (with_reducible first | exact HB.out | apply below_alloc | apply pw_below_drewN | apply below_drew1) | exact HB.out)) hb); clear HO271; clear HB; have HO271 := n0_; have HO276 := n1_; have HB := n2_; clear n0_ n1_ n2_; (try clear hb); (try clear hb2); (try clear hk); (try clear hi); (try clear ho0)) | ((with_reducible refine gate_callee (f := 17) rfl ?_); refine goesL_ (some 40) rfl rfl Tryd.func17 (by kernel_rfl) rfl #[.string a0, .slice A1 l1.length c1] rfl (by (try simp only [List.map_toArray, List.map_cons, List.map_nil]); first | done | rfl | (simp only [List.length_drop, List.length_take]; rfl)) ?_; (with_reducible refine (matrix_Label.calls kj3 a0 _ _ l1 t277 _ ?side1 ?side2 A13.out).mono ?_); (case side1 => repeat (first | exact (Kd.C_below HR1.out HB.out) | (with_reducible refine Kd.C_alloc ?_ _) | (with_reducible refine Kd.C_drewN ?_ _) | (with_reducible refine Kd.C_drew ?_))); (case side2 => exact HC1.out); rintro e w36 ⟨rfl, hb⟩; refine ⟨_, rfl, ?_⟩; have n0_ := Aside0.mk (Kd.R_below (by (with_reducible repeat (first | apply Kd.R_alloc | apply Kd.R_drewN | apply Kd.R_drew)); exact HO271.out) hb); have n1_ := Aside0.mk (Kd.R_below (by (with_reducible repeat (first | apply Kd.R_alloc | apply Kd.R_drewN | apply Kd.R_drew)); exact HO276.out) hb); have n2_ := Aside0.mk (below_step (by repeat (first | (with_reducible first | exact HB.out | apply below_alloc | apply pw_below_drewN | apply below_drew1) | exact HB.out)) hb); clear HO271; clear HO276; clear HB; have HO271 := n0_; have HO276 := n1_; have HB := n2_; clear n0_ n1_ n2_; (try clear hb); (try clear hb2); (try clear hk); (try clear hi)) | ((with_reducible refine gate_callee (f := 20) rfl ?_); refine goesL_ (some 43) rfl rfl Tryd.func20 (by kernel_rfl) rfl #[.string a0, .slice A1 l1.length c1] rfl (by (try simp only [List.map_toArray, List.map_cons, List.map_nil]); first | done | rfl | (simp only [List.length_drop, List.length_take]; rfl)) ?_; (with_reducible refine (bastionref14_Label.calls kj3 a0 _ _ l1 t278 _ ?side1 ?side2 A14.out).mono ?_); (case side1 => repeat (first | exact (Kd.C_below HR1.out HB.out) | (with_reducible refine Kd.C_alloc ?_ _) | (with_reducible refine Kd.C_drewN ?_ _) | (with_reducible refine Kd.C_drew ?_))); (case side2 => exact HC1.out); rintro e w37 ⟨rfl, hb⟩; refine ⟨_, rfl, ?_⟩; have n0_ := Aside0.mk (Kd.R_below (by (with_reducible repeat (first | apply Kd.R_alloc | apply Kd.R_drewN | apply Kd.R_drew)); exact HO271.out) hb); have n1_ := Aside0.mk (Kd.R_below (by (with_reducible repeat (first | apply Kd.R_alloc | apply Kd.R_drewN | apply Kd.R_drew)); exact HO276.out) hb); have n2_ := Aside0.mk (below_step (by repeat (first | (with_reducible first | exact HB.out | apply below_alloc | apply pw_below_drewN | apply below_drew1) | exact HB.out)) hb); clear HO271; clear HO276; clear HB; have HO271 := n0_; have HO276 := n1_; have HB := n2_; clear n0_ n1_ n2_; (try clear hb); (try clear hb2); (try clear hk); (try clear hi)))
              go_ret
              exact ⟨by first | rfl | (simp [errW_none, errW_some] <;> rfl) | (simp [*, errW_none, errW_some] <;> rfl), by repeat (first | (with_reducible first | exact HB.out | apply below_alloc | apply pw_below_drewN | apply below_drew1) | exact HB.out)⟩
          · rw [if_neg c16] at H
            have c16b0 : (t269 == t274) = false := beq_eq_false_iff_ne.mpr c16
            have c16b1 : (t269 != t274) = true := bne_iff_ne.mpr c16
            obtain rfl := Option.some.inj H
            go_wp2_with (first | ((with_reducible refine gate_callee (f := 18) rfl ?_); refine goesL_ (some 28) rfl rfl Tryd.func18 (by kernel_rfl) rfl #[.string a2] rfl (by (try simp only [List.map_toArray, List.map_cons, List.map_nil]); first | done | rfl | (simp only [List.length_drop, List.length_take]; rfl)) ?_; (with_reducible refine (matrix_Parse.calls kj3 a2 t267 t268 t269 _ A11.out).mono ?_); rintro e w38 ⟨v270, rfl, ho0, hb⟩; refine ⟨_, rfl, ?_⟩; have n0_ := Aside0.mk (Kd.R_lower ho0 (below_size (by repeat (first | (with_reducible first | exact HB.out | apply below_alloc | apply pw_below_drewN | apply below_drew1) | exact HB.out)))); have n1_ := Aside0.mk (below_step (by repeat (first | (with_reducible first | exact HB.out | apply below_alloc | apply pw_below_drewN | apply below_drew1) | exact HB.out)) hb); clear HB; have HO271 := n0_; have HB := n1_; clear n0_ n1_; (try clear hb); (try clear hb2); (try clear hk); (try clear hi); (try clear ho0)) | ((with_reducible refine gate_callee (f := 19) rfl ?_); refine goesL_ (some 34) rfl rfl Tryd.func19 (by kernel_rfl) rfl #[.string a2] rfl (by (try simp only [List.map_toArray, List.map_cons, List.map_nil]); first | done | rfl | (simp only [List.length_drop, List.length_take]; rfl)) ?_; (with_reducible refine (bastionref14_Parse.calls kj3 a2 t272 t273 t274 _ A12.out).mono ?_); rintro e w39 ⟨v275, rfl, ho0, hb⟩; refine ⟨_, rfl, ?_⟩; have n0_ := Aside0.mk (Kd.R_elder' (by (with_reducible repeat (first | apply Kd.R_alloc | apply Kd.R_drewN | apply Kd.R_drew)); exact HO271.out) (Kd.R_base ho0) hb); have n1_ := Aside0.mk (Kd.R_lower (Kd.R_new' ho0 (Kd.R_lt (by (with_reducible repeat (first | apply Kd.R_alloc | apply Kd.R_drewN | apply Kd.R_drew)); exact HO271.out))) (below_size (by repeat (first | (with_reducible first | exact HB.out | apply below_alloc | apply pw_below_drewN | apply below_drew1) | exact HB.out)))); have n2_ := Aside0.mk (below_step (by repeat (first | (with_reducible first | exact HB.out | apply below_alloc | apply pw_below_drewN | apply below_drew1) | exact HB.out)) hb); clear HO271; clear HB; have HO271 := n0_; have HO276 := n1_; have HB := n2_; clear n0_ n1_ n2_; (try clear hb); (try clear hb2); (try clear hk); (try clear hi); (try clear ho0)) | ((with_reducible refine gate_callee (f := 17) rfl ?_); refine goesL_ (some 40) rfl rfl Tryd.func17 (by kernel_rfl) rfl #[.string a0, .slice A1 l1.length c1] rfl (by (try simp only [List.map_toArray, List.map_cons, List.map_nil]); first | done | rfl | (simp only [List.length_drop, List.length_take]; rfl)) ?_; (with_reducible refine (matrix_Label.calls kj3 a0 _ _ l1 t277 _ ?side1 ?side2 A13.out).mono ?_); (case side1 => repeat (first | exact (Kd.C_below HR1.out HB.out) | (with_reducible refine Kd.C_alloc ?_ _) | (with_reducible refine Kd.C_drewN ?_ _) | (with_reducible refine Kd.C_drew ?_))); (case side2 => exact HC1.out); rintro e w40 ⟨rfl, hb⟩; refine ⟨_, rfl, ?_⟩; have n0_ := Aside0.mk (Kd.R_below (by (with_reducible repeat (first | apply Kd.R_alloc | apply Kd.R_drewN | apply Kd.R_drew)); exact HO271.out) hb); have n1_ := Aside0.mk (Kd.R_below (by (with_reducible repeat (first | apply Kd.R_alloc | apply Kd.R_drewN | apply Kd.R_drew)); exact HO276.out) hb); have n2_ := Aside0.mk (below_step (by repeat (first | (with_reducible first | exact HB.out | apply below_alloc | apply pw_below_drewN | apply below_drew1) | exact HB.out)) hb); clear HO271; clear HO276; clear HB; have HO271 := n0_; have HO276 := n1_; have HB := n2_; clear n0_ n1_ n2_; (try clear hb); (try clear hb2); (try clear hk); (try clear hi)) | ((with_reducible refine gate_callee (f := 20) rfl ?_); refine goesL_ (some 43) rfl rfl Tryd.func20 (by kernel_rfl) rfl #[.string a0, .slice A1 l1.length c1] rfl (by (try simp only [List.map_toArray, List.map_cons, List.map_nil]); first | done | rfl | (simp only [List.length_drop, List.length_take]; rfl)) ?_; (with_reducible refine (bastionref14_Label.calls kj3 a0 _ _ l1 t278 _ ?side1 ?side2 A14.out).mono ?_); (case side1 => repeat (first | exact (Kd.C_below HR1.out HB.out) | (with_reducible refine Kd.C_alloc ?_ _) | (with_reducible refine Kd.C_drewN ?_ _) | (with_reducible refine Kd.C_drew ?_))); (case side2 => exact HC1.out); rintro e w41 ⟨rfl, hb⟩; refine ⟨_, rfl, ?_⟩; have n0_ := Aside0.mk (Kd.R_below (by (with_reducible repeat (first | apply Kd.R_alloc | apply Kd.R_drewN | apply Kd.R_drew)); exact HO271.out) hb); have n1_ := Aside0.mk (Kd.R_below (by (with_reducible repeat (first | apply Kd.R_alloc | apply Kd.R_drewN | apply Kd.R_drew)); exact HO276.out) hb); have n2_ := Aside0.mk (below_step (by repeat (first | (with_reducible first | exact HB.out | apply below_alloc | apply pw_below_drewN | apply below_drew1) | exact HB.out)) hb); clear HO271; clear HO276; clear HB; have HO271 := n0_; have HO276 := n1_; have HB := n2_; clear n0_ n1_ n2_; (try clear hb); (try clear hb2); (try clear hk); (try clear hi)))
            go_ret
            exact ⟨by first | rfl | (simp [errW_none, errW_some] <;> rfl) | (simp [*, errW_none, errW_some] <;> rfl), by repeat (first | (with_reducible first | exact HB.out | apply below_alloc | apply pw_below_drewN | apply below_drew1) | exact HB.out)⟩
        · rw [if_neg c15] at H
          have c15b0 : (t277.toList == t278.toList) = false := beq_eq_false_iff_ne.mpr c15
          have c15b1 : (t277.toList != t278.toList) = true := bne_iff_ne.mpr c15
          obtain rfl := Option.some.inj H
          go_wp2_with (first | ((with_reducible refine gate_callee (f := 18) rfl ?_); refine goesL_ (some 28) rfl rfl Tryd.func18 (by kernel_rfl) rfl #[.string a2] rfl (by (try simp only [List.map_toArray, List.map_cons, List.map_nil]); first | done | rfl | (simp only [List.length_drop, List.length_take]; rfl)) ?_; (with_reducible refine (matrix_Parse.calls kj3 a2 t267 t268 t269 _ A11.out).mono ?_); rintro e w42 ⟨v270, rfl, ho0, hb⟩; refine ⟨_, rfl, ?_⟩; have n0_ := Aside0.mk (Kd.R_lower ho0 (below_size (by repeat (first | (with_reducible first | exact HB.out | apply below_alloc | apply pw_below_drewN | apply below_drew1) | exact HB.out)))); have n1_ := Aside0.mk (below_step (by repeat (first | (with_reducible first | exact HB.out | apply below_alloc | apply pw_below_drewN | apply below_drew1) | exact HB.out)) hb); clear HB; have HO271 := n0_; have HB := n1_; clear n0_ n1_; (try clear hb); (try clear hb2); (try clear hk); (try clear hi); (try clear ho0)) | ((with_reducible refine gate_callee (f := 19) rfl ?_); refine goesL_ (some 34) rfl rfl Tryd.func19 (by kernel_rfl) rfl #[.string a2] rfl (by (try simp only [List.map_toArray, List.map_cons, List.map_nil]); first | done | rfl | (simp only [List.length_drop, List.length_take]; rfl)) ?_; (with_reducible refine (bastionref14_Parse.calls kj3 a2 t272 t273 t274 _ A12.out).mono ?_); rintro e w43 ⟨v275, rfl, ho0, hb⟩; refine ⟨_, rfl, ?_⟩; have n0_ := Aside0.mk (Kd.R_elder' (by (with_reducible repeat (first | apply Kd.R_alloc | apply Kd.R_drewN | apply Kd.R_drew)); exact HO271.out) (Kd.R_base ho0) hb); have n1_ := Aside0.mk (Kd.R_lower (Kd.R_new' ho0 (Kd.R_lt (by (with_reducible repeat (first | apply Kd.R_alloc | apply Kd.R_drewN | apply Kd.R_drew)); exact HO271.out))) (below_size (by repeat (first | (with_reducible first | exact HB.out | apply below_alloc | apply pw_below_drewN | apply below_drew1) | exact HB.out)))); have n2_ := Aside0.mk (below_step (by repeat (first | (with_reducible first | exact HB.out | apply below_alloc | apply pw_below_drewN | apply below_drew1) | exact HB.out)) hb); clear HO271; clear HB; have HO271 := n0_; have HO276 := n1_; have HB := n2_; clear n0_ n1_ n2_; (try clear hb); (try clear hb2); (try clear hk); (try clear hi); (try clear ho0)) | ((with_reducible refine gate_callee (f := 17) rfl ?_); refine goesL_ (some 40) rfl rfl Tryd.func17 (by kernel_rfl) rfl #[.string a0, .slice A1 l1.length c1] rfl (by (try simp only [List.map_toArray, List.map_cons, List.map_nil]); first | done | rfl | (simp only [List.length_drop, List.length_take]; rfl)) ?_; (with_reducible refine (matrix_Label.calls kj3 a0 _ _ l1 t277 _ ?side1 ?side2 A13.out).mono ?_); (case side1 => repeat (first | exact (Kd.C_below HR1.out HB.out) | (with_reducible refine Kd.C_alloc ?_ _) | (with_reducible refine Kd.C_drewN ?_ _) | (with_reducible refine Kd.C_drew ?_))); (case side2 => exact HC1.out); rintro e w44 ⟨rfl, hb⟩; refine ⟨_, rfl, ?_⟩; have n0_ := Aside0.mk (Kd.R_below (by (with_reducible repeat (first | apply Kd.R_alloc | apply Kd.R_drewN | apply Kd.R_drew)); exact HO271.out) hb); have n1_ := Aside0.mk (Kd.R_below (by (with_reducible repeat (first | apply Kd.R_alloc | apply Kd.R_drewN | apply Kd.R_drew)); exact HO276.out) hb); have n2_ := Aside0.mk (below_step (by repeat (first | (with_reducible first | exact HB.out | apply below_alloc | apply pw_below_drewN | apply below_drew1) | exact HB.out)) hb); clear HO271; clear HO276; clear HB; have HO271 := n0_; have HO276 := n1_; have HB := n2_; clear n0_ n1_ n2_; (try clear hb); (try clear hb2); (try clear hk); (try clear hi)) | ((with_reducible refine gate_callee (f := 20) rfl ?_); refine goesL_ (some 43) rfl rfl Tryd.func20 (by kernel_rfl) rfl #[.string a0, .slice A1 l1.length c1] rfl (by (try simp only [List.map_toArray, List.map_cons, List.map_nil]); first | done | rfl | (simp only [List.length_drop, List.length_take]; rfl)) ?_; (with_reducible refine (bastionref14_Label.calls kj3 a0 _ _ l1 t278 _ ?side1 ?side2 A14.out).mono ?_); (case side1 => repeat (first | exact (Kd.C_below HR1.out HB.out) | (with_reducible refine Kd.C_alloc ?_ _) | (with_reducible refine Kd.C_drewN ?_ _) | (with_reducible refine Kd.C_drew ?_))); (case side2 => exact HC1.out); rintro e w45 ⟨rfl, hb⟩; refine ⟨_, rfl, ?_⟩; have n0_ := Aside0.mk (Kd.R_below (by (with_reducible repeat (first | apply Kd.R_alloc | apply Kd.R_drewN | apply Kd.R_drew)); exact HO271.out) hb); have n1_ := Aside0.mk (Kd.R_below (by (with_reducible repeat (first | apply Kd.R_alloc | apply Kd.R_drewN | apply Kd.R_drew)); exact HO276.out) hb); have n2_ := Aside0.mk (below_step (by repeat (first | (with_reducible first | exact HB.out | apply below_alloc | apply pw_below_drewN | apply below_drew1) | exact HB.out)) hb); clear HO271; clear HO276; clear HB; have HO271 := n0_; have HO276 := n1_; have HB := n2_; clear n0_ n1_ n2_; (try clear hb); (try clear hb2); (try clear hk); (try clear hi)))
          go_ret
          exact ⟨by first | rfl | (simp [errW_none, errW_some] <;> rfl) | (simp [*, errW_none, errW_some] <;> rfl), by repeat (first | (with_reducible first | exact HB.out | apply below_alloc | apply pw_below_drewN | apply below_drew1) | exact HB.out)⟩

/-! ### bastionlaw14_MatrixNames: function 6 -/
theorem C_strs {W : World} {b : Nat} {cs : List ByteArray} (h : W.heap[b]? = some (strCs cs)) (n : Nat) (hn : n ≤ cs.length) (hl : n ≤ 1000000) : Kd.C Kd.string W (some ⟨b, 0, none⟩) (cs.take n).length (cs.take n) := by
  have hlen : (cs.take n).length = n := by rw [List.length_take]; omega
  refine Kd.C_of_reads (d := ByteArray.empty) ⟨rfl, by omega, fun _ => ⟨_, rfl, fun j hj => ?_⟩⟩
  rw [add_plain, strCs_cell h j (by omega), List.getD_eq_getElem?_getD, List.getD_eq_getElem?_getD, List.getElem?_take, if_pos (by omega)]
theorem C_axes {W : World} {l : List S49} {inner : List Value} (hr : Reps (k49.K W) 2 l inner) (hm : l.length ≤ 9223372036854775807) : Kd.C k49 (W.alloc (.cells inner.toArray 49)) (some ⟨W.heap.size, 0, none⟩) l.length l := by
  obtain ⟨A, c, e, _, h⟩ := (OwnRow.lit (e := 49) (size := 2) W 0 hr (Nat.zero_le _) hm).reads
  injection e with e1 _ _
  rw [e1]
  exact ReadsRow.imp_ h (Below.refl _ _) (fun p cs hp => k49.K_below (below_alloc (Below.refl _ _) _) hp)
theorem ax_one {W : World} (x : S49) {A : Option Addr} {c : Nat} (l1 : x.f1.length ≤ c) (g1 : Kd.string.C W A x.f1.length x.f1) : Reps (k49.K W) 2 [x] [.string x.f0, .slice A x.f1.length c] :=
  Reps.snoc (Reps.none _ _) (k49_mk W x l1 g1) rfl
theorem ax_two {W : World} (x y : S49) {A B : Option Addr} {c d : Nat} (l1 : x.f1.length ≤ c) (g1 : Kd.string.C W A x.f1.length x.f1) (l2 : y.f1.length ≤ d) (g2 : Kd.string.C W B y.f1.length y.f1) : Reps (k49.K W) 2 [x, y] [.string x.f0, .slice A x.f1.length c, .string y.f0, .slice B y.f1.length d] :=
  Reps.snoc (Reps.snoc (Reps.none _ _) (k49_mk W x l1 g1) rfl) (k49_mk W y l2 g2) rfl
theorem C_none (W : World) : Kd.C k49 W none 0 [] := ⟨rfl, by simp, fun h => absurd h (by simp)⟩
def five : List ByteArray := [⟨#[49]⟩, ⟨#[50]⟩, ⟨#[51]⟩, ⟨#[52]⟩, ⟨#[53]⟩]
def os_ : ByteArray := ⟨#[111, 115]⟩
theorem ev1 : matrix_Rows.f [⟨os_, five⟩, ⟨os_, five⟩] = some ([], 6) := by decide +kernel
theorem ev2 : matrix_Rows.f [⟨os_, []⟩] = some ([], 1) := by decide +kernel
theorem ev3 : matrix_Rows.f [⟨⟨#[97]⟩, five⟩, ⟨⟨#[98]⟩, five⟩] = some ([], 3) := by decide +kernel
theorem ev4 : (matrix_Rows.f [⟨⟨#[97]⟩, five.take 4⟩, ⟨⟨#[98]⟩, five ++ [⟨#[54]⟩]⟩]).map (fun p => (p.1.length, p.2)) = some (24, 0) := by decide +kernel
theorem ev5 : matrix_Rows.f [] = some ([[]], 0) := by decide +kernel
theorem ev6 : matrix_Parse.f 100 ⟨#[97, 92, 98]⟩ = some (⟨#[]⟩, [], 4) := by decide +kernel
theorem ev7 : matrix_Parse.f 100 ⟨#[97, 58]⟩ = some (⟨#[97]⟩, [⟨#[]⟩], 0) := by decide +kernel
theorem ev8 : matrix_Parse.f 100 ⟨#[97, 92]⟩ = some (⟨#[]⟩, [], 4) := by decide +kernel
theorem ev9 : matrix_Parse.f 100 ⟨#[97, 58, 98, 58, 99]⟩ = some (⟨#[97]⟩, [⟨#[98, 58, 99]⟩], 0) := by decide +kernel
theorem ev10 : matrix_Parse.f 100 ⟨#[97, 58, 92, 58]⟩ = some (⟨#[]⟩, [], 4) := by decide +kernel
theorem ev11 : matrix_Label.f 100 ⟨#[97, 58, 98]⟩ [⟨#[99, 44, 100]⟩, ⟨#[101, 92]⟩] = some ⟨#[97, 92, 58, 98, 58, 99, 92, 44, 100, 44, 101, 92, 92]⟩ := by decide +kernel
theorem ev12 : bastionlaw14_awake.f 100 = some true := by decide +kernel
theorem C_five {W : World} {b : Nat} (h : W.heap[b]? = some (strCs five)) : Kd.C Kd.string W (some ⟨b, 0, none⟩) five.length five := C_strs h 5 (by decide) (by decide)
theorem two_C {W : World} {b : Nat} (x y : ByteArray) (h : W.heap[b]? = some (strCs five)) : Kd.C k49 (W.alloc (.cells #[.string x, .slice (some ⟨b, 0, none⟩) 5 5, .string y, .slice (some ⟨b, 0, none⟩) 5 5] 49)) (some ⟨W.heap.size, 0, none⟩) 2 [⟨x, five⟩, ⟨y, five⟩] :=
  C_axes (ax_two (c := 5) (d := 5) ⟨x, five⟩ ⟨y, five⟩ (Nat.le_refl 5) (C_five h) (Nat.le_refl 5) (C_five h)) (by simp)
theorem none_C {W : World} (x : ByteArray) : Kd.C k49 (W.alloc (.cells #[.string x, .slice none 0 0] 49)) (some ⟨W.heap.size, 0, none⟩) 1 [⟨x, []⟩] :=
  C_axes (ax_one (c := 0) ⟨x, []⟩ (Nat.le_refl 0) ⟨rfl, by simp, fun h => absurd h (by simp)⟩) (by simp)
section
variable {P : Program} {ops : Array Oper} {o : Oper} {a : Act} {Q : Exit → Act → World → Prop} {Kc : Act → World → Prop}
theorem app_step {W w1 : World} {v1 s' x' : Value} (hw : Region.wanted o (yielded ops a.tmps) = true) (s x : Operand) (t : TypeId) (ho : o.op = .call { callee := .builtin .append, args := #[s, x], argTypes := #[t, t] }) (hs : a.eval s = s') (hx : a.eval x = x') (hrun : (Builtin.append_ #[t, t] o.type #[s', x']).run P W = .ok v1 w1) (h : Kc (a.put o.dst v1) w1) :
    if Region.wanted o (yielded ops a.tmps) = true then Oper.wp P o a W Kc Q else Kc (a.put o.dst undef) W := by
  rw [if_pos hw]
  unfold Oper.wp execOp
  simp only [ho, resolve, invoke, builtin, Sem.run_bind, Sem.run_pure, Result.andThen_ok, List.map_toArray, List.map_cons, List.map_nil, hs, hx, hrun]
  exact h
end
theorem strs_at {W : World} {b : Nat} {cs : List ByteArray} (h : W.heap[b]? = some (strCs cs)) : ∀ (j : Nat) (v : Value), (cs.map Value.string)[j]? = some v → W.cell? ((⟨b, 0, none⟩ : Addr).add j) = some v := by
  intro j v hv
  rw [add_plain, blk_cell h j]
  simpa using hv
theorem run6 {W : World} {b d : Nat} (hb : W.heap[b]? = some (strCs five)) (hd : W.heap[d]? = some (strCs [⟨#[54]⟩])) : ∃ z, (Builtin.append_ #[23, 23] 23 #[.slice (some ⟨b, 0, none⟩) 5 5, .slice (some ⟨d, 0, none⟩) 1 1]).run Tryd.prog W = .ok (.slice (some ⟨W.heap.size, 0, none⟩) 6 (grownCap W 6 5 9)) (W.drew.alloc (.cells ((five.map Value.string).toArray ++ ([⟨#[54]⟩].map Value.string).toArray ++ z) 9)) := by
  obtain ⟨i, hi, hq⟩ := Option.map_eq_some_iff.1 info9
  simp only [Prod.mk.injEq] at hq
  obtain ⟨hz, hs, hk⟩ := hq
  have h63 : ((5 + 1 : Nat) : Int) ≤ 9223372036854775807 := by omega
  have hfit : Builtin.nextslicecap (5 + 1) 5 * i.bytes ≤ 281474976710656 := growslice_fits (by omega) (by rw [hk]; omega)
  have hl5 : (five.map Value.string).length = 5 * i.size := by rw [hs]; rfl
  have hl1 : ([(⟨#[54]⟩ : ByteArray)].map Value.string).length = 1 * i.size := by rw [hs]; rfl
  have h := run_append_grow W 23 23 9 i _ Tryd.underlying23 hi hz ⟨b, 0, none⟩ 5 5 (five.map Value.string) hl5 (strs_at hb) ⟨d, 0, none⟩ 1 1 ([(⟨#[54]⟩ : ByteArray)].map Value.string) hl1 (strs_at hd) (by omega) h63 hfit
  exact ⟨_, h⟩
theorem C_six {W : World} {g : Nat} {z : Array Value} (h : W.heap[g]? = some (.cells ((five.map Value.string).toArray ++ ([⟨#[54]⟩].map Value.string).toArray ++ z) 9 (0, 0))) : Kd.C Kd.string W (some ⟨g, 0, none⟩) 6 (five ++ [⟨#[54]⟩]) :=
  Kd.C_of_reads (d := ByteArray.empty) ⟨rfl, by decide, fun _ => ⟨_, rfl, fun j hj => by
    rw [add_plain, blk_cell h j]
    obtain ⟨z⟩ := z
    match j, hj with
    | 0, _ => simp [five]
    | 1, _ => simp [five]
    | 2, _ => simp [five]
    | 3, _ => simp [five]
    | 4, _ => simp [five]
    | 5, _ => simp [five]⟩⟩
theorem C_four {W : World} {b : Nat} (h : W.heap[b]? = some (strCs five)) : Kd.C Kd.string W (some ⟨b, 0, none⟩) (five.take 4).length (five.take 4) := C_strs h 4 (by decide) (by decide)
theorem four_C {W : World} {b g : Nat} {z : Array Value} {n : Nat} (h : W.heap[b]? = some (strCs five)) (h' : W.heap[g]? = some (.cells ((five.map Value.string).toArray ++ ([⟨#[54]⟩].map Value.string).toArray ++ z) 9 (0, 0))) (hn : 6 ≤ n) : Kd.C k49 (W.alloc (.cells #[.string ⟨#[97]⟩, .slice (some ⟨b, 0, none⟩) 4 5, .string ⟨#[98]⟩, .slice (some ⟨g, 0, none⟩) 6 n] 49)) (some ⟨W.heap.size, 0, none⟩) 2 [⟨⟨#[97]⟩, five.take 4⟩, ⟨⟨#[98]⟩, five ++ [⟨#[54]⟩]⟩] :=
  C_axes (ax_two (c := 5) (d := n) ⟨⟨#[97]⟩, five.take 4⟩ ⟨⟨#[98]⟩, five ++ [⟨#[54]⟩]⟩ (show (five.take 4).length ≤ 5 by decide) (C_four h) (show (five ++ [(⟨#[54]⟩ : ByteArray)]).length ≤ n from hn) (C_six h')) (by simp)
theorem row0 {W : World} {A : Option Addr} (h : Kd.C (Kd.slice 9 Kd.string) W A 1 [[]]) : ∃ ad A0 c0, A = some ad ∧ W.cell? ad = some (.slice A0 0 c0) := by
  obtain ⟨ad, c, e, _, hK, hc0⟩ := Kd.C_get h ([] : List ByteArray) 0 (by omega) (by omega)
  have hc : ∀ j u, c[j]? = some u → W.cell? (ad.add (0 * 1 + j)) = some u := hc0
  obtain ⟨A0, c0, rfl, _, _⟩ := hK
  exact ⟨ad, A0, c0, e, by have hq := hc 0 _ rfl; rw [Nat.zero_mul, Nat.add_zero] at hq; exact hq⟩
theorem str0 {W : World} {A : Option Addr} {s : ByteArray} (h : Kd.C Kd.string W A 1 [s]) : ∃ ad, A = some ad ∧ W.cell? ad = some (.string s) := by
  obtain ⟨ad, c, e, _, hK, hc0⟩ := Kd.C_get h ByteArray.empty 0 (by omega) (by omega)
  have hc : ∀ j u, c[j]? = some u → W.cell? (ad.add (0 * 1 + j)) = some u := hc0
  have hK' : c = [.string s] := hK
  subst hK'
  exact ⟨ad, e, by have hq := hc 0 _ rfl; rw [Nat.zero_mul, Nat.add_zero] at hq; exact hq⟩
def bastionlaw14_MatrixNames.f : Option Bool := some true
def bastionlaw14_MatrixNames.Pure : Prop := bastionlaw14_MatrixNames.f = some true
def bastionlaw14_MatrixNames.Post (w : World) (e : Ending) (w' : World) : Prop := e = .returned (.bool true) ∧ Below w.heap.size w w'
set_option maxHeartbeats 8000000 in
set_option maxRecDepth 100000 in
theorem bastionlaw14_MatrixNames.walk (w : World) : Calls Tryd.prog 6 #[] w (bastionlaw14_MatrixNames.Post w) := by
  obtain ⟨⟨r4, e4⟩, hr4, hl4⟩ := Option.map_eq_some_iff.1 ev4
  obtain ⟨l4, rfl⟩ := Prod.mk.inj hl4
  have E4 := Aside0.mk hr4
  have L4 := Aside0.mk l4
  clear hr4 l4 hl4
  go_enter Tryd.func6, Tryd.ntmps6
  go_wp2_with fail
  go_goals
  have hf0 : (w.alloc (strCs five)).heap[w.heap.size]? = some (strCs five) := blk_new w _
  refine (matrix_Rows.calls (some ⟨w.heap.size + 1, 0, none⟩) 2 [⟨os_, five⟩, ⟨os_, five⟩] [] 6 _ (by have h := two_C os_ os_ hf0; rw [World.size_alloc] at h; exact h) (by decide) ev1).mono ?_
  rintro e u1 ⟨v1, rfl, hS1, hb1⟩
  have HB := Aside0.mk ((((Below.refl w.heap.size w).alloc (Nat.le_refl _) _).alloc (by simp) _).trans (hb1.mono (by simp; omega)))
  have HF := Aside0.mk (blk_below (blk_below hf0 (below_alloc (Below.refl _ _) _)) hb1)
  clear hS1 hb1 hf0
  go_wp2_with fail
  go_goals
  have HB0 := HB; clear HB
  refine (matrix_Rows.calls (some ⟨u1.heap.size, 0, none⟩) 1 [⟨os_, []⟩] [] 1 _ (none_C os_) (by decide) ev2).mono ?_
  rintro e u2 ⟨v2, rfl, hS2, hb2⟩
  have HB := Aside0.mk (HB0.out.trans (((Below.refl u1.heap.size u1).alloc (Nat.le_refl _) _).trans (hb2.mono (by simp))|>.mono HB0.out.size))
  have HF2 := Aside0.mk (blk_below (blk_below HF.out (below_alloc (Below.refl _ _) _)) hb2)
  clear hS2 hb2 HB0 HF
  go_wp2_with fail
  go_goals
  have HB0 := HB; clear HB
  refine (matrix_Rows.calls (some ⟨u2.heap.size, 0, none⟩) 2 [⟨⟨#[97]⟩, five⟩, ⟨⟨#[98]⟩, five⟩] [] 3 _ (two_C _ _ HF2.out) (by decide) ev3).mono ?_
  rintro e u3 ⟨v3, rfl, hS3, hb3⟩
  have HB := Aside0.mk (HB0.out.trans (((Below.refl u2.heap.size u2).alloc (Nat.le_refl _) _).trans (hb3.mono (by simp))|>.mono HB0.out.size))
  have HF := Aside0.mk (blk_below (blk_below HF2.out (below_alloc (Below.refl _ _) _)) hb3)
  clear hS3 hb3 HB0 HF2
  go_wp2_with fail
  have hd6 : (u3.alloc (.cells #[.string ⟨#[54]⟩] 9)).drew.heap[u3.heap.size]? = some (strCs [⟨#[54]⟩]) := blk_new u3 _
  have hf6 : (u3.alloc (.cells #[.string ⟨#[54]⟩] 9)).drew.heap[w.heap.size]? = some (strCs five) := blk_below HF.out (below_drew (below_alloc (Below.refl _ _) _))
  obtain ⟨z, hr6⟩ := run6 hf6 hd6
  have hb6 : Below u3.heap.size u3 (((u3.alloc (.cells #[.string ⟨#[54]⟩] 9)).drew.drew.alloc (.cells ((five.map Value.string).toArray ++ ([⟨#[54]⟩].map Value.string).toArray ++ z) 9))) := below_alloc (below_drew (below_drew (below_alloc (Below.refl _ _) _))) _
  have hs6 : (u3.alloc (.cells #[.string ⟨#[54]⟩] 9)).drew.heap.size = u3.heap.size + 1 := by simp
  rw [hs6] at hr6
  have hg6 : (((u3.alloc (.cells #[.string ⟨#[54]⟩] 9)).drew.drew.alloc (.cells ((five.map Value.string).toArray ++ ([⟨#[54]⟩].map Value.string).toArray ++ z) 9))).heap[u3.heap.size + 1]? = some (.cells ((five.map Value.string).toArray ++ ([⟨#[54]⟩].map Value.string).toArray ++ z) 9 (0, 0)) := by
    have h := blk_new (u3.alloc (.cells #[.string ⟨#[54]⟩] 9)).drew.drew (.cells ((five.map Value.string).toArray ++ ([⟨#[54]⟩].map Value.string).toArray ++ z) 9)
    rw [show (u3.alloc (.cells #[.string ⟨#[54]⟩] 9)).drew.drew.heap.size = u3.heap.size + 1 by simp] at h
    exact h
  obtain ⟨n6, hn6⟩ : ∃ n, n = grownCap (u3.alloc (.cells #[.string ⟨#[54]⟩] 9)).drew 6 5 9 := ⟨_, rfl⟩
  have hc6 : 6 ≤ n6 := by rw [hn6]; exact grownCap_ge _ _ _ _
  rw [← hn6] at hr6
  clear hn6
  obtain ⟨u6, hu6⟩ : ∃ u, u = (((u3.alloc (.cells #[.string ⟨#[54]⟩] 9)).drew.drew.alloc (.cells ((five.map Value.string).toArray ++ ([⟨#[54]⟩].map Value.string).toArray ++ z) 9))) := ⟨_, rfl⟩
  rw [← hu6] at hr6 hb6 hg6
  clear hu6
  have HR6 := Aside0.mk hr6
  have HB6 := Aside0.mk hb6
  have HG6 := Aside0.mk hg6
  clear hr6 hb6 hg6 hd6 hf6 hs6
  go_region_held3 (fun _ => True) (first | trivial | go_keep)
    (first
      | (refine app_step (by rfl) (.tmp 56) (.tmp 57) 23 rfl rfl rfl HR6.out ?_)
      | (go_at_call 12
         refine (matrix_Rows.calls (some ⟨u6.heap.size, 0, none⟩) 2 [⟨⟨#[97]⟩, five.take 4⟩, ⟨⟨#[98]⟩, five ++ [⟨#[54]⟩]⟩] r4 0 _ (four_C (blk_below HF.out HB6.out) HG6.out hc6) (by simp) E4.out).mono ?_
         rintro e u7 ⟨v4, rfl, hS4, hb4⟩
         have HB7 := Aside0.mk (below_then (below_then HB.out HB.out.size HB6.out) (Nat.le_trans HB.out.size HB6.out.size) (below_then (below_alloc (Below.refl _ _) _) (by simp) hb4))
         obtain ⟨A4, c4, rfl⟩ := Kd.S_slice hS4
         rw [L4.out]
         clear hS4 hb4)
      | fail)
  clear HB HF HR6 HB6 HG6 hc6
  have HB := HB7; clear HB7
  go_wp2_with fail
  go_goals
  have HB0 := HB; clear HB
  refine (matrix_Rows.calls none 0 [] [[]] 0 _ (C_none _) (Nat.le_refl _) ev5).mono ?_
  rintro e u8 ⟨v5, rfl, hS5, hb5⟩
  have HB := Aside0.mk (below_then HB0.out HB0.out.size hb5)
  obtain ⟨A5, c5, rfl, _, hC5⟩ := Kd.S_reads hS5
  obtain ⟨a5, A50, c50, rfl, hc5⟩ := row0 hC5
  clear hS5 hC5 HB0 hb5
  go_wp2_with fail
  go_goals
  have HB0 := HB; clear HB
  refine (matrix_Parse.calls 100 ⟨#[97, 92, 98]⟩ ⟨#[]⟩ [] 4 _ ev6).mono ?_
  rintro e u9 ⟨p9, rfl, hR9, hb9⟩
  have HB := Aside0.mk (below_then HB0.out HB0.out.size hb9)
  have hc5' := pw_cell_below hb9 hc5; clear hc5; have hc5 := hc5'; clear hc5'
  clear hR9 HB0 hb9
  go_wp2_with fail
  go_goals
  have HB0 := HB; clear HB
  refine (matrix_Parse.calls 100 ⟨#[97, 58]⟩ ⟨#[97]⟩ [⟨#[]⟩] 0 _ ev7).mono ?_
  rintro e u10 ⟨p10, rfl, hR10, hb10⟩
  have HB := Aside0.mk (below_then HB0.out HB0.out.size hb10)
  have hc5' := pw_cell_below hb10 hc5; clear hc5; have hc5 := hc5'; clear hc5'
  obtain ⟨A10, c10, rfl, _, hC10⟩ := Kd.R_reads hR10
  obtain ⟨a10, rfl, hc10⟩ := str0 hC10
  clear hC10
  clear hR10 HB0 hb10
  go_wp2_with fail
  go_goals
  have HB0 := HB; clear HB
  refine (matrix_Parse.calls 100 ⟨#[97, 92]⟩ ⟨#[]⟩ [] 4 _ ev8).mono ?_
  rintro e u11 ⟨p11, rfl, hR11, hb11⟩
  have HB := Aside0.mk (below_then HB0.out HB0.out.size hb11)
  have hc5' := pw_cell_below hb11 hc5; clear hc5; have hc5 := hc5'; clear hc5'
  have hc10' := pw_cell_below hb11 hc10; clear hc10; have hc10 := hc10'; clear hc10'
  clear hR11 HB0 hb11
  go_wp2_with fail
  go_goals
  have HB0 := HB; clear HB
  refine (matrix_Parse.calls 100 ⟨#[97, 58, 98, 58, 99]⟩ ⟨#[97]⟩ [⟨#[98, 58, 99]⟩] 0 _ ev9).mono ?_
  rintro e u12 ⟨p12, rfl, hR12, hb12⟩
  have HB := Aside0.mk (below_then HB0.out HB0.out.size hb12)
  have hc5' := pw_cell_below hb12 hc5; clear hc5; have hc5 := hc5'; clear hc5'
  have hc10' := pw_cell_below hb12 hc10; clear hc10; have hc10 := hc10'; clear hc10'
  obtain ⟨A12, c12, rfl, _, hC12⟩ := Kd.R_reads hR12
  obtain ⟨a12, rfl, hc12⟩ := str0 hC12
  clear hC12
  clear hR12 HB0 hb12
  go_wp2_with fail
  go_goals
  have HB0 := HB; clear HB
  refine (matrix_Parse.calls 100 ⟨#[97, 58, 92, 58]⟩ ⟨#[]⟩ [] 4 _ ev10).mono ?_
  rintro e u13 ⟨p13, rfl, hR13, hb13⟩
  have HB := Aside0.mk (below_then HB0.out HB0.out.size hb13)
  have hc5' := pw_cell_below hb13 hc5; clear hc5; have hc5 := hc5'; clear hc5'
  have hc10' := pw_cell_below hb13 hc10; clear hc10; have hc10 := hc10'; clear hc10'
  have hc12' := pw_cell_below hb13 hc12; clear hc12; have hc12 := hc12'; clear hc12'
  clear hR13 HB0 hb13
  go_wp2_with (first
    | (go_at_call 17; refine (matrix_Label.calls 100 ⟨#[97, 58, 98]⟩ (some ⟨u13.heap.size, 0, none⟩) 2 [⟨#[99, 44, 100]⟩, ⟨#[101, 92]⟩] _ _ (C_strs (cs := [⟨#[99, 44, 100]⟩, ⟨#[101, 92]⟩]) (blk_new u13 _) 2 (by decide) (by decide)) (by decide) ev11).mono ?_; rintro e u14 ⟨rfl, hb14⟩; have HB1 := Aside0.mk (below_then (below_alloc HB.out _) (by have := HB.out.size; simp; omega) hb14); clear hb14)
    | (go_at_call 10; refine (bastionlaw14_awake.calls 100 true _ ev12).mono ?_; rintro e u15 ⟨rfl, hb15⟩; have HB2 := Aside0.mk (below_then HB1.out HB1.out.size hb15); clear hb15)
    | fail)
  go_ret
  exact ⟨rfl, HB2.out⟩
theorem bastionlaw14_MatrixNames.calls  (r : Bool) (w : World) (h : bastionlaw14_MatrixNames.f  = some r) :
    Calls Tryd.prog 6 #[] w fun e w' => e = .returned (.bool r) ∧ Below w.heap.size w w' := by
  injection h with h
  subst h
  exact bastionlaw14_MatrixNames.walk w

end Go.Proofs.YtifgdhmbjlfnhaaDoor.M
