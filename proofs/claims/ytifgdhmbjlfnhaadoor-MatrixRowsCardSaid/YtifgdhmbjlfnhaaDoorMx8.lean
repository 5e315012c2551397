-- Written by wip/xprint.py: the kit's print with functions proved by hand in their places. Not trusted: Lean checks it.
import Derived.Test.YtifgdhmbjlfnhaaDoorMx0
import Derived.Test.YtifgdhmbjlfnhaaDoorMx2
import Derived.Test.YtifgdhmbjlfnhaaDoorMx3
import Derived.Test.YtifgdhmbjlfnhaaDoorMx4
import Derived.Test.YtifgdhmbjlfnhaaDoorMx5
import Derived.Test.YtifgdhmbjlfnhaaDoorMx6
import Derived.Test.YtifgdhmbjlfnhaaDoorMx7
namespace Go.Proofs.YtifgdhmbjlfnhaaDoor.M
open Go.RowKit Go.Proofs.YtifgdhmbjlfnhaaDoorW.PrintWords Go.Proofs.YtifgdhmbjlfnhaaDoorW.PrintLast Go.Proofs.YtifgdhmbjlfnhaaDoorW.PrintMore
attribute [local go_sem] max2_int min2_int max_two min_two max_three min_three max_four min_four   -- for this text's walks alone
set_option linter.unusedVariables false
set_option linter.unusedSimpArgs false

/-! ### bastionref14_Vars: function 16 -/
def bastionref14_Vars.l0 : Nat → List (S42) → List ByteArray → List (S39) → Int → Option ((List (S39)))
  | 0, _, _, _, _ => none
  | k + 1, x0, x1, x5, x6 => if x6 < (x0.length : Int) then (if x6 < (x1.length : Int) then (if 0 ≤ x6 then (if x5.length < 4398046511104 then (bastionref14_Vars.l0 k x0 x1 (x5 ++ [(⟨(rd_T42 x0 x6).f0, rdOf ByteArray.empty x1 x6⟩ : S39)]) (wrap64 (x6 + 1))) else (none)) else (none)) else (some x5)) else (some x5)
def bastionref14_Vars.f (k : Nat) (l0 : List (S42)) (l1 : List ByteArray) : Option ((List (S39))) := bastionref14_Vars.l0 k l0 l1 ([] : List (S39)) 0
theorem bastionref14_Vars.mono_l : ∀ k, (∀ y0 y1 y2 y3, LeO (bastionref14_Vars.l0 k y0 y1 y2 y3) (bastionref14_Vars.l0 (k + 1) y0 y1 y2 y3))
  | 0 => fun _ _ _ _ r h => by simp [bastionref14_Vars.l0] at h
  | k + 1 => by
    have ih0 := bastionref14_Vars.mono_l k
    · intro y0 y1 y2 y3
      unfold bastionref14_Vars.l0
      repeat' first
      | (with_reducible exact ih0 _ _ _ _)
      | (with_reducible exact LeO.refl _)
      | (with_reducible exact LeO.none _)
      | (with_reducible refine LeO.ite ?_ ?_)
      | (with_reducible refine LeO.bind ?_ (fun _ => ?_))
      | exact ih0 _ _ _ _
      | exact LeO.none _
      | refine LeO.ite ?_ ?_
      | refine LeO.bind ?_ (fun _ => ?_)
theorem bastionref14_Vars.mono : ∀ a0 a1 k, LeO (bastionref14_Vars.f k a0 a1) (bastionref14_Vars.f (k + 1) a0 a1) := by
  intro a0 a1 k
  have ih0 := bastionref14_Vars.mono_l k
  unfold bastionref14_Vars.f
  repeat' first
      | (with_reducible exact ih0 _ _ _ _)
      | (with_reducible exact LeO.refl _)
      | (with_reducible exact LeO.none _)
      | (with_reducible refine LeO.ite ?_ ?_)
      | (with_reducible refine LeO.bind ?_ (fun _ => ?_))
      | exact ih0 _ _ _ _
      | exact LeO.none _
      | refine LeO.ite ?_ ?_
      | refine LeO.bind ?_ (fun _ => ?_)
def bastionref14_Vars.T5 : Bool × List (List Nat × List Nat) := (true, [([], []), ([], []), ([], []), ([1, 2], [1, 2]), ([3], [3]), ([4], [4]), ([], []), ([], []), ([6, 7], [6, 7]), ([8], [8]), ([5, 9], [5, 9]), ([10], [10]), ([0, 11], [0, 11]), ([12, 12, 0, 1, 2, 3, 4, 5, 6, 7, 8, 9, 10, 11, 12], [0, 12])])
def bastionref14_Vars.B5 : List Nat := [0, 0, 0, 6, 14, 30, 0, 0, 192, 448, 1022, 2046, 4095, 8191]
theorem bastionref14_Vars.tab5 : rtab .any (opsOf Tryd.f16 5) = bastionref14_Vars.T5 := by kernel_rfl
theorem bastionref14_Vars.bits5 : waitsOk bastionref14_Vars.T5.2 bastionref14_Vars.B5 = true := by kernel_rfl
set_option maxHeartbeats 8000000 in
set_option maxRecDepth 100000 in
theorem bastionref14_Vars.calls (k : Nat) (A0 : Option Addr) (c0 : Nat) (l0 : List (S42)) (A1 : Option Addr) (c1 : Nat) (l1 : List ByteArray) (r : List (S39)) (w : World) (hr0 : Kd.C k42 w A0 l0.length l0) (hc0 : l0.length ≤ c0) (hr1 : Kd.C Kd.string w A1 l1.length l1) (hc1 : l1.length ≤ c1) (h : bastionref14_Vars.f k l0 l1 = some r) :
    Calls Tryd.prog 16 #[.slice A0 l0.length c0, .slice A1 l1.length c1] w fun e w' => ∃ v0_ : Value, e = .returned (v0_) ∧ Kd.R k39 39 w' w.heap.size (fun _ => True) v0_ r ∧ Below w.heap.size w w' := by
  have hu39 := Tryd.underlying39
  have HR0 := Aside0.mk hr0
  have HC0 := Aside0.mk hc0
  clear hr0 hc0
  have HR1 := Aside0.mk hr1
  have HC1 := Aside0.mk hc1
  clear hr1 hc1
  have HB := Aside0.mk (Below.refl w.heap.size w)
  have H : (bastionref14_Vars.l0 k l0 l1 ([] : List (S39)) 0) = some r := h
  clear h
  have H' := Aside0.mk H
  clear H
  go_enter Tryd.func16, Tryd.ntmps16
  go_wp2
  go_loopg [5, 6] k (fun kq v5 v6 w' => ∃ (x5_1 : List (S39)) (x6_1 : Int), v6 = .int .i64 x6_1 ∧ Aside0 (bastionref14_Vars.l0 kq l0 l1 x5_1 x6_1 = some r) ∧ Aside0 (kq ≤ k) ∧ Aside0 (Kd.R k39 39 w' w.heap.size (fun _ => True) v5 x5_1) ∧ Aside0 (Below w.heap.size w w'))
  case atStart => exact ⟨(([] : List (S39))), (0), (by first | rfl | (simp; done) | (simp [*]; done)), H', ⟨Nat.le_refl _⟩, ⟨by first | exact Kd.R_nil _ _ _ _ _ | exact Kd.N_nil _ _ _ _ _ | exact Kd.V_nil _ _ _ _ _ | exact Kd.Q_nil _ _ _ _ _ | exact Kd.S_nil _ _ _ _ _⟩, ⟨by repeat (first | (with_reducible first | exact HB.out | apply below_alloc | apply pw_below_drewN | apply below_drew1) | exact HB.out)⟩⟩
  case round =>
    clear H'
    try clear c1
    try clear p2
    obtain ⟨x5_1, x6_1, rfl, HA, HK1, HO_5, HB⟩ := hrel
    cases gk with
    | zero => exact absurd HA.out (by simp [bastionref14_Vars.l0])
    | succ k1 =>
      have H := HA.out
      clear HA
      simp only [bastionref14_Vars.l0] at H
      by_cases c3 : x6_1 < (l0.length : Int)
      · rw [if_pos c3] at H
        have c3b0 : decide (x6_1 < (l0.length : Int)) = true := decide_eq_true c3
        clear c3
        by_cases c4 : x6_1 < (l1.length : Int)
        · rw [if_pos c4] at H
          have c4b0 : decide (x6_1 < (l1.length : Int)) = true := decide_eq_true c4
          clear c4
          by_cases c5 : 0 ≤ x6_1
          · rw [if_pos c5] at H
            have c5b0 : decide (0 ≤ x6_1) = true := decide_eq_true c5
            clear c5
            by_cases c6 : x5_1.length < 4398046511104
            · rw [if_pos c6] at H
              have LMc6 := Aside0.mk c6
              clear c6
              obtain ⟨y169, hy169⟩ : ∃ y_ : List (S39), y_ = (x5_1 ++ [(⟨(rd_T42 l0 x6_1).f0, rdOf ByteArray.empty l1 x6_1⟩ : S39)]) := ⟨_, rfl⟩
              replace H : (bastionref14_Vars.l0 k1 l0 l1 y169 (wrap64 (x6_1 + 1))) = some r := by first | (rw [hy169]; with_reducible exact H) | (have H2_ := (Option.bind_some _ _).symm.trans H; rw [hy169]; with_reducible exact H2_) | (have H2_ := (Option.bind_some _ _).symm.trans H; with_reducible exact H2_) | with_reducible exact H | (rw [hy169]; exact H) | exact H
              have Ny169 := Aside0.mk hy169
              clear hy169
              have H' := Aside0.mk H
              clear H
              try go_wp2
              have n0_ := Aside0.mk (Kd.R_drew HO_5.out)
              have n1_ := Aside0.mk (below_drew1 HB.out)
              clear HO_5
              clear HB
              have HO_5 := n0_
              have HB := n1_
              clear n0_ n1_
              have p167 : 0 ≤ (x6_1 : Int) := of_decide_eq_true (by first | (with_reducible assumption) | assumption)
              have q167 : x6_1 < (l0.length : Int) := of_decide_eq_true (by first | (with_reducible assumption) | assumption)
              obtain ⟨ad167, A167_1, c167_1, e167, hx167_0, hx167_1, hl167_1, hi167_1⟩ := at_T42 HR0.out x6_1 p167 q167
              have hw167_1 := hx167_1
              have hw167_0 := hx167_0
              cases e167
              replace hx167_0 := (HB.out.cell (World.block_lt_of_cell? w _ hx167_0)).trans hx167_0
              replace hx167_1 := (HB.out.cell (World.block_lt_of_cell? w _ hx167_1)).trans hx167_1
              have HR167_1 := Aside0.mk hi167_1
              have HC167_1 := Aside0.mk hl167_1
              clear hi167_1 hl167_1
              replace p167 := eq_true p167
              replace q167 := eq_true q167
              have p168 : 0 ≤ (x6_1 : Int) := of_decide_eq_true (by first | (with_reducible assumption) | assumption)
              have q168 : x6_1 < (l1.length : Int) := of_decide_eq_true (by first | (with_reducible assumption) | assumption)
              obtain ⟨ad168, e168, hx168_0⟩ := Kd.at_string HR1.out x6_1 p168 q168
              have hw168_0 := hx168_0
              cases e168
              replace hx168_0 := (HB.out.cell (World.block_lt_of_cell? w _ hx168_0)).trans hx168_0
              replace p168 := eq_true p168
              replace q168 := eq_true q168
              refine start_ (n := 14) (S := fun w' => w'.cell? (ad167.add ((x6_1).toNat * 2)) = some (.string ((rd_T42 l0 x6_1).f0)) ∧ w'.cell? ⟨(ad167.add ((x6_1).toNat * 2)).block, (ad167.add ((x6_1).toNat * 2)).off + 1, none⟩ = some (.slice A167_1 ((rd_T42 l0 x6_1).f1).length c167_1) ∧ w'.cell? (ad168.add (x6_1).toNat) = some (.string (rdOf ByteArray.empty l1 x6_1))) (ds := []) #[false, false, false, false, false, false, false, false, false, false, false, false, false, false] (by kernel_rfl) rfl rfl ⟨((HB.out.cell (World.block_lt_of_cell? w _ hw167_0)).trans hw167_0), ((HB.out.cell (World.block_lt_of_cell? w _ hw167_1)).trans hw167_1), ((HB.out.cell (World.block_lt_of_cell? w _ hw168_0)).trans hw168_0)⟩ (fun hHeld => ?_); refine with_tabW bastionref14_Vars.tab5 bastionref14_Vars.bits5 (fun HT_ HW_ => ?_)
              generalize wr.drew = w7 at HO_5 HB HR167_1 hx167_0 hx167_1 hx168_0 hHeld ⊢
              refine pure_ (i := 0) (N := some 19) (v := ?_) (a' := ?_) #[true, false, false, false, false, false, false, false, false, false, false, false, false, false] rfl rfl (any_of HT_.out (by kernel_rfl)) (fun _ _ _ h => h) (Or.inl ⟨by rfl, ?_⟩) ?_ ?_
              rotate_left
              · intro w'
                go_simp
                with_reducible rfl
              rotate_left
              · simp only [Act.put, List.setIfInBounds_toArray, List.set_cons_zero, List.set_cons_succ, i64_w, i32_w]
                rfl
              refine pure_ (i := 1) (N := some 20) (v := ?_) (a' := ?_) #[true, true, false, false, false, false, false, false, false, false, false, false, false, false] rfl rfl (any_of HT_.out (by kernel_rfl)) (fun _ _ _ h => h) (Or.inl ⟨by rfl, ?_⟩) ?_ ?_
              rotate_left
              · intro w'
                go_simp
                with_reducible rfl
              rotate_left
              · simp only [Act.put, List.setIfInBounds_toArray, List.set_cons_zero, List.set_cons_succ, i64_w, i32_w]
                rfl
              refine pure_ (i := 2) (N := some 21) (v := ?_) (a' := ?_) #[true, true, true, false, false, false, false, false, false, false, false, false, false, false] rfl rfl (any_of HT_.out (by kernel_rfl)) (fun _ _ _ h => h) (Or.inl ⟨by rfl, ?_⟩) ?_ ?_
              rotate_left
              · intro w'
                go_simp
                with_reducible rfl
              rotate_left
              · simp only [Act.put, List.setIfInBounds_toArray, List.set_cons_zero, List.set_cons_succ, i64_w, i32_w]
                rfl
              refine pure_ (i := 3) (N := some 22) (v := ?_) (a' := ?_) #[true, true, true, true, false, false, false, false, false, false, false, false, false, false] rfl rfl (any_of HT_.out (by kernel_rfl)) (fun _ _ _ h => h) (Or.inl ⟨by rfl, ?_⟩) ?_ ?_
              rotate_left
              · intro w'
                go_simp
                with_reducible rfl
              rotate_left
              · simp only [Act.put, List.setIfInBounds_toArray, List.set_cons_zero, List.set_cons_succ, i64_w, i32_w]
                rfl
              refine pure_ (i := 4) (N := some 23) (v := ?_) (a' := ?_) #[true, true, true, true, true, false, false, false, false, false, false, false, false, false] rfl rfl (any_of HT_.out (by kernel_rfl)) (fun _ _ _ h => h) (Or.inl ⟨by rfl, ?_⟩) ?_ ?_
              rotate_left
              · intro w'
                go_simp
                with_reducible rfl
              rotate_left
              · simp only [Act.put, List.setIfInBounds_toArray, List.set_cons_zero, List.set_cons_succ, i64_w, i32_w]
                rfl
              refine pure_ (i := 6) (N := some 25) (v := ?_) (a' := ?_) #[true, true, true, true, true, false, true, false, false, false, false, false, false, false] rfl rfl (any_of HT_.out (by kernel_rfl)) (fun _ _ _ h => h) (Or.inl ⟨by rfl, ?_⟩) ?_ ?_
              rotate_left
              · intro w'
                go_simp
                with_reducible rfl
              rotate_left
              · simp only [Act.put, List.setIfInBounds_toArray, List.set_cons_zero, List.set_cons_succ, i64_w, i32_w]
                rfl
              refine pure_ (i := 7) (N := some 26) (v := ?_) (a' := ?_) #[true, true, true, true, true, false, true, true, false, false, false, false, false, false] rfl rfl (any_of HT_.out (by kernel_rfl)) (fun _ _ _ h => h) (Or.inl ⟨by rfl, ?_⟩) ?_ ?_
              rotate_left
              · intro w'
                go_simp
                with_reducible rfl
              rotate_left
              · simp only [Act.put, List.setIfInBounds_toArray, List.set_cons_zero, List.set_cons_succ, i64_w, i32_w]
                rfl
              refine pure_ (i := 8) (N := some 27) (v := ?_) (a' := ?_) #[true, true, true, true, true, false, true, true, true, false, false, false, false, false] rfl rfl (any_of HT_.out (by kernel_rfl)) (fun _ _ _ h => h) (Or.inl ⟨by rfl, ?_⟩) ?_ ?_
              rotate_left
              · intro w'
                go_simp
                with_reducible rfl
              rotate_left
              · simp only [Act.put, List.setIfInBounds_toArray, List.set_cons_zero, List.set_cons_succ, i64_w, i32_w]
                rfl
              refine take_ (i := 5) (N := some 24) (v := ?_) (a' := ?_) #[true, true, true, true, true, true, true, true, true, false, false, false, false, false] rfl rfl (take_ofW HT_.out HW_.out (by kernel_rfl)) (fun _ _ _ h => h) (Or.inl ⟨by rfl, ?_⟩) hHeld ?_ ?_
              rotate_left
              · rintro w' ⟨s0, s1, s2⟩
                go_simp
                with_reducible rfl
              rotate_left
              · simp only [Act.put, List.setIfInBounds_toArray, List.set_cons_zero, List.set_cons_succ, i64_w, i32_w]
                rfl
              refine take_ (i := 9) (N := some 28) (v := ?_) (a' := ?_) #[true, true, true, true, true, true, true, true, true, true, false, false, false, false] rfl rfl (take_ofW HT_.out HW_.out (by kernel_rfl)) (fun _ _ _ h => h) (Or.inl ⟨by rfl, ?_⟩) hHeld ?_ ?_
              rotate_left
              · rintro w' ⟨s0, s1, s2⟩
                go_simp
                with_reducible rfl
              rotate_left
              · simp only [Act.put, List.setIfInBounds_toArray, List.set_cons_zero, List.set_cons_succ, i64_w, i32_w]
                rfl
              refine pure_ (i := 10) (N := some 29) (v := ?_) (a' := ?_) #[true, true, true, true, true, true, true, true, true, true, true, false, false, false] rfl rfl (any_of HT_.out (by kernel_rfl)) (fun _ _ _ h => h) (Or.inl ⟨by rfl, ?_⟩) ?_ ?_
              rotate_left
              · intro w'
                go_simp
                with_reducible rfl
              rotate_left
              · simp only [Act.put, List.setIfInBounds_toArray, List.set_cons_zero, List.set_cons_succ, i64_w, i32_w]
                rfl
              refine one_ (i := 11) (N := some 30) #[true, true, true, true, true, true, true, true, true, true, true, true, false, false] rfl rfl (one_of HT_.out (by kernel_rfl)) (by decide) (fun K hK => ?_)
              refine value_ (w1 := ?_) (v := ?_) (by rfl) rfl ?_ ?_
              rotate_left 2
              · go_simp
                constructor
                · rfl
                · rfl
              refine hK.out _ _ ⟨(World.cell?_alloc_lt _ _ _ (World.block_lt_of_cell? _ _ (((HB.out.cell (World.block_lt_of_cell? w _ hw167_0)).trans hw167_0)))).trans (((HB.out.cell (World.block_lt_of_cell? w _ hw167_0)).trans hw167_0)), (World.cell?_alloc_lt _ _ _ (World.block_lt_of_cell? _ _ (((HB.out.cell (World.block_lt_of_cell? w _ hw167_1)).trans hw167_1)))).trans (((HB.out.cell (World.block_lt_of_cell? w _ hw167_1)).trans hw167_1)), (World.cell?_alloc_lt _ _ _ (World.block_lt_of_cell? _ _ (((HB.out.cell (World.block_lt_of_cell? w _ hw168_0)).trans hw168_0)))).trans (((HB.out.cell (World.block_lt_of_cell? w _ hw168_0)).trans hw168_0))⟩ (fun hHeld => ?_)
              clear hK K
              refine norm_ (a' := ?_) ?_ ?_
              rotate_left
              · show Act.put _ (some 30) _ = _
                simp only [Act.put, List.setIfInBounds_toArray, List.set_cons_zero, List.set_cons_succ, i64_w, i32_w]
                rfl
              refine one_ (i := 12) (N := some 31) #[true, true, true, true, true, true, true, true, true, true, true, true, true, false] rfl rfl (one_of HT_.out (by kernel_rfl)) (by decide) (fun K hK => ?_)
              refine Kd.R_append_step k39 (w0 := w) w.heap.size (by rfl) (.tmp 19) (.tmp 30) 35 39 (.agg #[(.string ⟨#[]⟩), (.string ⟨#[]⟩)]) 32 rfl Tryd.underlying35 info39 rfl (by decide) (by omega) u5 x5_1 (⟨(rd_T42 l0 x6_1).f0, rdOf ByteArray.empty l1 x6_1⟩ : S39) [.string ((rd_T42 l0 x6_1).f0), .string (rdOf ByteArray.empty l1 x6_1)] (fun _ => True) (fun _ => False) rfl rfl ?aP (fun _ hk => hk.elim) ?aF ?aO ?aB ?aS ?aL ?_
              (case aP => exact k39_mkM _ _ _ (⟨(rd_T42 l0 x6_1).f0, rdOf ByteArray.empty l1 x6_1⟩ : S39))
              (case aB => exact (by repeat (first | (with_reducible first | exact HB.out | apply below_alloc | apply pw_below_drewN | apply below_drew1) | exact HB.out)))
              (case aF => exact (fun _ _ => trivial))
              (case aO => exact (by (with_reducible repeat (first | apply Kd.R_alloc | apply Kd.R_drewN | apply Kd.R_drew)); exact HO_5.out))
              (case aS => exact (below_size (by repeat (first | (with_reducible first | exact HB.out | apply below_alloc | apply pw_below_drewN | apply below_drew1) | exact HB.out))))
              (case aL => have := LMc6.out; omega)
              intro v170 w8 ho hb hg hat
              rw [← Ny169.out] at ho
              have n0_ := Aside0.mk (hb)
              have n1_ := Aside0.mk (ho)
              clear HB
              clear HO_5
              have HB := n0_
              have HO171 := n1_
              clear n0_ n1_
              clear ho hb hg hat
              refine hK.out _ _ ⟨((HB.out.cell (World.block_lt_of_cell? w _ hw167_0)).trans hw167_0), ((HB.out.cell (World.block_lt_of_cell? w _ hw167_1)).trans hw167_1), ((HB.out.cell (World.block_lt_of_cell? w _ hw168_0)).trans hw168_0)⟩ (fun hHeld => ?_)
              clear hK K
              refine norm_ (a' := ?_) ?_ ?_
              rotate_left
              · show Act.put _ (some 31) _ = _
                simp only [Act.put, List.setIfInBounds_toArray, List.set_cons_zero, List.set_cons_succ, i64_w, i32_w]
                rfl
              refine pure_ (i := 13) (N := some 5) (v := ?_) (a' := ?_) #[true, true, true, true, true, true, true, true, true, true, true, true, true, true] rfl rfl (any_of HT_.out (by kernel_rfl)) (fun _ _ _ h => h) (Or.inl ⟨by rfl, ?_⟩) ?_ ?_
              rotate_left
              · intro w'
                go_simp
                with_reducible rfl
              rotate_left
              · simp only [Act.put, List.setIfInBounds_toArray, List.set_cons_zero, List.set_cons_succ, i64_w, i32_w]
                rfl
              refine done_ (done_of HT_.out (by kernel_rfl)) ?_
              try go_wp2
              go_roundg k1
              case measure => have := HK1.out; omega
              case rel => exact ⟨(y169), (wrap64 (x6_1 + 1)), (by first | rfl | (simp; done) | (simp [*]; done)), H', ⟨by have := HK1.out; omega⟩, ⟨by (with_reducible repeat (first | apply Kd.R_alloc | apply Kd.R_drewN | apply Kd.R_drew)); exact HO171.out⟩, ⟨by repeat (first | (with_reducible first | exact HB.out | apply below_alloc | apply pw_below_drewN | apply below_drew1) | exact HB.out)⟩⟩
            · rw [if_neg c6] at H
              exact absurd H (by simp)
          · rw [if_neg c5] at H
            exact absurd H (by simp)
        · rw [if_neg c4] at H
          have c4b0 : decide (x6_1 < (l1.length : Int)) = false := decide_eq_false c4
          clear c4
          obtain rfl := Option.some.inj H
          go_wp2
          go_ret
          exact ⟨_, by first | rfl | (simp [errW_none, errW_some] <;> rfl) | (simp [*, errW_none, errW_some] <;> rfl), by (with_reducible repeat (first | apply Kd.R_alloc | apply Kd.R_drewN | apply Kd.R_drew)); exact HO_5.out, by repeat (first | (with_reducible first | exact HB.out | apply below_alloc | apply pw_below_drewN | apply below_drew1) | exact HB.out)⟩
      · rw [if_neg c3] at H
        have c3b0 : decide (x6_1 < (l0.length : Int)) = false := decide_eq_false c3
        clear c3
        obtain rfl := Option.some.inj H
        go_wp2
        go_ret
        exact ⟨_, by first | rfl | (simp [errW_none, errW_some] <;> rfl) | (simp [*, errW_none, errW_some] <;> rfl), by (with_reducible repeat (first | apply Kd.R_alloc | apply Kd.R_drewN | apply Kd.R_drew)); exact HO_5.out, by repeat (first | (with_reducible first | exact HB.out | apply below_alloc | apply pw_below_drewN | apply below_drew1) | exact HB.out)⟩

/-! ### bastionlaw14_MatrixRows: function 3 -/
theorem own_some {α : Type} {d : Kd α} {e : Nat} {W : World} {base : Nat} {ok : Nat → Prop} {v : Value} {xs : List α} (h : d.R e W base ok v xs) (hn : 0 < xs.length) : ∃ g cap cells, v = .slice (some ⟨g, 0, none⟩) xs.length cap ∧ base ≤ g ∧ ok g ∧ W.heap[g]? = some (.cells cells e (0, 0)) := by
  obtain ⟨inner, _, h2⟩ := Kd.R_own h
  rcases h2 with ⟨_, h0⟩ | ⟨g, cap, cur, rfl, hb, hh, _⟩
  · omega
  · exact ⟨g, cap, cur, rfl, hb, h.1 g rfl, hh⟩
theorem row_at {W : World} {base : Nat} {ok : Nat → Prop} {v : Value} {rows : List (List ByteArray)} (h : SRows W base ok v rows) (i : Nat) (hi : i < rows.length) :
    ∃ g cap A2 c2, v = .slice (some ⟨g, 0, none⟩) rows.length cap ∧ W.cell? ⟨g, i, none⟩ = some (.slice A2 (rows.getD i []).length c2) := by
  obtain ⟨g, cap, _, rfl, _, _, _⟩ := own_some (Kd.S_R h) (by omega)
  obtain ⟨_, _, hC⟩ := Kd.S_reads' h
  obtain ⟨ad, A0, c0, e1, hc, _⟩ := at_rows hC i hi
  injection e1 with e1
  subst e1
  rw [add_plain] at hc
  exact ⟨g, cap, A0, c0, rfl, hc⟩
theorem spoil_at {W : World} {base : Nat} {ok : Nat → Prop} {v : Value} {rows : List (List ByteArray)} (h : SRows W base ok v rows) (i j : Nat) (hi : i < rows.length) (hj : j < (rows.getD i []).length) :
    ∃ g cap g2 c2 x, v = .slice (some ⟨g, 0, none⟩) rows.length cap ∧ W.cell? ⟨g, i, none⟩ = some (.slice (some ⟨g2, 0, none⟩) (rows.getD i []).length c2) ∧ W.cell? ⟨g2, j, none⟩ = some (.string x) ∧ W.frozen? ⟨g2, j, none⟩ = false ∧ ok g2 ∧ base ≤ g2 ∧
      ∀ u : ByteArray, SRows (W.setCell ⟨g2, j, none⟩ (.string u)) base ok v (rows.set i ((rows.getD i []).set j u)) ∧ W.grownBy (W.setCell ⟨g2, j, none⟩ (.string u)) (some g2) := by
  obtain ⟨g, cap, _, rfl, _, _, _⟩ := own_some (Kd.S_R h) (by omega)
  obtain ⟨oki, cs, hcl, hM, hcells, hoki, hH⟩ := Kd.S_lend h [] (i : Int) (by omega) (by omega)
  rw [Int.toNat_natCast] at hM hcells
  obtain ⟨vi, rfl, hR⟩ := hM
  obtain ⟨g2, c2, cur, rfl, hb2, ho2, hh2⟩ := own_some hR (by omega)
  obtain ⟨_, _, hC⟩ := Kd.R_reads' hR
  obtain ⟨ad, e1, hcj⟩ := at_strs hC j hj
  injection e1 with e1
  subst e1
  rw [add_plain] at hcj
  have h1 := hcells 0 _ rfl
  rw [show i * (Kd.slice 9 Kd.string).sz + 0 = i by show i * 1 + 0 = i; omega] at h1
  refine ⟨g, cap, g2, c2, _, rfl, h1, hcj, blk_frozen hh2 j, (hoki g2 ho2).1, hb2, fun u => ?_⟩
  obtain ⟨hR2, hg⟩ := Kd.R_seg (okp := fun _ => False) hR (j : Int) (by omega) (by omega) (c := [.string ((rows.getD i []).getD j ByteArray.empty)]) (seg := [.string u]) (j := 0) rfl (fun m y hm => by
    have hm0 : m = 0 := by
      have := (List.getElem?_eq_some_iff.1 hm).1
      simp at this
      exact this
    subst hm0
    simp at hm
    subst hm
    rw [Int.toNat_natCast, show j * Kd.string.sz + 0 = j by show j * 1 + 0 = j; omega]
    exact hcj) (Nat.le_refl 1) (x' := u) rfl (fun _ hk => hk.elim)
  rw [Int.toNat_natCast, show j * Kd.string.sz + 0 = j by show j * 1 + 0 = j; omega] at hR2 hg
  have hset : W.setCells g2 j [.string u] = W.setCell ⟨g2, j, none⟩ (.string u) := rfl
  rw [hset] at hR2 hg
  have hH2 := Kd.H_grown hH hg (fun k hk => by injection hk with hk; subst hk; exact ho2)
  have hS := Kd.H_back (okp := oki) hH2 (x' := (rows.getD i []).set j u) ⟨_, rfl, hR2⟩ (fun _ hk => hk)
  rw [Int.toNat_natCast] at hS
  exact ⟨hS, hg⟩
theorem lens_at {ys p : List (List ByteArray)} (h : ys.map List.length = p.map List.length) (i : Nat) : ys.length = p.length ∧ (ys.getD i []).length = (p.getD i []).length := by
  have h1 := congrArg List.length h
  simp only [List.length_map] at h1
  refine ⟨h1, ?_⟩
  have h2 := congrArg (fun l : List Nat => l.getD i 0) h
  simp only [List.getD_eq_getElem?_getD, List.getElem?_map] at h2
  simp only [List.getD_eq_getElem?_getD]
  cases h3 : ys[i]? <;> cases h4 : p[i]? <;> rw [h3, h4] at h2 <;> simpa using h2
theorem lens_set {ys p : List (List ByteArray)} (h : ys.map List.length = p.map List.length) (i j : Nat) (u : ByteArray) : (ys.set i ((ys.getD i []).set j u)).map List.length = p.map List.length := by
  rw [← h]
  apply List.ext_getElem?
  intro m
  rw [List.getElem?_map, List.getElem?_map]
  by_cases hm : i = m
  · subst hm
    rw [List.getElem?_set]
    cases h3 : ys[i]? with
    | none =>
      have := List.getElem?_eq_none_iff.1 h3
      simp
      omega
    | some y =>
      obtain ⟨h4, h5⟩ := List.getElem?_eq_some_iff.1 h3
      simp [h4, List.getD_eq_getElem?_getD, h3, h5]
  · rw [List.getElem?_set_ne hm]
def Spoilt (wG : World) (bW : Nat) (vG vW : Value) (p : List (List ByteArray)) (V : World) : Prop :=
  (∃ ys, ys.map List.length = p.map List.length ∧ SRows V wG.heap.size (fun k => wG.heap.size ≤ k ∧ k < bW) vG ys) ∧ SRows V bW (fun k => bW ≤ k) vW p ∧ Below wG.heap.size wG V
theorem Spoilt.header {wG : World} {bW : Nat} {vW : Value} {A : Option Addr} {n c : Nat} {p : List (List ByteArray)} {V : World} (h : Spoilt wG bW (.slice A n c) vW p V) (i : Nat) (hi : i < p.length) : ∃ g A2 c2, A = some ⟨g, 0, none⟩ ∧ V.cell? ⟨g, i, none⟩ = some (.slice A2 (p.getD i []).length c2) := by
  obtain ⟨⟨ys, h1, h2⟩, _, _⟩ := h
  obtain ⟨h4, h5⟩ := lens_at h1 i
  obtain ⟨g, cap, A2, c2, e, hc⟩ := row_at h2 i (by omega)
  injection e with e1 _ _
  exact ⟨g, A2, c2, e1, by rw [← h5]; exact hc⟩
theorem Spoilt.put {wG : World} {bW : Nat} {vW : Value} {A : Option Addr} {n c : Nat} {p : List (List ByteArray)} {V : World} (h : Spoilt wG bW (.slice A n c) vW p V) (i j : Nat) (hi : i < p.length) (hj : j < (p.getD i []).length) :
    ∃ g g2 c2 x, A = some ⟨g, 0, none⟩ ∧ V.cell? ⟨g, i, none⟩ = some (.slice (some ⟨g2, 0, none⟩) (p.getD i []).length c2) ∧ V.cell? ⟨g2, j, none⟩ = some (.string x) ∧ V.frozen? ⟨g2, j, none⟩ = false ∧ ∀ u : ByteArray, Spoilt wG bW (.slice A n c) vW p (V.setCell ⟨g2, j, none⟩ (.string u)) := by
  obtain ⟨⟨ys, h1, h2⟩, h3, hB⟩ := h
  obtain ⟨h4, h5⟩ := lens_at h1 i
  obtain ⟨g, cap, g2, c2, x, e, hc, hx, hf, hok, hb, hS⟩ := spoil_at h2 i j (by omega) (by omega)
  injection e with e1 _ _
  refine ⟨g, g2, c2, x, e1, by rw [← h5]; exact hc, hx, hf, fun u => ?_⟩
  obtain ⟨hS1, hg⟩ := hS u
  exact ⟨⟨_, lens_set h1 i j u, hS1⟩, Kd.S_grown h3 hg (fun k hk he => by injection he with he; omega), hB.grown hg hB.size (fun k hk => by injection hk with hk; omega)⟩
set_option maxHeartbeats 8000000 in
set_option maxRecDepth 100000 in
theorem bastionlaw14_MatrixRows.walk (k : Nat) (A0 : Option Addr) (c0 : Nat) (l : List S42) (A1 : Option Addr) (c1 : Nat) (row : List ByteArray) (g : List S49) (p : List (List ByteArray)) (er : Int) (vs : List S39) (w : World)
    (hr0 : Kd.C k42 w A0 l.length l) (hc0 : l.length ≤ c0) (hr1 : Kd.C Kd.string w A1 row.length row) (hc1 : row.length ≤ c1)
    (h1 : bastionlaw14_large.f k l = some false) (h2 : bastionlaw14_long.f k row = some false) (h3 : bastionlaw14_given.f k l = some g) (h4 : matrix_Rows.f g = some (p, er)) (h5 : bastionref14_Rows.f l = some (p, er))
    (h6 : bastionref14_Same.f k p p = some true) (h7 : matrix_Vars.f k g row = some vs) (h8 : bastionref14_Vars.f k l row = some vs) (h9 : bastionlaw14_awake.f k = some true)
    (hp : p.length ≤ 1000000) (hpr : ∀ i, (p.getD i []).length ≤ 1000000) (hvs : vs.length ≤ 1000000) :
    Calls Tryd.prog 3 #[.slice A0 l.length c0, .slice A1 row.length c1] w fun e w' => e = .returned (.bool true) ∧ Below w.heap.size w w' := by
  have HR0 := Aside0.mk hr0
  have HR1 := Aside0.mk hr1
  have HPR := Aside0.mk hpr
  clear hr0 hr1 hpr
  go_enter Tryd.func3, Tryd.ntmps3
  go_wp2_with fail
  go_goals
  refine (bastionlaw14_large.calls k A0 c0 l false w HR0.out hc0 h1).mono ?_
  rintro e w1 ⟨rfl, hd1⟩
  have HB1 := Aside0.mk hd1.below
  clear hd1
  go_wp2_with fail
  go_goals
  refine (bastionlaw14_long.calls k A1 c1 row false w1 (Kd.C_below HR1.out HB1.out) hc1 h2).mono ?_
  rintro e w2 ⟨rfl, hd2⟩
  have HB2 := Aside0.mk (below_then HB1.out HB1.out.size hd2.below)
  clear hd2 HB1
  go_wp2_with fail
  go_goals
  refine (bastionlaw14_given.calls k A0 c0 l g w2 (Kd.C_below HR0.out HB2.out) hc0 h3).mono ?_
  rintro e w3 ⟨v3, rfl, hS3, hb3⟩
  have HB3 := Aside0.mk (below_then HB2.out HB2.out.size hb3)
  obtain ⟨A3, c3, rfl, hc3, hC3⟩ := Kd.S_reads hS3
  have HI := Aside0.mk hC3
  clear hS3 hb3 HB2 hC3
  go_wp2_with fail
  go_goals
  refine (matrix_Rows.calls A3 c3 g p er w3 HI.out hc3 h4).mono ?_
  rintro e w4 ⟨v4, rfl, hS4, hb4⟩
  have HG4 := Aside0.mk hS4
  have HB4 := Aside0.mk hb4
  obtain ⟨A4, c4, rfl, hc4, _⟩ := Kd.S_reads hS4
  clear hS4 hb4
  go_wp2_with fail
  go_goals
  refine (bastionref14_Rows.calls A0 c0 l p er w4 (Kd.C_below HR0.out (below_then HB3.out HB3.out.size HB4.out)) hc0 h5).mono ?_
  rintro e w5 ⟨v5, rfl, hS5, hb5⟩
  have HW5 := Aside0.mk hS5
  have HB5 := Aside0.mk hb5
  obtain ⟨A5, c5, rfl, hc5, _⟩ := Kd.S_reads hS5
  clear hS5 hb5
  go_wp2_with fail
  go_goals
  refine (bastionref14_Same.calls k A4 c4 p A5 c5 p true w5 (Kd.S_reads' (Kd.S_below HG4.out HB5.out)).2.2 hc4 (Kd.S_reads' HW5.out).2.2 hc5 h6).mono ?_
  rintro e w6 ⟨rfl, hd6⟩
  have HSP := Aside0.mk (show Spoilt w3 w4.heap.size (.slice A4 p.length c4) (.slice A5 p.length c5) p w6 from
    ⟨⟨p, rfl, Kd.S_below (Kd.S_below (Kd.S_mono (Kd.S_bound HG4.out) (fun k hk => ⟨hk.2.1, hk.2.2.1⟩)) HB5.out) hd6.below⟩, Kd.S_below (Kd.S_mono (Kd.S_bound HW5.out) (fun k hk => hk.2.1)) hd6.below, below_then (below_then HB4.out HB4.out.size HB5.out) (Nat.le_trans HB4.out.size HB5.out.size) hd6.below⟩)
  clear hd6 HG4 HW5 HB4 HB5
  go_wp2_with fail
  go_loopg [10] p.length (fun m v10 wr => ∃ i : Nat, v10 = .int .i64 i ∧ Aside0 (i + m = p.length) ∧ Aside0 (Spoilt w3 w4.heap.size (.slice A4 p.length c4) (.slice A5 p.length c5) p wr))
  case atStart => exact ⟨0, rfl, ⟨by omega⟩, HSP⟩
  case round =>
    clear HSP
    obtain ⟨i, rfl, HM, HSP⟩ := hrel
    have hm := HM.out
    by_cases hlt : i < p.length
    · obtain ⟨gb, _, _, rfl, _⟩ := HSP.out.header i hlt
      have hpi := HPR.out i
      obtain ⟨n, hn⟩ : ∃ n, n = (p.getD i []).length := ⟨_, rfl⟩
      rw [← hn] at hpi
      have HN := Aside0.mk hn
      clear hn
      go_wp2_with fail
      obtain ⟨gO, rfl⟩ : ∃ g : Nat, g = gk := ⟨_, rfl⟩
      go_loopg [11] n (fun m v11 wr => ∃ j : Nat, v11 = .int .i64 j ∧ Aside0 (j + m = n) ∧ Aside0 (Spoilt w3 w4.heap.size (.slice (some ⟨gb, 0, none⟩) p.length c4) (.slice A5 p.length c5) p wr))
      case atStart => exact ⟨0, rfl, ⟨by omega⟩, HSP⟩
      case round =>
        clear HSP
        obtain ⟨j, rfl, HM2, HSP⟩ := hrel
        have hm2 := HM2.out
        by_cases hlt2 : j < n
        · obtain ⟨gb', g2, c2, x, e1, hx1, hx2, hx3, hnext⟩ := HSP.out.put i j hlt (by rw [← HN.out]; exact hlt2)
          injection e1 with e1
          injection e1 with e1
          subst e1
          rw [← HN.out] at hx1
          have HX := Aside0.mk hnext
          clear hnext
          go_wp2_with fail
          go_roundg (gk - 1)
          case measure => omega
          case rel => exact ⟨j + 1, rfl, ⟨by omega⟩, ⟨HX.out _⟩⟩
        · obtain ⟨gb', A2, c2, e1, hx1⟩ := HSP.out.header i hlt
          injection e1 with e1
          injection e1 with e1
          subst e1
          rw [← HN.out] at hx1
          go_wp2_with fail
          go_roundg (gO - 1)
          case measure => omega
          case rel => exact ⟨i + 1, rfl, ⟨by omega⟩, HSP⟩
    · obtain rfl : i = p.length := by omega
      go_wp2_with fail
      go_goals
      obtain ⟨V, rfl⟩ : ∃ V : World, V = wr := ⟨_, rfl⟩
      refine (matrix_Rows.calls A3 c3 g p er V (Kd.C_below HI.out HSP.out.2.2) hc3 h4).mono ?_
      rintro e w7 ⟨v7, rfl, hS7, hb7⟩
      have HG7 := Aside0.mk hS7
      have HB7 := Aside0.mk hb7
      have HBV := Aside0.mk (below_then HB3.out HB3.out.size HSP.out.2.2)
      obtain ⟨A7, c7, rfl, hc7, _⟩ := Kd.S_reads hS7
      clear hS7 hb7
      go_wp2_with fail
      go_goals
      refine (matrix_Vars.calls k A3 c3 g A1 c1 row vs w7 (Kd.C_below HI.out (below_then HSP.out.2.2 HSP.out.2.2.size HB7.out)) hc3 (Kd.C_below HR1.out (below_then HBV.out HBV.out.size HB7.out)) hc1 h7).mono ?_
      rintro e w8 ⟨v8, rfl, hR8, hb8⟩
      have HV8 := Aside0.mk hR8
      have HB8 := Aside0.mk (below_then HB7.out HB7.out.size hb8)
      have HC8 := Aside0.mk hb8
      obtain ⟨A8, c8, rfl, hc8, _⟩ := Kd.R_reads hR8
      clear hR8 hb8
      go_wp2_with fail
      go_goals
      refine (bastionref14_Vars.calls k A0 c0 l A1 c1 row vs w8 (Kd.C_below HR0.out (below_then HBV.out HBV.out.size HB8.out)) hc0 (Kd.C_below HR1.out (below_then HBV.out HBV.out.size HB8.out)) hc1 h8).mono ?_
      rintro e w9 ⟨v9, rfl, hR9, hb9⟩
      have HV9 := Aside0.mk hR9
      have HB9 := Aside0.mk (below_then HB8.out HB8.out.size hb9)
      have HC9 := Aside0.mk hb9
      obtain ⟨A9, c9, rfl, hc9, _⟩ := Kd.R_reads hR9
      clear hR9 hb9
      go_wp2_with fail
      go_goals
      refine (bastionref14_Same.calls k A7 c7 p A5 c5 p true w9 (Kd.S_reads' (Kd.S_below (Kd.S_below HG7.out HC8.out) HC9.out)).2.2 hc7 (Kd.S_reads' (Kd.S_below HSP.out.2.1 HB9.out)).2.2 hc5 h6).mono ?_
      rintro e w10 ⟨rfl, hd10⟩
      have HX8 := Aside0.mk (Kd.C_below (Kd.R_reads' (Kd.R_below HV8.out HC9.out)).2.2 hd10.below)
      have HX9 := Aside0.mk (Kd.C_below (Kd.R_reads' HV9.out).2.2 hd10.below)
      have HB10 := Aside0.mk (below_then HBV.out HBV.out.size (below_then HB9.out HB9.out.size hd10.below))
      clear hd10 HG7 HV8 HV9 HC8 HC9 HB9 HB8 HB7 HSP HBV HB3
      go_wp2_with fail
      go_loopg [16] vs.length (fun m v16 wr => ∃ i : Nat, v16 = .int .i64 i ∧ Aside0 (i + m = vs.length) ∧ Aside0 (Below w10.heap.size w10 wr))
      case atStart => exact ⟨0, rfl, ⟨by omega⟩, ⟨Below.refl _ _⟩⟩
      case round =>
        obtain ⟨q, rfl, HM3, HL⟩ := hrel
        have hm3 := HM3.out
        by_cases hlt3 : q < vs.length
        · obtain ⟨ad8, rfl, h80, h81⟩ := at_T39 (Kd.C_below HX8.out HL.out) q (by omega) (by omega)
          obtain ⟨ad9, rfl, h90, h91⟩ := at_T39 (Kd.C_below HX9.out HL.out) q (by omega) (by omega)
          generalize rd_T39 vs q = x at *
          simp only [Int.toNat_natCast] at h80 h81 h90 h91
          go_wp2_with fail
          go_region
          all_goals go_wp2_with fail
          all_goals go_roundg (gk - 1)
          all_goals first
            | omega
            | exact ⟨q + 1, rfl, ⟨by omega⟩, HL⟩
            | exact ⟨q + 1, rfl, ⟨by omega⟩, ⟨below_drew HL.out⟩⟩
        · obtain rfl : q = vs.length := by omega
          go_wp2_with fail
          go_goals
          refine (bastionlaw14_awake.calls k true _ h9).mono ?_
          rintro e w11 ⟨rfl, hb11⟩
          have HB11 := Aside0.mk (below_then (below_then HB10.out HB10.out.size HL.out) (Nat.le_trans HB10.out.size HL.out.size) hb11)
          clear hb11
          go_wp2_with fail
          go_ret
          exact ⟨rfl, HB11.out⟩
set_option maxHeartbeats 8000000 in
set_option maxRecDepth 100000 in
theorem bastionlaw14_MatrixRows.walk_large (k : Nat) (A0 : Option Addr) (c0 : Nat) (l : List S42) (A1 : Option Addr) (c1 : Nat) (row : List ByteArray) (w : World)
    (hr0 : Kd.C k42 w A0 l.length l) (hc0 : l.length ≤ c0)
    (h1 : bastionlaw14_large.f k l = some true) (h9 : bastionlaw14_awake.f k = some true) :
    Calls Tryd.prog 3 #[.slice A0 l.length c0, .slice A1 row.length c1] w fun e w' => e = .returned (.bool true) ∧ Below w.heap.size w w' := by
  have HR0 := Aside0.mk hr0
  clear hr0
  go_enter Tryd.func3, Tryd.ntmps3
  go_wp2_with fail
  go_goals
  refine (bastionlaw14_large.calls k A0 c0 l true w HR0.out hc0 h1).mono ?_
  rintro e w1 ⟨rfl, hd1⟩
  have HB1 := Aside0.mk hd1.below
  clear hd1
  go_wp2_with fail
  go_goals
  refine (bastionlaw14_awake.calls k true w1 h9).mono ?_
  rintro e w2 ⟨rfl, hb2⟩
  have HB2 := Aside0.mk (below_then HB1.out HB1.out.size hb2)
  clear hb2
  go_wp2_with fail
  go_ret
  exact ⟨rfl, HB2.out⟩
set_option maxHeartbeats 8000000 in
set_option maxRecDepth 100000 in
theorem bastionlaw14_MatrixRows.walk_long (k : Nat) (A0 : Option Addr) (c0 : Nat) (l : List S42) (A1 : Option Addr) (c1 : Nat) (row : List ByteArray) (w : World)
    (hr0 : Kd.C k42 w A0 l.length l) (hc0 : l.length ≤ c0) (hr1 : Kd.C Kd.string w A1 row.length row) (hc1 : row.length ≤ c1)
    (h1 : bastionlaw14_large.f k l = some false) (h2 : bastionlaw14_long.f k row = some true) (h9 : bastionlaw14_awake.f k = some true) :
    Calls Tryd.prog 3 #[.slice A0 l.length c0, .slice A1 row.length c1] w fun e w' => e = .returned (.bool true) ∧ Below w.heap.size w w' := by
  have HR0 := Aside0.mk hr0
  have HR1 := Aside0.mk hr1
  clear hr0 hr1
  go_enter Tryd.func3, Tryd.ntmps3
  go_wp2_with fail
  go_goals
  refine (bastionlaw14_large.calls k A0 c0 l false w HR0.out hc0 h1).mono ?_
  rintro e w1 ⟨rfl, hd1⟩
  have HB1 := Aside0.mk hd1.below
  clear hd1
  go_wp2_with fail
  go_goals
  refine (bastionlaw14_long.calls k A1 c1 row true w1 (Kd.C_below HR1.out HB1.out) hc1 h2).mono ?_
  rintro e w2 ⟨rfl, hd2⟩
  have HB2 := Aside0.mk (below_then HB1.out HB1.out.size hd2.below)
  clear hd2
  go_wp2_with fail
  go_goals
  refine (bastionlaw14_awake.calls k true w2 h9).mono ?_
  rintro e w3 ⟨rfl, hb3⟩
  have HB3 := Aside0.mk (below_then HB2.out HB2.out.size hb3)
  clear hb3
  go_wp2_with fail
  go_ret
  exact ⟨rfl, HB3.out⟩
/-- What the walk asks of the functions: the same rows, the same variables. -/
def bastionlaw14_MatrixRows.Good (k : Nat) (l : List S42) (row : List ByteArray) : Prop :=
  bastionlaw14_awake.f k = some true ∧ (bastionlaw14_large.f k l = some true ∨ (bastionlaw14_large.f k l = some false ∧ (bastionlaw14_long.f k row = some true ∨ (bastionlaw14_long.f k row = some false ∧
    ∃ (g : List S49) (p : List (List ByteArray)) (er : Int) (vs : List S39), bastionlaw14_given.f k l = some g ∧ matrix_Rows.f g = some (p, er) ∧ bastionref14_Rows.f l = some (p, er) ∧ bastionref14_Same.f k p p = some true ∧ matrix_Vars.f k g row = some vs ∧ bastionref14_Vars.f k l row = some vs ∧ p.length ≤ 1000000 ∧ (∀ i, (p.getD i []).length ≤ 1000000) ∧ vs.length ≤ 1000000))))
theorem bastionlaw14_MatrixRows.calls (k : Nat) (A0 : Option Addr) (c0 : Nat) (l0 : List S42) (A1 : Option Addr) (c1 : Nat) (l1 : List ByteArray) (r : Bool) (w : World) (hr0 : Kd.C k42 w A0 l0.length l0) (hc0 : l0.length ≤ c0) (hr1 : Kd.C Kd.string w A1 l1.length l1) (hc1 : l1.length ≤ c1) (h : bastionlaw14_MatrixRows.Good k l0 l1 ∧ r = true) :
    Calls Tryd.prog 3 #[.slice A0 l0.length c0, .slice A1 l1.length c1] w fun e w' => e = .returned (.bool r) ∧ Below w.heap.size w w' := by
  obtain ⟨⟨h9, h⟩, rfl⟩ := h
  rcases h with h1 | ⟨h1, h2 | ⟨h2, g, p, er, vs, h3, h4, h5, h6, h7, h8, hp, hpr, hvs⟩⟩
  · exact bastionlaw14_MatrixRows.walk_large k A0 c0 l0 A1 c1 l1 w hr0 hc0 h1 h9
  · exact bastionlaw14_MatrixRows.walk_long k A0 c0 l0 A1 c1 l1 w hr0 hc0 hr1 hc1 h1 h2 h9
  · exact bastionlaw14_MatrixRows.walk k A0 c0 l0 A1 c1 l1 g p er vs w hr0 hc0 hr1 hc1 h1 h2 h3 h4 h5 h6 h7 h8 h9 hp hpr hvs

end Go.Proofs.YtifgdhmbjlfnhaaDoor.M
