-- Written by wip/xprint.py: the kit's print with functions proved by hand in their places. Not trusted: Lean checks it.
import Derived.Test.YtifgdhmbjlfnhaaDoorMx0
import Derived.Test.YtifgdhmbjlfnhaaDoorMx2
import Derived.Test.YtifgdhmbjlfnhaaDoorMx4
namespace Go.Proofs.YtifgdhmbjlfnhaaDoor.M
open Go.RowKit Go.Proofs.YtifgdhmbjlfnhaaDoorW.PrintWords Go.Proofs.YtifgdhmbjlfnhaaDoorW.PrintLast Go.Proofs.YtifgdhmbjlfnhaaDoorW.PrintMore
attribute [local go_sem] max2_int min2_int max_two min_two max_three min_three max_four min_four   -- for this text's walks alone
set_option linter.unusedVariables false
set_option linter.unusedSimpArgs false

/-! ### matrix_part: function 26 -/
def partL (stop : Int) : List Int → List Int → List Int × List Int × Bool × Bool
  | acc, [] => (acc, [], false, true)
  | acc, [x] => if x = 92 then ([], [], false, false) else if x = stop then (acc, [], true, true) else (acc ++ [x], [], false, true)
  | acc, x :: y :: r => if x = 92 then (if y ≠ 92 ∧ y ≠ stop then ([], [], false, false) else partL stop (acc ++ [y]) r) else if x = stop then (acc, y :: r, true, true) else partL stop (acc ++ [x]) (y :: r)

theorem partL_ne {stop : Int} {acc rest : List Int} {x : Int} (h : x ≠ 92) : partL stop acc (x :: rest) = if x = stop then (acc, rest, true, true) else partL stop (acc ++ [x]) rest := by
  cases rest with
  | nil => simp [partL, h]
  | cons y r => simp [partL, h]
theorem partL_stop {stop : Int} {acc rest : List Int} {x : Int} (h : x ≠ 92) (h' : x = stop) : partL stop acc (x :: rest) = (acc, rest, true, true) := by rw [partL_ne h, if_pos h']
theorem partL_plain {stop : Int} {acc rest : List Int} {x : Int} (h : x ≠ 92) (h' : x ≠ stop) : partL stop acc (x :: rest) = partL stop (acc ++ [x]) rest := by rw [partL_ne h, if_neg h']
theorem partL_end {stop : Int} {acc : List Int} {x : Int} (h : x = 92) : partL stop acc [x] = ([], [], false, false) := by simp [partL, h]
theorem partL_bad {stop : Int} {acc r : List Int} {x y : Int} (h : x = 92) (h1 : y ≠ 92) (h2 : y ≠ stop) : partL stop acc (x :: y :: r) = ([], [], false, false) := by simp [partL, h, h1, h2]
theorem partL_esc {stop : Int} {acc r : List Int} {x y : Int} (h : x = 92) (h1 : y = 92 ∨ y = stop) : partL stop acc (x :: y :: r) = partL stop (acc ++ [y]) r := by
  rw [partL, if_pos h, if_neg (by omega)]

def PQ (w : World) (e : Ending) (w' : World) (q : List Int × List Int × Bool × Bool) : Prop := e = .returned (.tuple #[.string (strOfNums q.1), .string (strOfNums q.2.1), .bool q.2.2.1, .bool q.2.2.2]) ∧ Below w.heap.size w w'

set_option maxHeartbeats 4000000 in
set_option maxRecDepth 100000 in
theorem matrix_part.walk (s : ByteArray) (stop : Int) (w : World) (hs : s.size ≤ 140737488351232) :
    Calls Tryd.prog 26 #[.string s, .int .u8 stop] w fun e w' => PQ w e w' (partL stop [] (bytesOf s)) := by
  generalize hq : partL stop [] (bytesOf s) = q
  have HQ := Aside0.mk hq
  clear hq
  go_enter Tryd.func26, Tryd.ntmps26
  go_wp2
  go_loopg [9] s.size (fun m v9 wr => ∃ (i : Nat) (xs : List Int), v9 = .int .i64 i ∧ Aside0 (partL stop xs ((bytesOf s).drop i) = q) ∧ Aside0 (i + m = s.size) ∧ Aside0 (xs.length ≤ i) ∧ Aside0 (Bld w.heap.size w.heap.size xs wr) ∧ Aside0 (Below w.heap.size w wr))
  case atStart => exact ⟨0, [], rfl, HQ, ⟨by omega⟩, ⟨by simp⟩, ⟨Bld.new w _ (Nat.le_refl _)⟩, ⟨(Below.refl _ _).alloc (Nat.le_refl _) _⟩⟩
  case round =>
    clear HQ
    obtain ⟨i, xs, rfl, HA, HM, HX, HB, HW⟩ := hrel
    have hm := HM.out
    by_cases hlt : i < s.size
    · have hd := bytes_drop s i hlt
      have HD := Aside0.mk hd
      clear hd
      go_wp2_with ((go_at_call 30; refine (Bld.byte HB.out _ (by first | exact u8_lo _ | decide) (by first | exact u8_hi _ | decide) (by have := HX.out; omega) (by have := HW.out.size; omega)).mono ?_; rintro e w1 ⟨rfl, hB1, hb1, hk1⟩; have HB1 := Aside0.mk hB1; have HW1 := Aside0.mk (HW.out.trans hb1); clear hB1 hb1 hk1))
      · refine bodyPost_ret (v := .tuple #[.string (strOfNums []), .string (strOfNums []), .bool false, .bool false]) (by simp [results, Tryd.results26, go_sem]; rfl) rfl ?_
        have h1 := HA.out
        have e1 : (s[i].toNat : Int) = 92 := beq_iff_eq.1 (show ((s[i].toNat : Int) == 92) = true from by assumption)
        rw [HD.out, bytes_end s (i + 1) (by omega), partL_end e1] at h1
        rw [← h1]
        exact ⟨rfl, HW.out⟩
      · have hl2 : i + 1 < s.size := by omega
        have e1 : (s[i].toNat : Int) = 92 := beq_iff_eq.1 (show ((s[i].toNat : Int) == 92) = true from by assumption)
        have e2 : (s[i + 1].toNat : Int) = 92 := by assumption
        have HE := Aside0.mk e1
        have HE2 := Aside0.mk e2
        clear e1 e2
        go_roundg (gk - 2)
        case measure => omega
        case rel =>
          refine ⟨i + 2, xs ++ [92], rfl, ⟨?_⟩, ⟨by omega⟩, ⟨by have := HX.out; simp; omega⟩, HB1, HW1⟩
          have h1 := HA.out
          rw [HD.out, bytes_drop s (i + 1) hl2, partL_esc HE.out (.inl HE2.out), HE2.out] at h1
          exact h1
      · have hl2 : i + 1 < s.size := by omega
        refine bodyPost_ret (v := .tuple #[.string (strOfNums []), .string (strOfNums []), .bool false, .bool false]) (by simp [results, Tryd.results26, go_sem]; rfl) rfl ?_
        have h1 := HA.out
        have e1 : (s[i].toNat : Int) = 92 := beq_iff_eq.1 (show ((s[i].toNat : Int) == 92) = true from by assumption)
        have e3 : ((i : Int) + 1 == s.size) = true ∨ ((s[i + 1].toNat : Int) != 92) = true ∧ ((s[i + 1].toNat : Int) != stop) = true := by assumption
        have e4 : (s[i + 1].toNat : Int) ≠ 92 ∧ (s[i + 1].toNat : Int) ≠ stop := by
          rcases e3 with e3 | e3
          · have := beq_iff_eq.1 e3; omega
          · exact ⟨bne_iff_ne.1 e3.1, bne_iff_ne.1 e3.2⟩
        rw [HD.out, bytes_drop s (i + 1) hl2, partL_bad e1 e4.1 e4.2] at h1
        rw [← h1]
        exact ⟨rfl, HW.out⟩
      · have hl2 : i + 1 < s.size := by omega
        have e1 : (s[i].toNat : Int) = 92 := beq_iff_eq.1 (show ((s[i].toNat : Int) == 92) = true from by assumption)
        have e3 : ((i : Int) + 1 == s.size) = false ∧ (((s[i + 1].toNat : Int) != 92) = false ∨ ((s[i + 1].toNat : Int) != stop) = false) := by assumption
        have e4 : (s[i + 1].toNat : Int) = 92 ∨ (s[i + 1].toNat : Int) = stop := by
          rcases e3.2 with e3 | e3
          · exact .inl (bne_eq_false_iff_eq.1 e3)
          · exact .inr (bne_eq_false_iff_eq.1 e3)
        have HE := Aside0.mk e1
        have HE2 := Aside0.mk e4
        clear e1 e4 e3
        go_roundg (gk - 2)
        case measure => omega
        case rel =>
          refine ⟨i + 2, xs ++ [(s[i + 1].toNat : Int)], rfl, ⟨?_⟩, ⟨by omega⟩, ⟨by have := HX.out; simp; omega⟩, HB1, HW1⟩
          have h1 := HA.out
          rw [HD.out, bytes_drop s (i + 1) hl2, partL_esc HE.out HE2.out] at h1
          exact h1
      · have e1 : (s[i].toNat : Int) ≠ 92 := beq_eq_false_iff_ne.1 (show ((s[i].toNat : Int) == 92) = false from by assumption)
        have e2 : (s[i].toNat : Int) = stop := beq_iff_eq.1 (show ((s[i].toNat : Int) == stop) = true from by assumption)
        have HE := Aside0.mk e1
        have HE2 := Aside0.mk e2
        clear e1 e2
        have w1 : IntKind.i64.wrap ((i : Int) + 1) = (i : Int) + 1 := IntWalk.i64_in _ (by omega)
        have w2 : 0 ≤ (i : Int) + 1 := by omega
        have w3 : ((i : Int) + 1).toNat = i + 1 := by omega
        have w4 : (i : Int) + 1 ≤ s.size := by omega
        clear hm hs
        go_region_with (refine (Bld.string HB.out.drew (by have := HW.out.size; exact this)).mono ?_; rintro e w1 ⟨rfl, hB1, hb1, hk1⟩; have HB1 := Aside0.mk hB1; have HW1 := Aside0.mk ((below_drew HW.out).trans hb1); clear hB1 hb1 hk1)
        go_wp2
        refine bodyPost_ret (v := .tuple #[.string (strOfNums xs), .string (s.extract (i + 1) s.size), .bool true, .bool true]) (by simp [results, Tryd.results26, go_sem]) rfl ?_
        have h1 := HA.out
        rw [HD.out, partL_stop HE.out HE2.out] at h1
        rw [← h1]
        exact ⟨by rw [strOfNums_drop], HW1.out⟩
      · have e1 : (s[i].toNat : Int) ≠ 92 := beq_eq_false_iff_ne.1 (show ((s[i].toNat : Int) == 92) = false from by assumption)
        have e2 : (s[i].toNat : Int) ≠ stop := beq_eq_false_iff_ne.1 (show ((s[i].toNat : Int) == stop) = false from by assumption)
        have HE := Aside0.mk e1
        have HE2 := Aside0.mk e2
        clear e1 e2
        go_roundg (gk - 1)
        case measure => omega
        case rel =>
          refine ⟨i + 1, xs ++ [(s[i].toNat : Int)], rfl, ⟨?_⟩, ⟨by omega⟩, ⟨by have := HX.out; simp; omega⟩, HB1, HW1⟩
          have h1 := HA.out
          rw [HD.out, partL_plain HE.out HE2.out] at h1
          exact h1
    · go_wp2_with (go_at_call 31; refine (Bld.string HB.out (by have := HW.out.size; omega)).mono ?_; rintro e w1 ⟨rfl, hB1, hb1, hk1⟩; have HB1 := Aside0.mk hB1; have HW1 := Aside0.mk (HW.out.trans hb1); clear hB1 hb1 hk1)
      refine bodyPost_ret (v := .tuple #[.string (strOfNums xs), .string (strOfNums []), .bool false, .bool true]) (by simp [results, Tryd.results26, go_sem]; rfl) rfl ?_
      have h1 := HA.out
      rw [bytes_end s i (by omega)] at h1
      rw [← h1]
      exact ⟨rfl, HW1.out⟩
def matrix_part.f (a0 : ByteArray) (a1 : Int) : Option (ByteArray × ByteArray × Bool × Bool) := if a0.size ≤ 140737488351232 then some (strOfNums (partL a1 [] (bytesOf a0)).1, strOfNums (partL a1 [] (bytesOf a0)).2.1, (partL a1 [] (bytesOf a0)).2.2.1, (partL a1 [] (bytesOf a0)).2.2.2) else none
theorem matrix_part.calls (a0 : ByteArray) (a1 : Int) (r1 : ByteArray) (r2 : ByteArray) (r3 : Bool) (r4 : Bool) (w : World) (h : matrix_part.f a0 a1 = some (r1, r2, r3, r4)) :
    Calls Tryd.prog 26 #[.string a0, .int .u8 a1] w fun e w' => e = .returned (.tuple #[.string r1, .string r2, .bool r3, .bool r4]) ∧ Below w.heap.size w w' := by
  unfold matrix_part.f at h
  by_cases hc : a0.size ≤ 140737488351232
  case neg => rw [if_neg hc] at h; cases h
  rw [if_pos hc] at h
  injection h with h
  injection h with h1 h
  injection h with h2 h
  injection h with h3 h4
  subst h1 h2 h3 h4
  exact matrix_part.walk a0 a1 w hc

/-! ### matrix_Parse: function 18 -/
mutual
def matrix_Parse.l0 : Nat → ByteArray → ByteArray → Bool → Bool → List ByteArray → Option (ByteArray × List ByteArray × Int)
  | 0, _, _, _, _, _ => none
  | k + 1, x5, x6, x7, x8, x9 => if x8 = true then (matrix_Parse.j1 k x5 x6 x8 x9 x7) else (matrix_Parse.j1 k x5 x6 x8 x9 false)
def matrix_Parse.j1 : Nat → ByteArray → ByteArray → Bool → List ByteArray → Bool → Option (ByteArray × List ByteArray × Int)
  | 0, _, _, _, _, _ => none
  | k + 1, x5, x6, x8, x9, x21 => if x21 = true then ((matrix_part.f x6 44).bind fun bt232 => (if bt232.2.2.2 = true then (if x9.length < 8796093022208 then (matrix_Parse.l0 k x5 bt232.2.1 bt232.2.2.1 bt232.2.2.2 (x9 ++ [bt232.1])) else (none)) else (matrix_Parse.l0 k x5 bt232.2.1 bt232.2.2.1 bt232.2.2.2 x9))) else (if x8 = true then (some (x5, x9, 0)) else (some ((⟨#[]⟩ : ByteArray), ([] : List ByteArray), 4)))
end
def matrix_Parse.f (k : Nat) (a0 : ByteArray) : Option (ByteArray × List ByteArray × Int) := (matrix_part.f a0 58).bind fun bt228 => (matrix_Parse.l0 k bt228.1 bt228.2.1 bt228.2.2.1 bt228.2.2.2 ([] : List ByteArray))
theorem matrix_Parse.mono_l : ∀ k, (∀ y0 y1 y2 y3 y4, LeO (matrix_Parse.l0 k y0 y1 y2 y3 y4) (matrix_Parse.l0 (k + 1) y0 y1 y2 y3 y4)) ∧ (∀ y0 y1 y2 y3 y4, LeO (matrix_Parse.j1 k y0 y1 y2 y3 y4) (matrix_Parse.j1 (k + 1) y0 y1 y2 y3 y4))
  | 0 => ⟨fun _ _ _ _ _ r h => by simp [matrix_Parse.l0] at h, fun _ _ _ _ _ r h => by simp [matrix_Parse.j1] at h⟩
  | k + 1 => by
    obtain ⟨ih0, ih1⟩ := matrix_Parse.mono_l k
    refine ⟨?_, ?_⟩
    · intro y0 y1 y2 y3 y4
      unfold matrix_Parse.l0
      repeat' first
      | (with_reducible exact ih0 _ _ _ _ _)
      | (with_reducible exact ih1 _ _ _ _ _)
      | (with_reducible exact LeO.refl _)
      | (with_reducible exact LeO.none _)
      | (with_reducible refine LeO.ite ?_ ?_)
      | (with_reducible refine LeO.bind ?_ (fun _ => ?_))
      | exact ih0 _ _ _ _ _
      | exact ih1 _ _ _ _ _
      | exact LeO.none _
      | refine LeO.ite ?_ ?_
      | refine LeO.bind ?_ (fun _ => ?_)
    · intro y0 y1 y2 y3 y4
      unfold matrix_Parse.j1
      repeat' first
      | (with_reducible exact ih0 _ _ _ _ _)
      | (with_reducible exact ih1 _ _ _ _ _)
      | (with_reducible exact LeO.refl _)
      | (with_reducible exact LeO.none _)
      | (with_reducible refine LeO.ite ?_ ?_)
      | (with_reducible refine LeO.bind ?_ (fun _ => ?_))
      | exact ih0 _ _ _ _ _
      | exact ih1 _ _ _ _ _
      | exact LeO.none _
      | refine LeO.ite ?_ ?_
      | refine LeO.bind ?_ (fun _ => ?_)
theorem matrix_Parse.mono : ∀ a0 k, LeO (matrix_Parse.f k a0) (matrix_Parse.f (k + 1) a0) := by
  intro a0 k
  obtain ⟨ih0, ih1⟩ := matrix_Parse.mono_l k
  unfold matrix_Parse.f
  repeat' first
      | (with_reducible exact ih0 _ _ _ _ _)
      | (with_reducible exact ih1 _ _ _ _ _)
      | (with_reducible exact LeO.refl _)
      | (with_reducible exact LeO.none _)
      | (with_reducible refine LeO.ite ?_ ?_)
      | (with_reducible refine LeO.bind ?_ (fun _ => ?_))
      | exact ih0 _ _ _ _ _
      | exact ih1 _ _ _ _ _
      | exact LeO.none _
      | refine LeO.ite ?_ ?_
      | refine LeO.bind ?_ (fun _ => ?_)
set_option maxHeartbeats 8000000 in
set_option maxRecDepth 100000 in
theorem matrix_Parse.calls (k : Nat) (a0 : ByteArray) (r1 : ByteArray) (r2 : List ByteArray) (r3 : Int) (w : World) (h : matrix_Parse.f k a0 = some (r1, r2, r3)) :
    Calls Tryd.prog 18 #[.string a0] w fun e w' => ∃ v1_ : Value, e = .returned (.tuple #[.string r1, v1_, .int .i64 r3]) ∧ Kd.R Kd.string 9 w' w.heap.size (fun _ => True) v1_ r2 ∧ Below w.heap.size w w' := by
  have HB := Aside0.mk (Below.refl w.heap.size w)
  have H : ((matrix_part.f a0 58).bind fun bt228 => (matrix_Parse.l0 k bt228.1 bt228.2.1 bt228.2.2.1 bt228.2.2.2 ([] : List ByteArray))) = some (r1, r2, r3) := h
  clear h
  replace H := Option.bind_eq_some_iff.mp H
  obtain ⟨⟨t228, t229, t230, t231⟩, A20, H⟩ := H
  replace H : (matrix_Parse.l0 k t228 t229 t230 t231 ([] : List ByteArray)) = some (r1, r2, r3) := H
  have A2 := Aside0.mk A20
  clear A20
  have H' := Aside0.mk H
  clear H
  go_enter Tryd.func18, Tryd.ntmps18
  go_wp2_with (first | ((with_reducible refine gate_callee (f := 26) rfl ?_); refine goesL_ (some 13) rfl rfl Tryd.func26 (by kernel_rfl) rfl #[.string a0, .int .u8 58] rfl (by (try simp only [List.map_toArray, List.map_cons, List.map_nil]); first | done | rfl | (simp only [List.length_drop, List.length_take]; rfl)) ?_; (with_reducible refine (matrix_part.calls a0 58 t228 t229 t230 t231 _ A2.out).mono ?_); rintro e w3 ⟨rfl, hb⟩; refine ⟨_, rfl, ?_⟩; have n0_ := Aside0.mk (below_step (by repeat (first | (with_reducible first | exact HB.out | apply below_alloc | apply pw_below_drewN | apply below_drew1) | exact HB.out)) hb); clear HB; have HB := n0_; clear n0_; (try clear hb); (try clear hb2); (try clear hk); (try clear hi)))
  go_loopg [6, 7, 8, 9] k (fun kq v6 v7 v8 v9 w' => ∃ (x6_1 : ByteArray) (x7_1 : Bool) (x8_1 : Bool) (x9_1 : List ByteArray), v6 = .string x6_1 ∧ v7 = .bool x7_1 ∧ v8 = .bool x8_1 ∧ Aside0 (matrix_Parse.l0 kq t228 x6_1 x7_1 x8_1 x9_1 = some (r1, r2, r3)) ∧ Aside0 (kq ≤ k) ∧ Aside0 (Kd.R Kd.string 9 w' w.heap.size (fun _ => True) v9 x9_1) ∧ Aside0 (Below w.heap.size w w'))
  case atStart => exact ⟨(t229), (t230), (t231), (([] : List ByteArray)), (by first | rfl | (simp; done) | (simp [*]; done)), (by first | rfl | (simp; done) | (simp [*]; done)), (by first | rfl | (simp; done) | (simp [*]; done)), H', ⟨Nat.le_refl _⟩, ⟨by first | exact Kd.R_nil _ _ _ _ _ | exact Kd.N_nil _ _ _ _ _ | exact Kd.V_nil _ _ _ _ _ | exact Kd.Q_nil _ _ _ _ _ | exact Kd.S_nil _ _ _ _ _⟩, ⟨by repeat (first | (with_reducible first | exact HB.out | apply below_alloc | apply pw_below_drewN | apply below_drew1) | exact HB.out)⟩⟩
  case round =>
    clear H'
    try clear c1
    try clear c2
    try clear p2
    obtain ⟨x6_1, x7_1, x8_1, x9_1, rfl, rfl, rfl, HA, HK1, HO_9, HB⟩ := hrel
    cases gk with
    | zero => exact absurd HA.out (by simp [matrix_Parse.l0])
    | succ k1 =>
      have H := HA.out
      clear HA
      simp only [matrix_Parse.l0] at H
      have HC4 := Aside0.mk H
      clear H
      go_upto_region 3 with (fail)
      go_cut [21] (fun v21 wc => ∃ (kq : Nat) (x21_3 : Bool), v21 = .bool x21_3 ∧ Aside0 (matrix_Parse.j1 kq t228 x6_1 x8_1 x9_1 x21_3 = some (r1, r2, r3)) ∧ Aside0 (kq ≤ k1) ∧ Aside0 (Kd.R Kd.string 9 wc w.heap.size (fun _ => True) u9 x9_1) ∧ Aside0 (Below w.heap.size w wc))
      case first =>
        have H := HC4.out
        clear HC4
        by_cases c5 : x8_1 = true
        · subst c5
          have H1 : (matrix_Parse.j1 k1 t228 x6_1 true x9_1 x7_1) = some (r1, r2, r3) := by rw [if_pos rfl] at H; exact H
          clear H
          have H := H1
          clear H1
          have H' := Aside0.mk H
          clear H
          go_wp2
          go_meet
          case rel => exact ⟨_, (x7_1), (by first | rfl | (simp; done) | (simp [*]; done)), H', ⟨by have := HK1.out; first | omega | exact Nat.le_refl _⟩, ⟨by (with_reducible repeat (first | apply Kd.R_alloc | apply Kd.R_drewN | apply Kd.R_drew)); exact HO_9.out⟩, ⟨by repeat (first | (with_reducible first | exact HB.out | apply below_alloc | apply pw_below_drewN | apply below_drew1) | exact HB.out)⟩⟩
        · replace c5 := Bool.eq_false_iff.mpr c5
          subst c5
          have H1 : (matrix_Parse.j1 k1 t228 x6_1 false x9_1 false) = some (r1, r2, r3) := by rw [if_neg (show ¬ (false = true) by decide)] at H; exact H
          clear H
          have H := H1
          clear H1
          have H' := Aside0.mk H
          clear H
          go_wp2
          go_meet
          case rel => exact ⟨_, (false), (by first | rfl | (simp; done) | (simp [*]; done)), H', ⟨by have := HK1.out; first | omega | exact Nat.le_refl _⟩, ⟨by (with_reducible repeat (first | apply Kd.R_alloc | apply Kd.R_drewN | apply Kd.R_drew)); exact HO_9.out⟩, ⟨by repeat (first | (with_reducible first | exact HB.out | apply below_alloc | apply pw_below_drewN | apply below_drew1) | exact HB.out)⟩⟩
      case rest =>
        clear HC4
        try clear c1
        try clear c2
        try clear p2
        try clear c5
        try clear p2
        obtain ⟨kq, x21_3, rfl, HA, HJ3, HO_9, HB⟩ := hcut
        cases kq with
        | zero => exact absurd HA.out (by simp [matrix_Parse.j1])
        | succ kj3 =>
          have H := HA.out
          clear HA
          simp only [matrix_Parse.j1] at H
          by_cases c6 : x21_3 = true
          · subst c6
            have H1 : ((matrix_part.f x6_1 44).bind fun bt232 => (if bt232.2.2.2 = true then (if x9_1.length < 8796093022208 then (matrix_Parse.l0 kj3 t228 bt232.2.1 bt232.2.2.1 bt232.2.2.2 (x9_1 ++ [bt232.1])) else (none)) else (matrix_Parse.l0 kj3 t228 bt232.2.1 bt232.2.2.1 bt232.2.2.2 x9_1))) = some (r1, r2, r3) := by rw [if_pos rfl] at H; exact H
            clear H
            have H := H1
            clear H1
            replace H := Option.bind_eq_some_iff.mp H
            obtain ⟨⟨t232, t233, t234, t235⟩, A70, H⟩ := H
            replace H : (if t235 = true then (if x9_1.length < 8796093022208 then (matrix_Parse.l0 kj3 t228 t233 t234 t235 (x9_1 ++ [t232])) else (none)) else (matrix_Parse.l0 kj3 t228 t233 t234 t235 x9_1)) = some (r1, r2, r3) := H
            have A7 := Aside0.mk A70
            clear A70
            by_cases c8 : t235 = true
            · subst c8
              have H1 : (if x9_1.length < 8796093022208 then (matrix_Parse.l0 kj3 t228 t233 t234 true (x9_1 ++ [t232])) else (none)) = some (r1, r2, r3) := by rw [if_pos rfl] at H; exact H
              clear H
              have H := H1
              clear H1
              by_cases c9 : x9_1.length < 8796093022208
              · rw [if_pos c9] at H
                have LMc9 := Aside0.mk c9
                clear c9
                obtain ⟨y236, hy236⟩ : ∃ y_ : List ByteArray, y_ = (x9_1 ++ [t232]) := ⟨_, rfl⟩
                replace H : (matrix_Parse.l0 kj3 t228 t233 t234 true y236) = some (r1, r2, r3) := by first | (rw [hy236]; with_reducible exact H) | (have H2_ := (Option.bind_some _ _).symm.trans H; rw [hy236]; with_reducible exact H2_) | (have H2_ := (Option.bind_some _ _).symm.trans H; with_reducible exact H2_) | with_reducible exact H | (rw [hy236]; exact H) | exact H
                have Ny236 := Aside0.mk hy236
                clear hy236
                have H' := Aside0.mk H
                clear H
                go_wp2_with (first | ((with_reducible refine gate_callee (f := 26) rfl ?_); refine goesL_ (some 24) rfl rfl Tryd.func26 (by kernel_rfl) rfl #[.string x6_1, .int .u8 44] rfl (by (try simp only [List.map_toArray, List.map_cons, List.map_nil]); first | done | rfl | (simp only [List.length_drop, List.length_take]; rfl)) ?_; (with_reducible refine (matrix_part.calls x6_1 44 t232 t233 t234 true _ A7.out).mono ?_); rintro e w10 ⟨rfl, hb⟩; refine ⟨_, rfl, ?_⟩; have n0_ := Aside0.mk (Kd.R_below (by (with_reducible repeat (first | apply Kd.R_alloc | apply Kd.R_drewN | apply Kd.R_drew)); exact HO_9.out) hb); have n1_ := Aside0.mk (below_step (by repeat (first | (with_reducible first | exact HB.out | apply below_alloc | apply pw_below_drewN | apply below_drew1) | exact HB.out)) hb); clear HO_9; clear HB; have HO_9 := n0_; have HB := n1_; clear n0_ n1_; (try clear hb); (try clear hb2); (try clear hk); (try clear hi)) | ((with_reducible refine gate_builtin (b := .append) (xs := #[.tmp 30, .tmp 32]) rfl ?_); at_builtin; refine Kd.R_append Kd.string (w0 := w) w.heap.size rfl (.tmp 30) (.tmp 32) 23 9 (.string ⟨#[]⟩) 16 rfl Tryd.underlying23 info9 rfl (by decide) (by omega) u9 x9_1 t232 [.string t232] (fun _ => True) (fun _ => False) rfl rfl ?aP (fun _ hk => hk.elim) ?aF ?aO ?aB ?aS ?aL ?_; (case aP => exact rfl); (case aB => exact (by repeat (first | (with_reducible first | exact HB.out | apply below_alloc | apply pw_below_drewN | apply below_drew1) | exact HB.out))); (case aF => exact (fun _ _ => trivial)); (case aO => exact (by (with_reducible repeat (first | apply Kd.R_alloc | apply Kd.R_drewN | apply Kd.R_drew)); exact HO_9.out)); (case aS => exact (below_size (by repeat (first | (with_reducible first | exact HB.out | apply below_alloc | apply pw_below_drewN | apply below_drew1) | exact HB.out)))); (case aL => have := LMc9.out; omega); intro v237 w11 ho hb hg hat; rw [← Ny236.out] at ho; have n0_ := Aside0.mk (hb); have n1_ := Aside0.mk (ho); clear HB; clear HO_9; have HB := n0_; have HO238 := n1_; clear n0_ n1_; clear ho hb hg hat))
                go_roundg kj3
                case measure => have := HK1.out; have := HJ3.out; omega
                case rel => exact ⟨(t233), (t234), (true), (y236), (by first | rfl | (simp; done) | (simp [*]; done)), (by first | rfl | (simp; done) | (simp [*]; done)), (by first | rfl | (simp; done) | (simp [*]; done)), H', ⟨by have := HK1.out; have := HJ3.out; omega⟩, ⟨by (with_reducible repeat (first | apply Kd.R_alloc | apply Kd.R_drewN | apply Kd.R_drew)); exact HO238.out⟩, ⟨by repeat (first | (with_reducible first | exact HB.out | apply below_alloc | apply pw_below_drewN | apply below_drew1) | exact HB.out)⟩⟩
              · rw [if_neg c9] at H
                exact absurd H (by simp)
            · replace c8 := Bool.eq_false_iff.mpr c8
              subst c8
              have H1 : (matrix_Parse.l0 kj3 t228 t233 t234 false x9_1) = some (r1, r2, r3) := by rw [if_neg (show ¬ (false = true) by decide)] at H; exact H
              clear H
              have H := H1
              clear H1
              have H' := Aside0.mk H
              clear H
              go_wp2_with (first | ((with_reducible refine gate_callee (f := 26) rfl ?_); refine goesL_ (some 24) rfl rfl Tryd.func26 (by kernel_rfl) rfl #[.string x6_1, .int .u8 44] rfl (by (try simp only [List.map_toArray, List.map_cons, List.map_nil]); first | done | rfl | (simp only [List.length_drop, List.length_take]; rfl)) ?_; (with_reducible refine (matrix_part.calls x6_1 44 t232 t233 t234 false _ A7.out).mono ?_); rintro e w12 ⟨rfl, hb⟩; refine ⟨_, rfl, ?_⟩; have n0_ := Aside0.mk (Kd.R_below (by (with_reducible repeat (first | apply Kd.R_alloc | apply Kd.R_drewN | apply Kd.R_drew)); exact HO_9.out) hb); have n1_ := Aside0.mk (below_step (by repeat (first | (with_reducible first | exact HB.out | apply below_alloc | apply pw_below_drewN | apply below_drew1) | exact HB.out)) hb); clear HO_9; clear HB; have HO_9 := n0_; have HB := n1_; clear n0_ n1_; (try clear hb); (try clear hb2); (try clear hk); (try clear hi)))
              go_roundg kj3
              case measure => have := HK1.out; have := HJ3.out; omega
              case rel => exact ⟨(t233), (t234), (false), (x9_1), (by first | rfl | (simp; done) | (simp [*]; done)), (by first | rfl | (simp; done) | (simp [*]; done)), (by first | rfl | (simp; done) | (simp [*]; done)), H', ⟨by have := HK1.out; have := HJ3.out; omega⟩, ⟨by (with_reducible repeat (first | apply Kd.R_alloc | apply Kd.R_drewN | apply Kd.R_drew)); exact HO_9.out⟩, ⟨by repeat (first | (with_reducible first | exact HB.out | apply below_alloc | apply pw_below_drewN | apply below_drew1) | exact HB.out)⟩⟩
          · replace c6 := Bool.eq_false_iff.mpr c6
            subst c6
            have H1 : (if x8_1 = true then (some (t228, x9_1, 0)) else (some ((⟨#[]⟩ : ByteArray), ([] : List ByteArray), 4))) = some (r1, r2, r3) := by rw [if_neg (show ¬ (false = true) by decide)] at H; exact H
            clear H
            have H := H1
            clear H1
            by_cases c13 : x8_1 = true
            · subst c13
              have H1 : (some (t228, x9_1, 0)) = some (r1, r2, r3) := by rw [if_pos rfl] at H; exact H
              clear H
              have H := H1
              clear H1
              simp only [Option.some.injEq, Prod.mk.injEq] at H
              obtain ⟨rfl, rfl, rfl⟩ := H
              go_wp2
              go_ret3
              exact ⟨_, by first | rfl | (simp [errW_none, errW_some] <;> rfl) | (simp [*, errW_none, errW_some] <;> rfl), by (with_reducible repeat (first | apply Kd.R_alloc | apply Kd.R_drewN | apply Kd.R_drew)); exact HO_9.out, by repeat (first | (with_reducible first | exact HB.out | apply below_alloc | apply pw_below_drewN | apply below_drew1) | exact HB.out)⟩
            · replace c13 := Bool.eq_false_iff.mpr c13
              subst c13
              have H1 : (some ((⟨#[]⟩ : ByteArray), ([] : List ByteArray), 4)) = some (r1, r2, r3) := by rw [if_neg (show ¬ (false = true) by decide)] at H; exact H
              clear H
              have H := H1
              clear H1
              simp only [Option.some.injEq, Prod.mk.injEq] at H
              obtain ⟨rfl, rfl, rfl⟩ := H
              go_wp2
              go_ret3
              exact ⟨_, by first | rfl | (simp [errW_none, errW_some] <;> rfl) | (simp [*, errW_none, errW_some] <;> rfl), by first | exact Kd.R_nil _ _ _ _ _ | exact Kd.N_nil _ _ _ _ _ | exact Kd.V_nil _ _ _ _ _ | exact Kd.Q_nil _ _ _ _ _ | exact Kd.S_nil _ _ _ _ _, by repeat (first | (with_reducible first | exact HB.out | apply below_alloc | apply pw_below_drewN | apply below_drew1) | exact HB.out)⟩

/-! ### bastionref14_Parse: function 19 -/
mutual
def bastionref14_Parse.l0 : Nat → ByteArray → ByteArray → List ByteArray → ByteArray → Bool → Int → Option (ByteArray × List ByteArray × Int)
  | 0, _, _, _, _, _, _ => none
  | k + 1, x0, x5, x6, x7, x8, x9 => if x9 < (x0.size : Int) then (if x8 = true then (bastionref14_Parse.j1 k x0 x5 x6 x7 x8 x9 44) else (bastionref14_Parse.j1 k x0 x5 x6 x7 x8 x9 58)) else (if x8 = true then (if x6.length < 8796093022208 then (some (x5, (x6 ++ [x7]), 0)) else (none)) else (some (x7, x6, 0)))
def bastionref14_Parse.j1 : Nat → ByteArray → ByteArray → List ByteArray → ByteArray → Bool → Int → Int → Option (ByteArray × List ByteArray × Int)
  | 0, _, _, _, _, _, _, _ => none
  | k + 1, x0, x5, x6, x7, x8, x9, x10 => if 0 ≤ x9 then (if x9 < (x0.size : Int) then (if (bt x0 x9) = 92 then (if (wrap64 (x9 + 1)) ≥ (x0.size : Int) then (some ((⟨#[]⟩ : ByteArray), ([] : List ByteArray), 4)) else (if 0 ≤ (wrap64 (x9 + 1)) then (if (wrap64 (x9 + 1)) < (x0.size : Int) then (if (bt x0 (wrap64 (x9 + 1))) = 92 then (if (wrap64 (x9 + 1)) ≤ (wrap64 ((wrap64 (x9 + 1)) + 1)) then (if (wrap64 ((wrap64 (x9 + 1)) + 1)) ≤ (x0.size : Int) then (if x7.size + (x0.extract ((wrap64 (x9 + 1)) : Int).toNat ((wrap64 ((wrap64 (x9 + 1)) + 1)) : Int).toNat).size ≤ 9223372036854775807 then (bastionref14_Parse.l0 k x0 x5 x6 (x7 ++ (x0.extract ((wrap64 (x9 + 1)) : Int).toNat ((wrap64 ((wrap64 (x9 + 1)) + 1)) : Int).toNat)) x8 (wrap64 ((wrap64 (x9 + 1)) + 1))) else (none)) else (none)) else (none)) else (if (bt x0 (wrap64 (x9 + 1))) = x10 then (if (wrap64 (x9 + 1)) ≤ (wrap64 ((wrap64 (x9 + 1)) + 1)) then (if (wrap64 ((wrap64 (x9 + 1)) + 1)) ≤ (x0.size : Int) then (if x7.size + (x0.extract ((wrap64 (x9 + 1)) : Int).toNat ((wrap64 ((wrap64 (x9 + 1)) + 1)) : Int).toNat).size ≤ 9223372036854775807 then (bastionref14_Parse.l0 k x0 x5 x6 (x7 ++ (x0.extract ((wrap64 (x9 + 1)) : Int).toNat ((wrap64 ((wrap64 (x9 + 1)) + 1)) : Int).toNat)) x8 (wrap64 ((wrap64 (x9 + 1)) + 1))) else (none)) else (none)) else (none)) else (some ((⟨#[]⟩ : ByteArray), ([] : List ByteArray), 4)))) else (none)) else (none))) else (if (bt x0 x9) = x10 then (if x8 = true then (if x6.length < 8796093022208 then (bastionref14_Parse.l0 k x0 x5 (x6 ++ [x7]) (⟨#[]⟩ : ByteArray) true (wrap64 (x9 + 1))) else (none)) else (bastionref14_Parse.l0 k x0 x7 x6 (⟨#[]⟩ : ByteArray) true (wrap64 (x9 + 1)))) else (if x9 ≤ (wrap64 (x9 + 1)) then (if (wrap64 (x9 + 1)) ≤ (x0.size : Int) then (if x7.size + (x0.extract (x9 : Int).toNat ((wrap64 (x9 + 1)) : Int).toNat).size ≤ 9223372036854775807 then (bastionref14_Parse.l0 k x0 x5 x6 (x7 ++ (x0.extract (x9 : Int).toNat ((wrap64 (x9 + 1)) : Int).toNat)) x8 (wrap64 (x9 + 1))) else (none)) else (none)) else (none)))) else (none)) else (none)
end
def bastionref14_Parse.f (k : Nat) (a0 : ByteArray) : Option (ByteArray × List ByteArray × Int) := bastionref14_Parse.l0 k a0 (⟨#[]⟩ : ByteArray) ([] : List ByteArray) (⟨#[]⟩ : ByteArray) false 0
theorem bastionref14_Parse.mono_l : ∀ k, (∀ y0 y1 y2 y3 y4 y5, LeO (bastionref14_Parse.l0 k y0 y1 y2 y3 y4 y5) (bastionref14_Parse.l0 (k + 1) y0 y1 y2 y3 y4 y5)) ∧ (∀ y0 y1 y2 y3 y4 y5 y6, LeO (bastionref14_Parse.j1 k y0 y1 y2 y3 y4 y5 y6) (bastionref14_Parse.j1 (k + 1) y0 y1 y2 y3 y4 y5 y6))
  | 0 => ⟨fun _ _ _ _ _ _ r h => by simp [bastionref14_Parse.l0] at h, fun _ _ _ _ _ _ _ r h => by simp [bastionref14_Parse.j1] at h⟩
  | k + 1 => by
    obtain ⟨ih0, ih1⟩ := bastionref14_Parse.mono_l k
    refine ⟨?_, ?_⟩
    · intro y0 y1 y2 y3 y4 y5
      unfold bastionref14_Parse.l0
      repeat' first
      | (with_reducible exact ih0 _ _ _ _ _ _)
      | (with_reducible exact ih1 _ _ _ _ _ _ _)
      | (with_reducible exact LeO.refl _)
      | (with_reducible exact LeO.none _)
      | (with_reducible refine LeO.ite ?_ ?_)
      | (with_reducible refine LeO.bind ?_ (fun _ => ?_))
      | exact ih0 _ _ _ _ _ _
      | exact ih1 _ _ _ _ _ _ _
      | exact LeO.none _
      | refine LeO.ite ?_ ?_
      | refine LeO.bind ?_ (fun _ => ?_)
    · intro y0 y1 y2 y3 y4 y5 y6
      unfold bastionref14_Parse.j1
      repeat' first
      | (with_reducible exact ih0 _ _ _ _ _ _)
      | (with_reducible exact ih1 _ _ _ _ _ _ _)
      | (with_reducible exact LeO.refl _)
      | (with_reducible exact LeO.none _)
      | (with_reducible refine LeO.ite ?_ ?_)
      | (with_reducible refine LeO.bind ?_ (fun _ => ?_))
      | exact ih0 _ _ _ _ _ _
      | exact ih1 _ _ _ _ _ _ _
      | exact LeO.none _
      | refine LeO.ite ?_ ?_
      | refine LeO.bind ?_ (fun _ => ?_)
theorem bastionref14_Parse.mono : ∀ a0 k, LeO (bastionref14_Parse.f k a0) (bastionref14_Parse.f (k + 1) a0) := by
  intro a0 k
  obtain ⟨ih0, ih1⟩ := bastionref14_Parse.mono_l k
  unfold bastionref14_Parse.f
  repeat' first
      | (with_reducible exact ih0 _ _ _ _ _ _)
      | (with_reducible exact ih1 _ _ _ _ _ _ _)
      | (with_reducible exact LeO.refl _)
      | (with_reducible exact LeO.none _)
      | (with_reducible refine LeO.ite ?_ ?_)
      | (with_reducible refine LeO.bind ?_ (fun _ => ?_))
      | exact ih0 _ _ _ _ _ _
      | exact ih1 _ _ _ _ _ _ _
      | exact LeO.none _
      | refine LeO.ite ?_ ?_
      | refine LeO.bind ?_ (fun _ => ?_)
set_option maxHeartbeats 8000000 in
set_option maxRecDepth 100000 in
theorem bastionref14_Parse.calls (k : Nat) (a0 : ByteArray) (r1 : ByteArray) (r2 : List ByteArray) (r3 : Int) (w : World) (h : bastionref14_Parse.f k a0 = some (r1, r2, r3)) :
    Calls Tryd.prog 19 #[.string a0] w fun e w' => ∃ v1_ : Value, e = .returned (.tuple #[.string r1, v1_, .int .i64 r3]) ∧ Kd.R Kd.string 9 w' w.heap.size (fun _ => True) v1_ r2 ∧ Below w.heap.size w w' := by
  have HB := Aside0.mk (Below.refl w.heap.size w)
  have H : (bastionref14_Parse.l0 k a0 (⟨#[]⟩ : ByteArray) ([] : List ByteArray) (⟨#[]⟩ : ByteArray) false 0) = some (r1, r2, r3) := h
  clear h
  have H' := Aside0.mk H
  clear H
  go_enter Tryd.func19, Tryd.ntmps19
  go_wp2
  go_loopg [5, 6, 7, 8, 9] k (fun kq v5 v6 v7 v8 v9 w' => ∃ (x5_1 : ByteArray) (x6_1 : List ByteArray) (x7_1 : ByteArray) (x8_1 : Bool) (x9_1 : Int), v5 = .string x5_1 ∧ v7 = .string x7_1 ∧ v8 = .bool x8_1 ∧ v9 = .int .i64 x9_1 ∧ Aside0 (bastionref14_Parse.l0 kq a0 x5_1 x6_1 x7_1 x8_1 x9_1 = some (r1, r2, r3)) ∧ Aside0 (kq ≤ k) ∧ Aside0 (Kd.R Kd.string 9 w' w.heap.size (fun _ => True) v6 x6_1) ∧ Aside0 (Below w.heap.size w w'))
  case atStart => exact ⟨((⟨#[]⟩ : ByteArray)), (([] : List ByteArray)), ((⟨#[]⟩ : ByteArray)), (false), (0), (by first | rfl | (simp; done) | (simp [*]; done)), (by first | rfl | (simp; done) | (simp [*]; done)), (by first | rfl | (simp; done) | (simp [*]; done)), (by first | rfl | (simp; done) | (simp [*]; done)), H', ⟨Nat.le_refl _⟩, ⟨by first | exact Kd.R_nil _ _ _ _ _ | exact Kd.N_nil _ _ _ _ _ | exact Kd.V_nil _ _ _ _ _ | exact Kd.Q_nil _ _ _ _ _ | exact Kd.S_nil _ _ _ _ _⟩, ⟨by repeat (first | (with_reducible first | exact HB.out | apply below_alloc | apply pw_below_drewN | apply below_drew1) | exact HB.out)⟩⟩
  case round =>
    clear H'
    try clear c1
    obtain ⟨x5_1, x6_1, x7_1, x8_1, x9_1, rfl, rfl, rfl, rfl, HA, HK1, HO_6, HB⟩ := hrel
    cases gk with
    | zero => exact absurd HA.out (by simp [bastionref14_Parse.l0])
    | succ k1 =>
      have H := HA.out
      clear HA
      simp only [bastionref14_Parse.l0] at H
      by_cases c2 : x9_1 < (a0.size : Int)
      · rw [if_pos c2] at H
        have c2b0 : decide (x9_1 < (a0.size : Int)) = true := decide_eq_true c2
        clear c2
        have HC3 := Aside0.mk H
        clear H
        go_upto_if 17 with (fail)
        go_cut [10] (fun v10 wc => ∃ (kq : Nat) (x10_2 : Int), v10 = .int .u8 x10_2 ∧ Aside0 (bastionref14_Parse.j1 kq a0 x5_1 x6_1 x7_1 x8_1 x9_1 x10_2 = some (r1, r2, r3)) ∧ Aside0 (kq ≤ k1) ∧ Aside0 (Kd.R Kd.string 9 wc w.heap.size (fun _ => True) u6 x6_1) ∧ Aside0 (Below w.heap.size w wc))
        case first =>
          have H := HC3.out
          clear HC3
          by_cases c4 : x8_1 = true
          · subst c4
            have H1 : (bastionref14_Parse.j1 k1 a0 x5_1 x6_1 x7_1 true x9_1 44) = some (r1, r2, r3) := by rw [if_pos rfl] at H; exact H
            clear H
            have H := H1
            clear H1
            have H' := Aside0.mk H
            clear H
            go_wp2
            go_meet
            case rel => exact ⟨_, (44), (by first | rfl | (simp; done) | (simp [*]; done)), H', ⟨by have := HK1.out; first | omega | exact Nat.le_refl _⟩, ⟨by (with_reducible repeat (first | apply Kd.R_alloc | apply Kd.R_drewN | apply Kd.R_drew)); exact HO_6.out⟩, ⟨by repeat (first | (with_reducible first | exact HB.out | apply below_alloc | apply pw_below_drewN | apply below_drew1) | exact HB.out)⟩⟩
          · replace c4 := Bool.eq_false_iff.mpr c4
            subst c4
            have H1 : (bastionref14_Parse.j1 k1 a0 x5_1 x6_1 x7_1 false x9_1 58) = some (r1, r2, r3) := by rw [if_neg (show ¬ (false = true) by decide)] at H; exact H
            clear H
            have H := H1
            clear H1
            have H' := Aside0.mk H
            clear H
            go_wp2
            go_meet
            case rel => exact ⟨_, (58), (by first | rfl | (simp; done) | (simp [*]; done)), H', ⟨by have := HK1.out; first | omega | exact Nat.le_refl _⟩, ⟨by (with_reducible repeat (first | apply Kd.R_alloc | apply Kd.R_drewN | apply Kd.R_drew)); exact HO_6.out⟩, ⟨by repeat (first | (with_reducible first | exact HB.out | apply below_alloc | apply pw_below_drewN | apply below_drew1) | exact HB.out)⟩⟩
        case rest =>
          clear HC3
          try clear c1
          try clear c2
          try clear c2b0
          try clear p2
          try clear c4
          obtain ⟨kq, x10_2, rfl, HA, HJ2, HO_6, HB⟩ := hcut
          cases kq with
          | zero => exact absurd HA.out (by simp [bastionref14_Parse.j1])
          | succ kj2 =>
            have H := HA.out
            clear HA
            simp only [bastionref14_Parse.j1] at H
            by_cases c5 : 0 ≤ x9_1
            · rw [if_pos c5] at H
              have c5b0 : decide (0 ≤ x9_1) = true := decide_eq_true c5
              clear c5
              by_cases c6 : x9_1 < (a0.size : Int)
              · rw [if_pos c6] at H
                have c6b0 : decide (x9_1 < (a0.size : Int)) = true := decide_eq_true c6
                clear c6
                by_cases c8 : (bt a0 x9_1) = 92
                · rw [if_pos c8] at H
                  have c8b0 : ((bt a0 x9_1) == 92) = true := beq_iff_eq.mpr c8
                  have c8b1 : ((bt a0 x9_1) != 92) = false := bne_eq_false_iff_eq.mpr c8
                  clear c8
                  by_cases c9 : (wrap64 (x9_1 + 1)) ≥ (a0.size : Int)
                  · rw [if_pos c9] at H
                    have c9b0 : decide ((a0.size : Int) ≤ (wrap64 (x9_1 + 1))) = true := decide_eq_true c9
                    clear c9
                    simp only [Option.some.injEq, Prod.mk.injEq] at H
                    obtain ⟨rfl, rfl, rfl⟩ := H
                    have p7 : 0 ≤ (x9_1 : Int) := of_decide_eq_true (by first | (with_reducible assumption) | assumption)
                    have q7 : x9_1 < (a0.size : Int) := of_decide_eq_true (by first | (with_reducible assumption) | assumption)
                    have hx7 := bt_at a0 x9_1
                    replace p7 := eq_true p7
                    replace q7 := eq_true q7
                    go_wp2
                    go_ret3
                    exact ⟨_, by first | rfl | (simp [errW_none, errW_some] <;> rfl) | (simp [*, errW_none, errW_some] <;> rfl), by first | exact Kd.R_nil _ _ _ _ _ | exact Kd.N_nil _ _ _ _ _ | exact Kd.V_nil _ _ _ _ _ | exact Kd.Q_nil _ _ _ _ _ | exact Kd.S_nil _ _ _ _ _, by repeat (first | (with_reducible first | exact HB.out | apply below_alloc | apply pw_below_drewN | apply below_drew1) | exact HB.out)⟩
                  · rw [if_neg c9] at H
                    have c9b0 : decide ((a0.size : Int) ≤ (wrap64 (x9_1 + 1))) = false := decide_eq_false c9
                    clear c9
                    obtain ⟨ji10, hji10⟩ : ∃ j_ : Int, (wrap64 (x9_1 + 1)) = j_ := ⟨_, rfl⟩
                    replace H : (if 0 ≤ (ji10) then (if (ji10) < (a0.size : Int) then (if (bt a0 (ji10)) = 92 then (if (ji10) ≤ (wrap64 ((ji10) + 1)) then (if (wrap64 ((ji10) + 1)) ≤ (a0.size : Int) then (if x7_1.size + (a0.extract ((ji10) : Int).toNat ((wrap64 ((ji10) + 1)) : Int).toNat).size ≤ 9223372036854775807 then (bastionref14_Parse.l0 kj2 a0 x5_1 x6_1 (x7_1 ++ (a0.extract ((ji10) : Int).toNat ((wrap64 ((ji10) + 1)) : Int).toNat)) x8_1 (wrap64 ((ji10) + 1))) else (none)) else (none)) else (none)) else (if (bt a0 (ji10)) = x10_2 then (if (ji10) ≤ (wrap64 ((ji10) + 1)) then (if (wrap64 ((ji10) + 1)) ≤ (a0.size : Int) then (if x7_1.size + (a0.extract ((ji10) : Int).toNat ((wrap64 ((ji10) + 1)) : Int).toNat).size ≤ 9223372036854775807 then (bastionref14_Parse.l0 kj2 a0 x5_1 x6_1 (x7_1 ++ (a0.extract ((ji10) : Int).toNat ((wrap64 ((ji10) + 1)) : Int).toNat)) x8_1 (wrap64 ((ji10) + 1))) else (none)) else (none)) else (none)) else (some ((⟨#[]⟩ : ByteArray), ([] : List ByteArray), 4)))) else (none)) else (none)) = some (r1, r2, r3) := by first | (rw [hji10] at H; exact H) | (simp only [hji10] at H ⊢; exact H)
                    (try rw [hji10] at c9b0)
                    have hji10w : (IntKind.i64.wrap (x9_1 + 1)) = ji10 := (i64_w _).trans hji10
                    by_cases c11 : 0 ≤ (ji10)
                    · rw [if_pos c11] at H
                      have c11b0 : decide (0 ≤ (ji10)) = true := decide_eq_true c11
                      clear c11
                      by_cases c12 : (ji10) < (a0.size : Int)
                      · rw [if_pos c12] at H
                        have c12b0 : decide ((ji10) < (a0.size : Int)) = true := decide_eq_true c12
                        clear c12
                        by_cases c14 : (bt a0 (ji10)) = 92
                        · rw [if_pos c14] at H
                          have c14b0 : ((bt a0 (ji10)) == 92) = true := beq_iff_eq.mpr c14
                          have c14b1 : ((bt a0 (ji10)) != 92) = false := bne_eq_false_iff_eq.mpr c14
                          clear c14
                          have c15b0 := eq_true (of_decide_eq_true (by first | (with_reducible assumption) | assumption) : 0 ≤ (ji10))
                          by_cases c16 : (ji10) ≤ (wrap64 ((ji10) + 1))
                          · rw [if_pos c16] at H
                            have c16b0 := eq_true c16
                            have c16b1 : decide ((ji10) ≤ (wrap64 ((ji10) + 1))) = true := decide_eq_true c16
                            by_cases c17 : (wrap64 ((ji10) + 1)) ≤ (a0.size : Int)
                            · rw [if_pos c17] at H
                              have c17b0 := eq_true c17
                              have c17b1 : decide ((wrap64 ((ji10) + 1)) ≤ (a0.size : Int)) = true := decide_eq_true c17
                              by_cases c18 : x7_1.size + (a0.extract ((ji10) : Int).toNat ((wrap64 ((ji10) + 1)) : Int).toNat).size ≤ 9223372036854775807
                              · rw [if_pos c18] at H
                                have c18b0 := eq_true c18
                                have c18b1 : decide (x7_1.size + (a0.extract ((ji10) : Int).toNat ((wrap64 ((ji10) + 1)) : Int).toNat).size ≤ 9223372036854775807) = true := decide_eq_true c18
                                try have c18b2 : (9223372036854775807 < x7_1.size + (a0.extract ((ji10) : Int).toNat ((wrap64 ((ji10) + 1)) : Int).toNat).size) = False := eq_false (Nat.not_lt.2 c18)
                                have H' := Aside0.mk H
                                clear H
                                have p7 : 0 ≤ (x9_1 : Int) := of_decide_eq_true (by first | (with_reducible assumption) | assumption)
                                have q7 : x9_1 < (a0.size : Int) := of_decide_eq_true (by first | (with_reducible assumption) | assumption)
                                have hx7 := bt_at a0 x9_1
                                replace p7 := eq_true p7
                                replace q7 := eq_true q7
                                have p13 : 0 ≤ ((ji10) : Int) := of_decide_eq_true (by first | (with_reducible assumption) | assumption)
                                have q13 : (ji10) < (a0.size : Int) := of_decide_eq_true (by first | (with_reducible assumption) | assumption)
                                have hx13 := bt_at a0 (ji10)
                                replace p13 := eq_true p13
                                replace q13 := eq_true q13
                                go_wp2
                                go_roundg kj2
                                case measure => have := HK1.out; have := HJ2.out; omega
                                case rel => exact ⟨(x5_1), (x6_1), (x7_1 ++ (a0.extract ((ji10) : Int).toNat ((wrap64 ((ji10) + 1)) : Int).toNat)), (x8_1), (wrap64 ((ji10) + 1)), (by first | rfl | (simp; done) | (simp [*]; done)), (by first | rfl | (simp; done) | (simp only [← hji10] <;> (first | rfl | simp)) | (simp [*]; done)), (by first | rfl | (simp; done) | (simp [*]; done)), (by first | rfl | (simp; done) | (simp only [← hji10] <;> (first | rfl | simp)) | (simp [*]; done)), H', ⟨by have := HK1.out; have := HJ2.out; omega⟩, ⟨by (with_reducible repeat (first | apply Kd.R_alloc | apply Kd.R_drewN | apply Kd.R_drew)); exact HO_6.out⟩, ⟨by repeat (first | (with_reducible first | exact HB.out | apply below_alloc | apply pw_below_drewN | apply below_drew1) | exact HB.out)⟩⟩
                              · rw [if_neg c18] at H
                                exact absurd H (by simp)
                            · rw [if_neg c17] at H
                              exact absurd H (by simp)
                          · rw [if_neg c16] at H
                            exact absurd H (by simp)
                        · rw [if_neg c14] at H
                          have c14b0 : ((bt a0 (ji10)) == 92) = false := beq_eq_false_iff_ne.mpr c14
                          have c14b1 : ((bt a0 (ji10)) != 92) = true := bne_iff_ne.mpr c14
                          by_cases c20 : (bt a0 (ji10)) = x10_2
                          · rw [if_pos c20] at H
                            have c20b0 : ((bt a0 (ji10)) == x10_2) = true := beq_iff_eq.mpr c20
                            have c20b1 : ((bt a0 (ji10)) != x10_2) = false := bne_eq_false_iff_eq.mpr c20
                            clear c20
                            have c21b0 := eq_true (of_decide_eq_true (by first | (with_reducible assumption) | assumption) : 0 ≤ (ji10))
                            by_cases c22 : (ji10) ≤ (wrap64 ((ji10) + 1))
                            · rw [if_pos c22] at H
                              have c22b0 := eq_true c22
                              have c22b1 : decide ((ji10) ≤ (wrap64 ((ji10) + 1))) = true := decide_eq_true c22
                              by_cases c23 : (wrap64 ((ji10) + 1)) ≤ (a0.size : Int)
                              · rw [if_pos c23] at H
                                have c23b0 := eq_true c23
                                have c23b1 : decide ((wrap64 ((ji10) + 1)) ≤ (a0.size : Int)) = true := decide_eq_true c23
                                by_cases c24 : x7_1.size + (a0.extract ((ji10) : Int).toNat ((wrap64 ((ji10) + 1)) : Int).toNat).size ≤ 9223372036854775807
                                · rw [if_pos c24] at H
                                  have c24b0 := eq_true c24
                                  have c24b1 : decide (x7_1.size + (a0.extract ((ji10) : Int).toNat ((wrap64 ((ji10) + 1)) : Int).toNat).size ≤ 9223372036854775807) = true := decide_eq_true c24
                                  try have c24b2 : (9223372036854775807 < x7_1.size + (a0.extract ((ji10) : Int).toNat ((wrap64 ((ji10) + 1)) : Int).toNat).size) = False := eq_false (Nat.not_lt.2 c24)
                                  have H' := Aside0.mk H
                                  clear H
                                  have p7 : 0 ≤ (x9_1 : Int) := of_decide_eq_true (by first | (with_reducible assumption) | assumption)
                                  have q7 : x9_1 < (a0.size : Int) := of_decide_eq_true (by first | (with_reducible assumption) | assumption)
                                  have hx7 := bt_at a0 x9_1
                                  replace p7 := eq_true p7
                                  replace q7 := eq_true q7
                                  have p13 : 0 ≤ ((ji10) : Int) := of_decide_eq_true (by first | (with_reducible assumption) | assumption)
                                  have q13 : (ji10) < (a0.size : Int) := of_decide_eq_true (by first | (with_reducible assumption) | assumption)
                                  have hx13 := bt_at a0 (ji10)
                                  replace p13 := eq_true p13
                                  replace q13 := eq_true q13
                                  have p19 : 0 ≤ ((ji10) : Int) := of_decide_eq_true (by first | (with_reducible assumption) | assumption)
                                  have q19 : (ji10) < (a0.size : Int) := of_decide_eq_true (by first | (with_reducible assumption) | assumption)
                                  have hx19 := bt_at a0 (ji10)
                                  replace p19 := eq_true p19
                                  replace q19 := eq_true q19
                                  go_wp2
                                  go_roundg kj2
                                  case measure => have := HK1.out; have := HJ2.out; omega
                                  case rel => exact ⟨(x5_1), (x6_1), (x7_1 ++ (a0.extract ((ji10) : Int).toNat ((wrap64 ((ji10) + 1)) : Int).toNat)), (x8_1), (wrap64 ((ji10) + 1)), (by first | rfl | (simp; done) | (simp [*]; done)), (by first | rfl | (simp; done) | (simp only [← hji10] <;> (first | rfl | simp)) | (simp [*]; done)), (by first | rfl | (simp; done) | (simp [*]; done)), (by first | rfl | (simp; done) | (simp only [← hji10] <;> (first | rfl | simp)) | (simp [*]; done)), H', ⟨by have := HK1.out; have := HJ2.out; omega⟩, ⟨by (with_reducible repeat (first | apply Kd.R_alloc | apply Kd.R_drewN | apply Kd.R_drew)); exact HO_6.out⟩, ⟨by repeat (first | (with_reducible first | exact HB.out | apply below_alloc | apply pw_below_drewN | apply below_drew1) | exact HB.out)⟩⟩
                                · rw [if_neg c24] at H
                                  exact absurd H (by simp)
                              · rw [if_neg c23] at H
                                exact absurd H (by simp)
                            · rw [if_neg c22] at H
                              exact absurd H (by simp)
                          · rw [if_neg c20] at H
                            have c20b0 : ((bt a0 (ji10)) == x10_2) = false := beq_eq_false_iff_ne.mpr c20
                            have c20b1 : ((bt a0 (ji10)) != x10_2) = true := bne_iff_ne.mpr c20
                            simp only [Option.some.injEq, Prod.mk.injEq] at H
                            obtain ⟨rfl, rfl, rfl⟩ := H
                            have p7 : 0 ≤ (x9_1 : Int) := of_decide_eq_true (by first | (with_reducible assumption) | assumption)
                            have q7 : x9_1 < (a0.size : Int) := of_decide_eq_true (by first | (with_reducible assumption) | assumption)
                            have hx7 := bt_at a0 x9_1
                            replace p7 := eq_true p7
                            replace q7 := eq_true q7
                            have p13 : 0 ≤ ((ji10) : Int) := of_decide_eq_true (by first | (with_reducible assumption) | assumption)
                            have q13 : (ji10) < (a0.size : Int) := of_decide_eq_true (by first | (with_reducible assumption) | assumption)
                            have hx13 := bt_at a0 (ji10)
                            replace p13 := eq_true p13
                            replace q13 := eq_true q13
                            have p19 : 0 ≤ ((ji10) : Int) := of_decide_eq_true (by first | (with_reducible assumption) | assumption)
                            have q19 : (ji10) < (a0.size : Int) := of_decide_eq_true (by first | (with_reducible assumption) | assumption)
                            have hx19 := bt_at a0 (ji10)
                            replace p19 := eq_true p19
                            replace q19 := eq_true q19
                            go_wp2
                            go_ret3
                            exact ⟨_, by first | rfl | (simp [errW_none, errW_some] <;> rfl) | (simp only [← hji10]; first | rfl | (simp [errW_none, errW_some] <;> rfl)) | (simp [*, errW_none, errW_some] <;> rfl), by first | exact Kd.R_nil _ _ _ _ _ | exact Kd.N_nil _ _ _ _ _ | exact Kd.V_nil _ _ _ _ _ | exact Kd.Q_nil _ _ _ _ _ | exact Kd.S_nil _ _ _ _ _, by repeat (first | (with_reducible first | exact HB.out | apply below_alloc | apply pw_below_drewN | apply below_drew1) | exact HB.out)⟩
                      · rw [if_neg c12] at H
                        exact absurd H (by simp)
                    · rw [if_neg c11] at H
                      exact absurd H (by simp)
                · rw [if_neg c8] at H
                  have c8b0 : ((bt a0 x9_1) == 92) = false := beq_eq_false_iff_ne.mpr c8
                  have c8b1 : ((bt a0 x9_1) != 92) = true := bne_iff_ne.mpr c8
                  by_cases c25 : (bt a0 x9_1) = x10_2
                  · rw [if_pos c25] at H
                    have c25b0 : ((bt a0 x9_1) == x10_2) = true := beq_iff_eq.mpr c25
                    have c25b1 : ((bt a0 x9_1) != x10_2) = false := bne_eq_false_iff_eq.mpr c25
                    clear c25
                    by_cases c26 : x8_1 = true
                    · subst c26
                      have H1 : (if x6_1.length < 8796093022208 then (bastionref14_Parse.l0 kj2 a0 x5_1 (x6_1 ++ [x7_1]) (⟨#[]⟩ : ByteArray) true (wrap64 (x9_1 + 1))) else (none)) = some (r1, r2, r3) := by rw [if_pos rfl] at H; exact H
                      clear H
                      have H := H1
                      clear H1
                      by_cases c27 : x6_1.length < 8796093022208
                      · rw [if_pos c27] at H
                        have LMc27 := Aside0.mk c27
                        clear c27
                        obtain ⟨y242, hy242⟩ : ∃ y_ : List ByteArray, y_ = (x6_1 ++ [x7_1]) := ⟨_, rfl⟩
                        replace H : (bastionref14_Parse.l0 kj2 a0 x5_1 y242 (⟨#[]⟩ : ByteArray) true (wrap64 (x9_1 + 1))) = some (r1, r2, r3) := by first | (rw [hy242]; with_reducible exact H) | (have H2_ := (Option.bind_some _ _).symm.trans H; rw [hy242]; with_reducible exact H2_) | (have H2_ := (Option.bind_some _ _).symm.trans H; with_reducible exact H2_) | with_reducible exact H | (rw [hy242]; exact H) | exact H
                        have Ny242 := Aside0.mk hy242
                        clear hy242
                        have H' := Aside0.mk H
                        clear H
                        have p7 : 0 ≤ (x9_1 : Int) := of_decide_eq_true (by first | (with_reducible assumption) | assumption)
                        have q7 : x9_1 < (a0.size : Int) := of_decide_eq_true (by first | (with_reducible assumption) | assumption)
                        have hx7 := bt_at a0 x9_1
                        replace p7 := eq_true p7
                        replace q7 := eq_true q7
                        go_wp2_with (first | ((with_reducible refine gate_builtin (b := .append) (xs := #[.tmp 63, .tmp 65]) rfl ?_); at_builtin; refine Kd.R_append Kd.string (w0 := w) w.heap.size rfl (.tmp 63) (.tmp 65) 23 9 (.string ⟨#[]⟩) 16 rfl Tryd.underlying23 info9 rfl (by decide) (by omega) u6 x6_1 x7_1 [.string x7_1] (fun _ => True) (fun _ => False) rfl rfl ?aP (fun _ hk => hk.elim) ?aF ?aO ?aB ?aS ?aL ?_; (case aP => exact rfl); (case aB => exact (by repeat (first | (with_reducible first | exact HB.out | apply below_alloc | apply pw_below_drewN | apply below_drew1) | exact HB.out))); (case aF => exact (fun _ _ => trivial)); (case aO => exact (by (with_reducible repeat (first | apply Kd.R_alloc | apply Kd.R_drewN | apply Kd.R_drew)); exact HO_6.out)); (case aS => exact (below_size (by repeat (first | (with_reducible first | exact HB.out | apply below_alloc | apply pw_below_drewN | apply below_drew1) | exact HB.out)))); (case aL => have := LMc27.out; omega); intro v243 w28 ho hb hg hat; rw [← Ny242.out] at ho; have n0_ := Aside0.mk (hb); have n1_ := Aside0.mk (ho); clear HB; clear HO_6; have HB := n0_; have HO244 := n1_; clear n0_ n1_; clear ho hb hg hat))
                        go_roundg kj2
                        case measure => have := HK1.out; have := HJ2.out; omega
                        case rel => exact ⟨(x5_1), (y242), ((⟨#[]⟩ : ByteArray)), (true), (wrap64 (x9_1 + 1)), (by first | rfl | (simp; done) | (simp [*]; done)), (by first | rfl | (simp; done) | (simp [*]; done)), (by first | rfl | (simp; done) | (simp [*]; done)), (by first | rfl | (simp; done) | (simp [*]; done)), H', ⟨by have := HK1.out; have := HJ2.out; omega⟩, ⟨by (with_reducible repeat (first | apply Kd.R_alloc | apply Kd.R_drewN | apply Kd.R_drew)); exact HO244.out⟩, ⟨by repeat (first | (with_reducible first | exact HB.out | apply below_alloc | apply pw_below_drewN | apply below_drew1) | exact HB.out)⟩⟩
                      · rw [if_neg c27] at H
                        exact absurd H (by simp)
                    · replace c26 := Bool.eq_false_iff.mpr c26
                      subst c26
                      have H1 : (bastionref14_Parse.l0 kj2 a0 x7_1 x6_1 (⟨#[]⟩ : ByteArray) true (wrap64 (x9_1 + 1))) = some (r1, r2, r3) := by rw [if_neg (show ¬ (false = true) by decide)] at H; exact H
                      clear H
                      have H := H1
                      clear H1
                      have H' := Aside0.mk H
                      clear H
                      have p7 : 0 ≤ (x9_1 : Int) := of_decide_eq_true (by first | (with_reducible assumption) | assumption)
                      have q7 : x9_1 < (a0.size : Int) := of_decide_eq_true (by first | (with_reducible assumption) | assumption)
                      have hx7 := bt_at a0 x9_1
                      replace p7 := eq_true p7
                      replace q7 := eq_true q7
                      go_wp2
                      go_roundg kj2
                      case measure => have := HK1.out; have := HJ2.out; omega
                      case rel => exact ⟨(x7_1), (x6_1), ((⟨#[]⟩ : ByteArray)), (true), (wrap64 (x9_1 + 1)), (by first | rfl | (simp; done) | (simp [*]; done)), (by first | rfl | (simp; done) | (simp [*]; done)), (by first | rfl | (simp; done) | (simp [*]; done)), (by first | rfl | (simp; done) | (simp [*]; done)), H', ⟨by have := HK1.out; have := HJ2.out; omega⟩, ⟨by (with_reducible repeat (first | apply Kd.R_alloc | apply Kd.R_drewN | apply Kd.R_drew)); exact HO_6.out⟩, ⟨by repeat (first | (with_reducible first | exact HB.out | apply below_alloc | apply pw_below_drewN | apply below_drew1) | exact HB.out)⟩⟩
                  · rw [if_neg c25] at H
                    have c25b0 : ((bt a0 x9_1) == x10_2) = false := beq_eq_false_iff_ne.mpr c25
                    have c25b1 : ((bt a0 x9_1) != x10_2) = true := bne_iff_ne.mpr c25
                    have c29b0 := eq_true (of_decide_eq_true (by first | (with_reducible assumption) | assumption) : 0 ≤ x9_1)
                    by_cases c30 : x9_1 ≤ (wrap64 (x9_1 + 1))
                    · rw [if_pos c30] at H
                      have c30b0 := eq_true c30
                      have c30b1 : decide (x9_1 ≤ (wrap64 (x9_1 + 1))) = true := decide_eq_true c30
                      by_cases c31 : (wrap64 (x9_1 + 1)) ≤ (a0.size : Int)
                      · rw [if_pos c31] at H
                        have c31b0 := eq_true c31
                        have c31b1 : decide ((wrap64 (x9_1 + 1)) ≤ (a0.size : Int)) = true := decide_eq_true c31
                        by_cases c32 : x7_1.size + (a0.extract (x9_1 : Int).toNat ((wrap64 (x9_1 + 1)) : Int).toNat).size ≤ 9223372036854775807
                        · rw [if_pos c32] at H
                          have c32b0 := eq_true c32
                          have c32b1 : decide (x7_1.size + (a0.extract (x9_1 : Int).toNat ((wrap64 (x9_1 + 1)) : Int).toNat).size ≤ 9223372036854775807) = true := decide_eq_true c32
                          try have c32b2 : (9223372036854775807 < x7_1.size + (a0.extract (x9_1 : Int).toNat ((wrap64 (x9_1 + 1)) : Int).toNat).size) = False := eq_false (Nat.not_lt.2 c32)
                          have H' := Aside0.mk H
                          clear H
                          have p7 : 0 ≤ (x9_1 : Int) := of_decide_eq_true (by first | (with_reducible assumption) | assumption)
                          have q7 : x9_1 < (a0.size : Int) := of_decide_eq_true (by first | (with_reducible assumption) | assumption)
                          have hx7 := bt_at a0 x9_1
                          replace p7 := eq_true p7
                          replace q7 := eq_true q7
                          go_wp2
                          go_roundg kj2
                          case measure => have := HK1.out; have := HJ2.out; omega
                          case rel => exact ⟨(x5_1), (x6_1), (x7_1 ++ (a0.extract (x9_1 : Int).toNat ((wrap64 (x9_1 + 1)) : Int).toNat)), (x8_1), (wrap64 (x9_1 + 1)), (by first | rfl | (simp; done) | (simp [*]; done)), (by first | rfl | (simp; done) | (simp [*]; done)), (by first | rfl | (simp; done) | (simp [*]; done)), (by first | rfl | (simp; done) | (simp [*]; done)), H', ⟨by have := HK1.out; have := HJ2.out; omega⟩, ⟨by (with_reducible repeat (first | apply Kd.R_alloc | apply Kd.R_drewN | apply Kd.R_drew)); exact HO_6.out⟩, ⟨by repeat (first | (with_reducible first | exact HB.out | apply below_alloc | apply pw_below_drewN | apply below_drew1) | exact HB.out)⟩⟩
                        · rw [if_neg c32] at H
                          exact absurd H (by simp)
                      · rw [if_neg c31] at H
                        exact absurd H (by simp)
                    · rw [if_neg c30] at H
                      exact absurd H (by simp)
              · rw [if_neg c6] at H
                exact absurd H (by simp)
            · rw [if_neg c5] at H
              exact absurd H (by simp)
      · rw [if_neg c2] at H
        have c2b0 : decide (x9_1 < (a0.size : Int)) = false := decide_eq_false c2
        clear c2
        by_cases c33 : x8_1 = true
        · subst c33
          have H1 : (if x6_1.length < 8796093022208 then (some (x5_1, (x6_1 ++ [x7_1]), 0)) else (none)) = some (r1, r2, r3) := by rw [if_pos rfl] at H; exact H
          clear H
          have H := H1
          clear H1
          by_cases c34 : x6_1.length < 8796093022208
          · rw [if_pos c34] at H
            have LMc34 := Aside0.mk c34
            clear c34
            obtain ⟨y239, hy239⟩ : ∃ y_ : List ByteArray, y_ = (x6_1 ++ [x7_1]) := ⟨_, rfl⟩
            replace H : (some (x5_1, y239, 0)) = some (r1, r2, r3) := by first | (rw [hy239]; with_reducible exact H) | (have H2_ := (Option.bind_some _ _).symm.trans H; rw [hy239]; with_reducible exact H2_) | (have H2_ := (Option.bind_some _ _).symm.trans H; with_reducible exact H2_) | with_reducible exact H | (rw [hy239]; exact H) | exact H
            have Ny239 := Aside0.mk hy239
            clear hy239
            simp only [Option.some.injEq, Prod.mk.injEq] at H
            obtain ⟨rfl, rfl, rfl⟩ := H
            go_wp2_with (first | ((with_reducible refine gate_builtin (b := .append) (xs := #[.tmp 69, .tmp 71]) rfl ?_); at_builtin; refine Kd.R_append Kd.string (w0 := w) w.heap.size rfl (.tmp 69) (.tmp 71) 23 9 (.string ⟨#[]⟩) 16 rfl Tryd.underlying23 info9 rfl (by decide) (by omega) u6 x6_1 x7_1 [.string x7_1] (fun _ => True) (fun _ => False) rfl rfl ?aP (fun _ hk => hk.elim) ?aF ?aO ?aB ?aS ?aL ?_; (case aP => exact rfl); (case aB => exact (by repeat (first | (with_reducible first | exact HB.out | apply below_alloc | apply pw_below_drewN | apply below_drew1) | exact HB.out))); (case aF => exact (fun _ _ => trivial)); (case aO => exact (by (with_reducible repeat (first | apply Kd.R_alloc | apply Kd.R_drewN | apply Kd.R_drew)); exact HO_6.out)); (case aS => exact (below_size (by repeat (first | (with_reducible first | exact HB.out | apply below_alloc | apply pw_below_drewN | apply below_drew1) | exact HB.out)))); (case aL => have := LMc34.out; omega); intro v240 w35 ho hb hg hat; rw [← Ny239.out] at ho; have n0_ := Aside0.mk (hb); have n1_ := Aside0.mk (ho); clear HB; clear HO_6; have HB := n0_; have HO241 := n1_; clear n0_ n1_; clear ho hb hg hat))
            go_ret3
            exact ⟨_, by first | rfl | (simp [errW_none, errW_some] <;> rfl) | (simp [*, errW_none, errW_some] <;> rfl), by (with_reducible repeat (first | apply Kd.R_alloc | apply Kd.R_drewN | apply Kd.R_drew)); exact HO241.out, by repeat (first | (with_reducible first | exact HB.out | apply below_alloc | apply pw_below_drewN | apply below_drew1) | exact HB.out)⟩
          · rw [if_neg c34] at H
            exact absurd H (by simp)
        · replace c33 := Bool.eq_false_iff.mpr c33
          subst c33
          have H1 : (some (x7_1, x6_1, 0)) = some (r1, r2, r3) := by rw [if_neg (show ¬ (false = true) by decide)] at H; exact H
          clear H
          have H := H1
          clear H1
          simp only [Option.some.injEq, Prod.mk.injEq] at H
          obtain ⟨rfl, rfl, rfl⟩ := H
          go_wp2
          go_ret3
          exact ⟨_, by first | rfl | (simp [errW_none, errW_some] <;> rfl) | (simp [*, errW_none, errW_some] <;> rfl), by (with_reducible repeat (first | apply Kd.R_alloc | apply Kd.R_drewN | apply Kd.R_drew)); exact HO_6.out, by repeat (first | (with_reducible first | exact HB.out | apply below_alloc | apply pw_below_drewN | apply below_drew1) | exact HB.out)⟩

end Go.Proofs.YtifgdhmbjlfnhaaDoor.M
