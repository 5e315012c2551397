-- Written by wip/xprint.py: the kit's print with functions proved by hand in their places. Not trusted: Lean checks it.
import Derived.Test.YtifgdhmbjlfnhaaDoorMx0
import Derived.Test.YtifgdhmbjlfnhaaDoorMx6
namespace Go.Proofs.YtifgdhmbjlfnhaaDoor.M
open Go.RowKit Go.Proofs.YtifgdhmbjlfnhaaDoorW.PrintWords Go.Proofs.YtifgdhmbjlfnhaaDoorW.PrintLast Go.Proofs.YtifgdhmbjlfnhaaDoorW.PrintMore
attribute [local go_sem] max2_int min2_int max_two min_two max_three min_three max_four min_four   -- for this text's walks alone
set_option linter.unusedVariables false
set_option linter.unusedSimpArgs false

/-! ### bastionref14_Rows: function 13 -/
def rowStep (vals : List ByteArray) (rows : List (List ByteArray)) : List (List ByteArray) := rows.flatMap fun r => vals.map fun v => r ++ [v]
def rowsR : List S42 → List (List ByteArray) → List (List ByteArray)
  | [], rows => rows
  | x :: l, rows => rowsR l (rowStep x.f1 rows)
def rowsOk : List S42 → List (List ByteArray) → Bool
  | [], _ => true
  | x :: l, rows => decide (rows.length * x.f1.length ≤ 1000000 ∧ rows.length ≤ 1000000 ∧ x.f1.length ≤ 1000000) && rowsOk l (rowStep x.f1 rows)
theorem drop_rdR (l : List S42) (i : Nat) (h : i < l.length) : l.drop i = rd_T42 l i :: l.drop (i + 1) := by
  rw [List.drop_eq_getElem_cons h]
  congr 1
  unfold rd_T42
  rw [Int.toNat_natCast, List.getD_eq_getElem?_getD, List.getElem?_eq_getElem h, Option.getD_some]
theorem take_rdOf {α : Type} (d : α) (l : List α) (i : Nat) (h : i < l.length) : l.take (i + 1) = l.take i ++ [l.getD i d] := by
  rw [List.take_succ_eq_append_getElem h, List.getD_eq_getElem?_getD, List.getElem?_eq_getElem h, Option.getD_some]
theorem rowStep_snoc (vals : List ByteArray) (rows : List (List ByteArray)) (r : List ByteArray) : rowStep vals (rows ++ [r]) = rowStep vals rows ++ vals.map fun v => r ++ [v] := by
  unfold rowStep
  rw [List.flatMap_append, List.flatMap_singleton]
theorem rowStep_len (vals : List ByteArray) (rows : List (List ByteArray)) : (rowStep vals rows).length = rows.length * vals.length := by
  induction rows with
  | nil => simp [rowStep]
  | cons r rows ih =>
    have : rowStep vals (r :: rows) = (vals.map fun v => r ++ [v]) ++ rowStep vals rows := by unfold rowStep; rw [List.flatMap_cons]
    rw [this, List.length_append, ih, List.length_map, List.length_cons, Nat.add_mul, Nat.one_mul, Nat.add_comm]
theorem rowStep_mem {vals : List ByteArray} {rows : List (List ByteArray)} {n : Nat} (h : ∀ r ∈ rows, r.length ≤ n) : ∀ r ∈ rowStep vals rows, r.length ≤ n + 1 := by
  intro r hr
  obtain ⟨q, hq, hr⟩ := List.mem_flatMap.1 hr
  obtain ⟨v, _, rfl⟩ := List.mem_map.1 hr
  have := h q hq
  rw [List.length_append, List.length_singleton]
  omega
theorem R_empty {W : World} {e base : Nat} (hb : base ≤ W.heap.size) : Kd.R Kd.string e (W.alloc (.cells #[] e)) base (fun _ => True) (.slice (some ⟨W.heap.size, 0, none⟩) 0 0) [] :=
  ⟨fun _ _ => trivial, OwnRow.lit (inner := []) W base (Reps.none _ _) hb (Nat.zero_le _)⟩
theorem S_one {W : World} {base : Nat} (hb : base ≤ W.heap.size) : Kd.S (Kd.slice 9 Kd.string) 23 (W.alloc (.cells #[.slice none 0 0] 23)) base (fun _ => True) (.slice (some ⟨W.heap.size, 0, none⟩) 1 1) [[]] :=
  ⟨fun _ => 0, fun _ _ => trivial, OwnRow.lit (inner := [.slice none 0 0]) W base (Reps.snoc (Reps.none _ _) ⟨.slice none 0 0, rfl, Kd.R_nil _ _ _ _ _⟩ rfl) hb (by decide)⟩
theorem at_rows {W : World} {A : Option Addr} {n : Nat} {rows : List (List ByteArray)} (h : Kd.C (Kd.slice 9 Kd.string) W A n rows) (k : Nat) (hk : k < n) : ∃ ad A0 c0, A = some ad ∧ W.cell? (ad.add k) = some (.slice A0 (rows.getD k []).length c0) ∧ (rows.getD k []).length ≤ c0 ∧ Kd.string.C W A0 (rows.getD k []).length (rows.getD k []) := by
  obtain ⟨ad, c, e, _, hK, hc0⟩ := Kd.C_get h ([] : List ByteArray) (k : Int) (by omega) (by omega)
  have hc : ∀ j u, c[j]? = some u → W.cell? (ad.add (k * 1 + j)) = some u := hc0
  obtain ⟨A0, c0, rfl, l0, g0⟩ := hK
  exact ⟨ad, A0, c0, e, by have hq := hc 0 _ rfl; rwa [Nat.mul_one, Nat.add_zero] at hq, l0, g0⟩
theorem at_strs {W : World} {A : Option Addr} {n : Nat} {zs : List ByteArray} (h : Kd.C Kd.string W A n zs) (k : Nat) (hk : k < n) : ∃ ad, A = some ad ∧ W.cell? (ad.add k) = some (.string (zs.getD k ByteArray.empty)) := by
  obtain ⟨ad, c, e, _, hK, hc0⟩ := Kd.C_get h ByteArray.empty (k : Int) (by omega) (by omega)
  have hc : ∀ j u, c[j]? = some u → W.cell? (ad.add (k * 1 + j)) = some u := hc0
  have hK' : c = [.string (zs.getD k ByteArray.empty)] := hK
  subst hK'
  exact ⟨ad, e, by have hq := hc 0 _ rfl; rwa [Nat.mul_one, Nat.add_zero] at hq⟩
theorem blk_new2 (w : World) (o o' : Obj) : ((w.alloc o).alloc o').heap[w.heap.size + 1]? = some o' := by
  have h := blk_new (w.alloc o) o'
  rwa [World.size_alloc] at h
theorem blk_new1 (w : World) (o o' : Obj) : ((w.alloc o).alloc o').heap[w.heap.size]? = some o := blk_below (blk_new w o) (below_alloc (Below.refl _ _) o')
theorem C_blk {W : World} {b e : Nat} {v : ByteArray} (h : W.heap[b]? = some (.cells #[.string v] e (0, 0))) : Kd.C Kd.string W (some ⟨b, 0, none⟩) 1 [v] :=
  Kd.C_of_reads (d := ByteArray.empty) ⟨rfl, by decide, fun _ => ⟨_, rfl, fun j hj => by
    obtain rfl : j = 0 := by omega
    rw [add_plain, blk_cell h 0]
    rfl⟩⟩
def bastionref14_Rows.Post (w : World) (r : List (List ByteArray)) (c : Int) (e : Ending) (w' : World) : Prop := ∃ v : Value, e = .returned (.tuple #[v, .int .i64 c]) ∧ Kd.S (Kd.slice 9 Kd.string) 23 w' w.heap.size (fun _ => True) v r ∧ Below w.heap.size w w'
set_option maxHeartbeats 8000000 in
set_option maxRecDepth 100000 in
theorem bastionref14_Rows.walk (A : Option Addr) (c : Nat) (l : List S42) (w : World) (k : Nat) (e : Int) (he : bastionref14_Check.f k l = some e) (hl : l.length ≤ 1000000) (hlc : l.length ≤ c) (hok : e = 0 → rowsOk l [[]] = true) (hr : Kd.C k42 w A l.length l) :
    Calls Tryd.prog 13 #[.slice A l.length c] w (bastionref14_Rows.Post w (if e = 0 then rowsR l [[]] else []) e) := by
  have HR := Aside0.mk hr
  have HE := Aside0.mk he
  have HOK := Aside0.mk hok
  clear hr he hok
  by_cases h0 : e = 0
  case neg =>
    rw [if_neg h0]
    have h0' : (e != 0) = true := bne_iff_ne.2 h0
    have HN := Aside0.mk h0
    clear h0
    go_enter Tryd.func13, Tryd.ntmps13
    go_wp2_with (go_at_call 24; refine (bastionref14_Check.calls k A c l e w HR.out hlc HE.out).mono ?_; rintro e1 w1 ⟨rfl, hb1⟩; have HB := Aside0.mk hb1; clear hb1)
    go_ret2
    exact ⟨_, rfl, Kd.S_nil _ _ _ _ _, HB.out⟩
  rw [if_pos h0]
  have hok := HOK.out h0
  clear HOK
  subst h0
  generalize hq : rowsR l [[]] = q
  have HQ := Aside0.mk hq
  have HOK := Aside0.mk hok
  clear hq hok
  go_enter Tryd.func13, Tryd.ntmps13
  go_wp2_with (go_at_call 24; refine (bastionref14_Check.calls k A c l 0 w HR.out hlc HE.out).mono ?_; rintro e1 w1 ⟨rfl, hb1⟩; have HB := Aside0.mk hb1; clear hb1)
  go_loopg [5, 6] l.length (fun m v5 v6 wr => ∃ (i : Nat) (rows : List (List ByteArray)), v6 = .int .i64 i ∧ Aside0 (rowsR (l.drop i) rows = q) ∧ Aside0 (rowsOk (l.drop i) rows = true) ∧ Aside0 (∀ r ∈ rows, r.length ≤ i) ∧ Aside0 (i + m = l.length) ∧ Aside0 (Kd.S (Kd.slice 9 Kd.string) 23 wr w.heap.size (fun _ => True) v5 rows) ∧ Aside0 (Below w.heap.size w wr))
  case atStart => exact ⟨0, [[]], rfl, HQ, HOK, ⟨by simp⟩, ⟨by omega⟩, ⟨S_one HB.out.size⟩, ⟨HB.out.alloc HB.out.size _⟩⟩
  case round =>
    clear HQ HOK HB
    obtain ⟨i, rows, rfl, HQ, HOK, HL, HM, HS, HB⟩ := hrel
    have hm := HM.out
    by_cases hlt : i < l.length
    case neg =>
      have h1 := HQ.out
      rw [List.drop_eq_nil_of_le (by omega), rowsR] at h1
      have H1 := Aside0.mk h1
      clear h1
      go_wp2
      go_ret2
      exact ⟨_, rfl, by rw [← H1.out]; exact HS.out, HB.out⟩
    obtain ⟨ad, A1, c1, rfl, hx0, hx1, hl1, hr1⟩ := at_T42 (Kd.C_below HR.out HB.out) i (by omega) (by omega)
    rw [drop_rdR l i hlt] at HQ HOK
    generalize rd_T42 l i = x at *
    have HV := Aside0.mk hr1
    have hok := HOK.out
    rw [rowsOk, Bool.and_eq_true, decide_eq_true_eq] at hok
    obtain ⟨⟨hb0, hb1, hb2⟩, hok⟩ := hok
    have HB0 := Aside0.mk hb0
    have HOK2 := Aside0.mk hok
    simp only [Int.toNat_natCast] at hx1
    obtain ⟨AR, cR, rfl, hlR, hCR⟩ := Kd.S_reads HS.out
    have HCR := Aside0.mk hCR
    have HX1 := Aside0.mk hx1
    clear hr1 hx0 hx1 hok HOK hCR hb0
    go_wp2_with fail
    obtain ⟨wo, rfl⟩ : ∃ wo : World, wo = wr := ⟨_, rfl⟩
    obtain ⟨gO, rfl⟩ : ∃ g : Nat, g = gk := ⟨_, rfl⟩
    go_loopg [7, 8] rows.length (fun m v7 v8 wr => ∃ (k : Nat) (nx : List (List ByteArray)), v8 = .int .i64 k ∧ Aside0 (nx = rowStep x.f1 (rows.take k)) ∧ Aside0 (k + m = rows.length) ∧ Aside0 (Kd.S (Kd.slice 9 Kd.string) 23 wr wo.heap.size (fun _ => True) v7 nx) ∧ Aside0 (Below wo.heap.size wo wr))
    case atStart => exact ⟨0, [], rfl, ⟨by simp [rowStep]⟩, ⟨by omega⟩, ⟨Kd.S_nil _ _ _ _ _⟩, ⟨Below.refl _ _⟩⟩
    case round =>
      obtain ⟨k, nx, rfl, HNX, HMk, HSn, HBn⟩ := hrel
      have hmk := HMk.out
      by_cases hkt : k < rows.length
      case neg =>
        have hke : k = rows.length := by omega
        subst hke
        have h1 := HNX.out
        rw [List.take_of_length_le (Nat.le_refl _)] at h1
        subst h1
        go_wp2
        go_roundg (gO - 1)
        case measure => omega
        case rel => exact ⟨i + 1, _, rfl, HQ, HOK2, ⟨rowStep_mem HL.out⟩, ⟨by omega⟩, ⟨Kd.S_lower HSn.out HB.out.size⟩, ⟨HB.out.trans (HBn.out.mono HB.out.size)⟩⟩
      obtain ⟨adR, Ar, cr, rfl, hc0, hlr, hCr⟩ := at_rows HCR.out k hkt
      have htk := take_rdOf [] rows k hkt
      have hrl : (rows.getD k []).length ≤ i := HL.out _ (by rw [List.getD_eq_getElem?_getD, List.getElem?_eq_getElem hkt, Option.getD_some]; exact List.getElem_mem hkt)
      generalize rows.getD k [] = r at *
      have HTK := Aside0.mk htk
      have HC0 := Aside0.mk hc0
      have HCr := Aside0.mk hCr
      clear htk hc0 hCr
      have hc1 := pw_cell_below HBn.out HX1.out
      go_wp2_with fail
      obtain ⟨wm, rfl⟩ : ∃ wm : World, wm = wr := ⟨_, rfl⟩
      obtain ⟨gM, rfl⟩ : ∃ g : Nat, g = gk := ⟨_, rfl⟩
      clear hc1
      go_loopg [7, 9] x.f1.length (fun m v7 v9 wr => ∃ (j : Nat) (nx : List (List ByteArray)), v9 = .int .i64 j ∧ Aside0 (nx = rowStep x.f1 (rows.take k) ++ (x.f1.take j).map (fun v => r ++ [v])) ∧ Aside0 (j + m = x.f1.length) ∧ Aside0 (Kd.S (Kd.slice 9 Kd.string) 23 wr wo.heap.size (fun _ => True) v7 nx) ∧ Aside0 (Below wo.heap.size wo wr))
      case atStart => exact ⟨0, nx, rfl, ⟨by rw [HNX.out]; simp⟩, ⟨by omega⟩, HSn, HBn⟩
      case round =>
        clear HNX HSn HBn
        obtain ⟨j, nx, rfl, HNX, HMj, HSn, HBn⟩ := hrel
        have hmj := HMj.out
        have hc1 := pw_cell_below HBn.out HX1.out
        by_cases hjt : j < x.f1.length
        case neg =>
          have h1 := HNX.out
          rw [List.take_of_length_le (show x.f1.length ≤ j by omega), ← rowStep_snoc, ← HTK.out] at h1
          have H1 := Aside0.mk h1
          clear h1
          go_wp2_with fail
          go_roundg (gM - 1)
          case measure => omega
          case rel => exact ⟨k + 1, nx, rfl, H1, ⟨by omega⟩, HSn, HBn⟩
        obtain ⟨adV, rfl, hcv⟩ := at_strs HV.out j hjt
        have hcv1 := pw_cell_below HBn.out hcv
        have hcr1 := pw_cell_below HBn.out HC0.out
        have htj := take_rdOf ByteArray.empty x.f1 j hjt
        generalize x.f1.getD j ByteArray.empty = v at *
        have HTJ := Aside0.mk htj
        have HCV := Aside0.mk hcv
        have HNL := Aside0.mk (show nx.length < 5000000000 by
          have h2 : rows.length * x.f1.length ≤ 1000000 := HB0.out
          rw [HNX.out, List.length_append, rowStep_len, List.length_map, List.length_take, List.length_take]
          have h3 : min k rows.length * x.f1.length ≤ rows.length * x.f1.length := Nat.mul_le_mul_right _ (Nat.min_le_right ..)
          omega)
        have hkk : (k : Int) < (rows.length : Int) := by omega
        have hjj : (j : Int) < (x.f1.length : Int) := by omega
        have hii : (i : Int) < (l.length : Int) := by omega
        have hsz := HBn.out.size
        clear htj hcv
        go_wp2_with fail
        go_region_held3 (fun w' => w'.cell? (adR.add k) = some (.slice Ar r.length cr) ∧ w'.cell? ⟨(ad.add (i * 2)).block, (ad.add (i * 2)).off + 1, none⟩ = some (.slice (some adV) x.f1.length c1) ∧ w'.cell? (adV.add j) = some (.string v))
          (first
            | exact ⟨pw_cell_below HB3.out HC0.out, pw_cell_below HB3.out HX1.out, pw_cell_below HB3.out HCV.out⟩
            | exact ⟨pw_cell_below HB2.out HC0.out, pw_cell_below HB2.out HX1.out, pw_cell_below HB2.out HCV.out⟩
            | exact ⟨pw_cell_below HB1.out HC0.out, pw_cell_below HB1.out HX1.out, pw_cell_below HB1.out HCV.out⟩
            | go_keep)
          (first
            | (refine Kd.R_append_rows_step Kd.string (w0 := wo) wo.heap.size (by rfl) (.tmp 39) (.tmp 43) 23 9 (.string ⟨#[]⟩) 16 rfl Tryd.underlying23 info9 rfl (by decide) (by omega) (.slice (some ⟨wr.heap.size, 0, none⟩) 0 0) [] r Ar r.length cr (fun _ => True) (fun _ => False) rfl rfl (Kd.R_drew (R_empty hsz)) (Kd.C_below HCr.out (below_drew (HBn.out.alloc hsz _))) (fun _ _ h => h) (fun _ h => h.elim) (fun _ _ => trivial) (below_drew (HBn.out.alloc hsz _)) (by simp; omega) (by simp; omega) ?_
               intro v1 w1 ho1 hb1 hg1 hat1
               have HB1 := Aside0.mk hb1
               have HR1 := Aside0.mk ho1
               have HS1 := Aside0.mk (Kd.S_after (Kd.S_elder' (v := .slice (some ⟨wr.heap.size, 0, none⟩) 0 0) HSn.out (by intro k e; cases e; first | exact Nat.le_refl _ | exact Nat.le_succ _) (below_drew ((Below.refl wr.heap.size wr).alloc (Nat.le_refl _) _))) hg1 hat1)
               clear ho1 hb1 hg1 hat1)
            | (refine Kd.R_append_rows_step Kd.string (w0 := wo) wo.heap.size (by rfl) (.tmp 39) (.tmp 43) 23 9 (.string ⟨#[]⟩) 16 rfl Tryd.underlying23 info9 rfl (by decide) (by omega) (.slice (some ⟨wr.heap.size, 0, none⟩) 0 0) [] r Ar r.length cr (fun _ => True) (fun _ => False) rfl rfl (Kd.R_drew (Kd.R_alloc (R_empty hsz) (.cells #[.string v] 9))) (Kd.C_below HCr.out (below_drew ((HBn.out.alloc hsz (.cells #[] 9)).alloc (by simp; omega) (.cells #[.string v] 9)))) (fun _ _ h => h) (fun _ h => h.elim) (fun _ _ => trivial) (below_drew ((HBn.out.alloc hsz (.cells #[] 9)).alloc (by simp; omega) (.cells #[.string v] 9))) (by simp; omega) (by simp; omega) ?_
               intro v1 w1 ho1 hb1 hg1 hat1
               have HB1 := Aside0.mk hb1
               have HR1 := Aside0.mk ho1
               have HS1 := Aside0.mk (Kd.S_after (Kd.S_elder' (v := .slice (some ⟨wr.heap.size, 0, none⟩) 0 0) HSn.out (by intro k e; cases e; first | exact Nat.le_refl _ | exact Nat.le_succ _) (below_drew (((Below.refl wr.heap.size wr).alloc (Nat.le_refl _) (.cells #[] 9)).alloc (by simp) (.cells #[.string v] 9)))) hg1 hat1)
               have HV1 := Aside0.mk (blk_grown (show (((wr.alloc (.cells #[] 9)).alloc (.cells #[.string v] 9)).drew).heap[wr.heap.size + 1]? = some (.cells #[.string v] 9 (0, 0)) from blk_new2 wr _ _) hg1 (by intro e; have e2 : wr.heap.size + 1 = wr.heap.size := Option.some.inj e; omega))
               have tb : True := trivial
               clear ho1 hb1 hg1 hat1)
            | (refine Kd.R_append_rows_step Kd.string (w0 := wo) wo.heap.size (by rfl) (.tmp 39) (.tmp 43) 23 9 (.string ⟨#[]⟩) 16 rfl Tryd.underlying23 info9 rfl (by decide) (by omega) (.slice (some ⟨wr.heap.size + 1, 0, none⟩) 0 0) [] r Ar r.length cr (fun _ => True) (fun _ => False) rfl rfl (Kd.R_drew (by simpa using R_empty (W := wr.alloc (.cells #[.string v] 9)) (base := wo.heap.size) (e := 9) (by simp; omega))) (Kd.C_below HCr.out (below_drew ((HBn.out.alloc hsz (.cells #[.string v] 9)).alloc (by simp; omega) (.cells #[] 9)))) (fun _ _ h => h) (fun _ h => h.elim) (fun _ _ => trivial) (below_drew ((HBn.out.alloc hsz (.cells #[.string v] 9)).alloc (by simp; omega) (.cells #[] 9))) (by simp; omega) (by simp; omega) ?_
               intro v1 w1 ho1 hb1 hg1 hat1
               have HB1 := Aside0.mk hb1
               have HR1 := Aside0.mk ho1
               have HS1 := Aside0.mk (Kd.S_after (Kd.S_elder' (v := .slice (some ⟨wr.heap.size + 1, 0, none⟩) 0 0) HSn.out (by intro k e; cases e; first | exact Nat.le_refl _ | exact Nat.le_succ _) (below_drew (((Below.refl wr.heap.size wr).alloc (Nat.le_refl _) (.cells #[.string v] 9)).alloc (by simp) (.cells #[] 9)))) hg1 hat1)
               have HV1 := Aside0.mk (blk_grown (show (((wr.alloc (.cells #[.string v] 9)).alloc (.cells #[] 9)).drew).heap[wr.heap.size]? = some (.cells #[.string v] 9 (0, 0)) from blk_new1 wr _ _) hg1 (by intro e; have e2 : wr.heap.size = wr.heap.size + 1 := Option.some.inj e; omega))
               clear ho1 hb1 hg1 hat1)
            | (refine Kd.R_append_step Kd.string (w0 := wo) wo.heap.size (by rfl) (.tmp 44) (.tmp 53) 23 9 (.string ⟨#[]⟩) 16 rfl Tryd.underlying23 info9 rfl (by decide) (by omega) v1 r v [.string v] (fun _ => True) (fun _ => False) rfl rfl rfl (fun _ h => h.elim) (fun _ _ => trivial) HR1.out HB1.out HB1.out.size (by omega) ?_
               intro v2 w2 ho2 hb2 hg2 hat2
               obtain ⟨y, hy⟩ : ∃ y, y = r ++ [v] := ⟨_, rfl⟩
               rw [← hy] at ho2
               have HY := Aside0.mk hy
               clear hy
               obtain ⟨A2, c2, rfl⟩ := Kd.R_slice ho2
               have HB2 := Aside0.mk hb2
               have HR2 := Aside0.mk ho2
               have HS2 := Aside0.mk (Kd.S_after HS1.out hg2 hat2)
               clear ho2 hb2 hg2 hat2)
            | (refine Kd.R_append_rows_step Kd.string (w0 := wo) wo.heap.size (by rfl) (.tmp 44) (.tmp 53) 23 9 (.string ⟨#[]⟩) 16 rfl Tryd.underlying23 info9 rfl (by decide) (by omega) v1 r [v] (some ⟨wr.heap.size + 1, 0, none⟩) 1 1 (fun _ => True) (fun _ => False) rfl rfl HR1.out (C_blk HV1.out) (fun _ _ h => h) (fun _ h => h.elim) (fun _ _ => trivial) HB1.out HB1.out.size (by omega) ?_
               intro v2 w2 ho2 hb2 hg2 hat2
               obtain ⟨y, hy⟩ : ∃ y, y = r ++ [v] := ⟨_, rfl⟩
               rw [← hy] at ho2
               have HY := Aside0.mk hy
               clear hy
               obtain ⟨A2, c2, rfl⟩ := Kd.R_slice ho2
               have HB2 := Aside0.mk hb2
               have HR2 := Aside0.mk ho2
               have HS2 := Aside0.mk (Kd.S_after HS1.out hg2 hat2)
               clear ho2 hb2 hg2 hat2)
            | (refine Kd.R_append_rows_step Kd.string (w0 := wo) wo.heap.size (by rfl) (.tmp 44) (.tmp 53) 23 9 (.string ⟨#[]⟩) 16 rfl Tryd.underlying23 info9 rfl (by decide) (by omega) v1 r [v] (some ⟨wr.heap.size, 0, none⟩) 1 1 (fun _ => True) (fun _ => False) rfl rfl HR1.out (C_blk HV1.out) (fun _ _ h => h) (fun _ h => h.elim) (fun _ _ => trivial) HB1.out HB1.out.size (by omega) ?_
               intro v2 w2 ho2 hb2 hg2 hat2
               obtain ⟨y, hy⟩ : ∃ y, y = r ++ [v] := ⟨_, rfl⟩
               rw [← hy] at ho2
               have HY := Aside0.mk hy
               clear hy
               obtain ⟨A2, c2, rfl⟩ := Kd.R_slice ho2
               have HB2 := Aside0.mk hb2
               have HR2 := Aside0.mk ho2
               have HS2 := Aside0.mk (Kd.S_after HS1.out hg2 hat2)
               clear ho2 hb2 hg2 hat2)
            | (refine Kd.S_append_step (Kd.slice 9 Kd.string) (w0 := wo) wo.heap.size (by rfl) (.tmp 38) (.tmp 55) 29 23 (.slice none 0 0) 24 rfl Tryd.underlying29 info23 rfl (by decide) (by omega) u7 nx y [.slice A2 y.length c2] (fun _ => True) (fun k_ => some k_ = (.slice A2 y.length c2 : Value).ownBlock) rfl rfl ⟨_, rfl, Kd.R_mono (Kd.R_tight rfl HR2.out) (fun _ h => h)⟩ (fun k_ hk => ⟨trivial, ((Kd.R_apart' HR2.out (Kd.S_typed HS2.out) (by decide)).1 k_ hk.symm).2⟩) (fun _ _ => trivial) (Kd.S_mono HS2.out (fun _ hk => ⟨trivial, hk.2⟩)) HB2.out HB2.out.size (by have := HNL.out; omega) ?_
               intro v3 w3 ho3 hb3 hg3 hat3
               have HB3 := Aside0.mk hb3
               have HS3 := Aside0.mk ho3
               clear ho3 hb3 hg3 hat3)
            | fail)
        all_goals
          go_wp2_with fail
          go_roundg (gk - 1)
          case measure => omega
          case rel => exact ⟨j + 1, _, rfl, ⟨by rw [HTJ.out, HY.out, List.map_append, ← List.append_assoc, ← HNX.out]; rfl⟩, ⟨by omega⟩, HS3, HB3⟩
def bastionref14_Rows.f (l0 : List S42) : Option (List (List ByteArray) × Int) := (bastionref14_Check.f 10000000 l0).bind fun e => if l0.length ≤ 1000000 ∧ (e = 0 → rowsOk l0 [[]] = true) then some (if e = 0 then rowsR l0 [[]] else [], e) else none
theorem bastionref14_Rows.calls (A0 : Option Addr) (c0 : Nat) (l0 : List (S42)) (r1 : List (List ByteArray)) (r2 : Int) (w : World) (hr0 : Kd.C k42 w A0 l0.length l0) (hc0 : l0.length ≤ c0) (h : bastionref14_Rows.f l0 = some (r1, r2)) :
    Calls Tryd.prog 13 #[.slice A0 l0.length c0] w fun e w' => ∃ v0_ : Value, e = .returned (.tuple #[v0_, .int .i64 r2]) ∧ Kd.S (Kd.slice 9 Kd.string) 23 w' w.heap.size (fun _ => True) v0_ r1 ∧ Below w.heap.size w w' := by
  unfold bastionref14_Rows.f at h
  cases he : bastionref14_Check.f 10000000 l0 with
  | none => rw [he] at h; cases h
  | some e =>
    rw [he] at h
    simp only [Option.bind_some] at h
    by_cases hc : l0.length ≤ 1000000 ∧ (e = 0 → rowsOk l0 [[]] = true)
    case neg => rw [if_neg hc] at h; cases h
    rw [if_pos hc] at h
    injection h with h
    injection h with h1 h2
    subst h1 h2
    exact bastionref14_Rows.walk A0 c0 l0 w _ e he hc.1 hc0 hc.2 hr0

/-! ### bastionref14_Same: function 14 -/
mutual
def bastionref14_Same.l0 : Nat → List (List ByteArray) → List (List ByteArray) → Int → Option (Bool)
  | 0, _, _, _ => none
  | k + 1, x0, x1, x5 => if x5 < (x0.length : Int) then (if 0 ≤ x5 then (if x5 < (x1.length : Int) then (if ((rd_L1 x0 x5).length : Int) = ((rd_L1 x1 x5).length : Int) then (bastionref14_Same.l1 k x0 x1 x5 0) else (some false)) else (none)) else (none)) else (some true)
def bastionref14_Same.l1 : Nat → List (List ByteArray) → List (List ByteArray) → Int → Int → Option (Bool)
  | 0, _, _, _, _ => none
  | k + 1, x0, x1, x5, x6 => if 0 ≤ x5 then (if x5 < (x0.length : Int) then (if x6 < ((rd_L1 x0 x5).length : Int) then (if 0 ≤ x6 then (if x5 < (x1.length : Int) then (if x6 < ((rd_L1 x1 x5).length : Int) then (if (rdOf ByteArray.empty (rd_L1 x0 x5) x6).toList = (rdOf ByteArray.empty (rd_L1 x1 x5) x6).toList then (bastionref14_Same.l1 k x0 x1 x5 (wrap64 (x6 + 1))) else (some false)) else (none)) else (none)) else (none)) else (bastionref14_Same.l0 k x0 x1 (wrap64 (x5 + 1)))) else (none)) else (none)
end
def bastionref14_Same.f (k : Nat) (l0 : List (List ByteArray)) (l1 : List (List ByteArray)) : Option (Bool) := if (l0.length : Int) = (l1.length : Int) then (bastionref14_Same.l0 k l0 l1 0) else (some false)
theorem bastionref14_Same.mono_l : ∀ k, (∀ y0 y1 y2, LeO (bastionref14_Same.l0 k y0 y1 y2) (bastionref14_Same.l0 (k + 1) y0 y1 y2)) ∧ (∀ y0 y1 y2 y3, LeO (bastionref14_Same.l1 k y0 y1 y2 y3) (bastionref14_Same.l1 (k + 1) y0 y1 y2 y3))
  | 0 => ⟨fun _ _ _ r h => by simp [bastionref14_Same.l0] at h, fun _ _ _ _ r h => by simp [bastionref14_Same.l1] at h⟩
  | k + 1 => by
    obtain ⟨ih0, ih1⟩ := bastionref14_Same.mono_l k
    refine ⟨?_, ?_⟩
    · intro y0 y1 y2
      unfold bastionref14_Same.l0
      repeat' first
      | (with_reducible exact ih0 _ _ _)
      | (with_reducible exact ih1 _ _ _ _)
      | (with_reducible exact LeO.refl _)
      | (with_reducible exact LeO.none _)
      | (with_reducible refine LeO.ite ?_ ?_)
      | (with_reducible refine LeO.bind ?_ (fun _ => ?_))
      | exact ih0 _ _ _
      | exact ih1 _ _ _ _
      | exact LeO.none _
      | refine LeO.ite ?_ ?_
      | refine LeO.bind ?_ (fun _ => ?_)
    · intro y0 y1 y2 y3
      unfold bastionref14_Same.l1
      repeat' first
      | (with_reducible exact ih0 _ _ _)
      | (with_reducible exact ih1 _ _ _ _)
      | (with_reducible exact LeO.refl _)
      | (with_reducible exact LeO.none _)
      | (with_reducible refine LeO.ite ?_ ?_)
      | (with_reducible refine LeO.bind ?_ (fun _ => ?_))
      | exact ih0 _ _ _
      | exact ih1 _ _ _ _
      | exact LeO.none _
      | refine LeO.ite ?_ ?_
      | refine LeO.bind ?_ (fun _ => ?_)
theorem bastionref14_Same.mono : ∀ a0 a1 k, LeO (bastionref14_Same.f k a0 a1) (bastionref14_Same.f (k + 1) a0 a1) := by
  intro a0 a1 k
  obtain ⟨ih0, ih1⟩ := bastionref14_Same.mono_l k
  unfold bastionref14_Same.f
  repeat' first
      | (with_reducible exact ih0 _ _ _)
      | (with_reducible exact ih1 _ _ _ _)
      | (with_reducible exact LeO.refl _)
      | (with_reducible exact LeO.none _)
      | (with_reducible refine LeO.ite ?_ ?_)
      | (with_reducible refine LeO.bind ?_ (fun _ => ?_))
      | exact ih0 _ _ _
      | exact ih1 _ _ _ _
      | exact LeO.none _
      | refine LeO.ite ?_ ?_
      | refine LeO.bind ?_ (fun _ => ?_)
set_option maxHeartbeats 8000000 in
set_option maxRecDepth 100000 in
theorem bastionref14_Same.calls (k : Nat) (A0 : Option Addr) (c0 : Nat) (l0 : List (List ByteArray)) (A1 : Option Addr) (c1 : Nat) (l1 : List (List ByteArray)) (r : Bool) (w : World) (hr0 : Kd.C (Kd.slice 9 Kd.string) w A0 l0.length l0) (hc0 : l0.length ≤ c0) (hr1 : Kd.C (Kd.slice 9 Kd.string) w A1 l1.length l1) (hc1 : l1.length ≤ c1) (h : bastionref14_Same.f k l0 l1 = some r) :
    Calls Tryd.prog 14 #[.slice A0 l0.length c0, .slice A1 l1.length c1] w fun e w' => e = .returned (.bool r) ∧ Drawn0 w w' := by
  have HR0 := Aside0.mk hr0
  have HC0 := Aside0.mk hc0
  clear hr0 hc0
  have HR1 := Aside0.mk hr1
  have HC1 := Aside0.mk hc1
  clear hr1 hc1
  have H : (if (l0.length : Int) = (l1.length : Int) then (bastionref14_Same.l0 k l0 l1 0) else (some false)) = some r := h
  clear h
  by_cases c3 : (l0.length : Int) = (l1.length : Int)
  · rw [if_pos c3] at H
    have c3b0 : ((l0.length : Int) == (l1.length : Int)) = true := beq_iff_eq.mpr c3
    have c3b1 : ((l0.length : Int) != (l1.length : Int)) = false := bne_eq_false_iff_eq.mpr c3
    have c3b2 : (l0.length == l1.length) = true := by first | simpa using c3 | (simp at c3 ⊢; omega)
    clear c3
    have H' := Aside0.mk H
    clear H
    go_enter Tryd.func14, Tryd.ntmps14
    go_wp2
    repeat (go_quiet (fail); try go_wp2)
    go_loopg [5] k (fun kq v5 w' => ∃ (x5_1 : Int), v5 = .int .i64 x5_1 ∧ Aside0 (bastionref14_Same.l0 kq l0 l1 x5_1 = some r) ∧ Aside0 (kq ≤ k) ∧ Drawn0 w w')
    case atStart => exact ⟨(0), (by first | rfl | (simp; done) | (simp [*]; done)), H', ⟨Nat.le_refl _⟩, by repeat (first | exact Drawn0.refl _ | apply Drawn0.step)⟩
    case round =>
      clear H'
      try clear c1
      try clear p2
      try clear c3
      try clear c3b0
      try clear c3b1
      try clear c3b2
      obtain ⟨x5_1, rfl, HA, HK1, ⟨m1, rfl⟩⟩ := hrel
      cases gk with
      | zero => exact absurd HA.out (by simp [bastionref14_Same.l0])
      | succ k1 =>
        have H := HA.out
        clear HA
        simp only [bastionref14_Same.l0] at H
        by_cases c4 : x5_1 < (l0.length : Int)
        · rw [if_pos c4] at H
          have c4b0 : decide (x5_1 < (l0.length : Int)) = true := decide_eq_true c4
          clear c4
          by_cases c5 : 0 ≤ x5_1
          · rw [if_pos c5] at H
            have c5b0 : decide (0 ≤ x5_1) = true := decide_eq_true c5
            clear c5
            by_cases c6 : x5_1 < (l1.length : Int)
            · rw [if_pos c6] at H
              have c6b0 : decide (x5_1 < (l1.length : Int)) = true := decide_eq_true c6
              clear c6
              by_cases c7 : ((rd_L1 l0 x5_1).length : Int) = ((rd_L1 l1 x5_1).length : Int)
              · rw [if_pos c7] at H
                have c7b0 : (((rd_L1 l0 x5_1).length : Int) == ((rd_L1 l1 x5_1).length : Int)) = true := beq_iff_eq.mpr c7
                have c7b1 : (((rd_L1 l0 x5_1).length : Int) != ((rd_L1 l1 x5_1).length : Int)) = false := bne_eq_false_iff_eq.mpr c7
                have c7b2 : ((rd_L1 l0 x5_1).length == (rd_L1 l1 x5_1).length) = true := by first | simpa using c7 | (simp at c7 ⊢; omega)
                clear c7
                have H' := Aside0.mk H
                clear H
                have p160 : 0 ≤ (x5_1 : Int) := of_decide_eq_true (by first | (with_reducible assumption) | assumption)
                have q160 : x5_1 < (l0.length : Int) := of_decide_eq_true (by first | (with_reducible assumption) | assumption)
                obtain ⟨ad160, A160_0, c160_0, e160, hx160_0, hl160_0, hi160_0⟩ := at_L1 HR0.out x5_1 p160 q160
                cases e160
                have HR160_0 := Aside0.mk hi160_0
                have HC160_0 := Aside0.mk hl160_0
                clear hi160_0 hl160_0
                replace p160 := eq_true p160
                replace q160 := eq_true q160
                have p161 : 0 ≤ (x5_1 : Int) := of_decide_eq_true (by first | (with_reducible assumption) | assumption)
                have q161 : x5_1 < (l1.length : Int) := of_decide_eq_true (by first | (with_reducible assumption) | assumption)
                obtain ⟨ad161, A161_0, c161_0, e161, hx161_0, hl161_0, hi161_0⟩ := at_L1 HR1.out x5_1 p161 q161
                cases e161
                have HR161_0 := Aside0.mk hi161_0
                have HC161_0 := Aside0.mk hl161_0
                clear hi161_0 hl161_0
                replace p161 := eq_true p161
                replace q161 := eq_true q161
                go_wp2
                repeat (go_quiet (fail); try go_wp2)
                go_loopg [6] k1 (fun kq v6 w' => ∃ (x6_2 : Int), v6 = .int .i64 x6_2 ∧ Aside0 (bastionref14_Same.l1 kq l0 l1 x5_1 x6_2 = some r) ∧ Aside0 (kq ≤ k1) ∧ Drawn0 w w')
                case atStart => exact ⟨(0), (by first | rfl | (simp; done) | (simp [*]; done)), H', ⟨Nat.le_refl _⟩, by repeat (first | exact Drawn0.refl _ | apply Drawn0.step)⟩
                case round =>
                  clear H'
                  try clear c1
                  try clear p1
                  try clear q1
                  try clear hx1
                  try clear p2
                  try clear c3
                  try clear c3b0
                  try clear c3b1
                  try clear c3b2
                  try clear c4
                  try clear c4b0
                  try clear c5
                  try clear c5b0
                  try clear c6
                  try clear c6b0
                  try clear c7
                  try clear c7b0
                  try clear c7b1
                  try clear c7b2
                  try clear hx160_0
                  try clear hx161_0
                  try clear p160
                  try clear p161
                  try clear p2
                  try clear q160
                  try clear q161
                  obtain ⟨x6_2, rfl, HA, HK2, ⟨m2, rfl⟩⟩ := hrel
                  cases gk with
                  | zero => exact absurd HA.out (by simp [bastionref14_Same.l1])
                  | succ k2 =>
                    have H := HA.out
                    clear HA
                    simp only [bastionref14_Same.l1] at H
                    by_cases c8 : 0 ≤ x5_1
                    · rw [if_pos c8] at H
                      have c8b0 : decide (0 ≤ x5_1) = true := decide_eq_true c8
                      clear c8
                      by_cases c9 : x5_1 < (l0.length : Int)
                      · rw [if_pos c9] at H
                        have c9b0 : decide (x5_1 < (l0.length : Int)) = true := decide_eq_true c9
                        clear c9
                        by_cases c10 : x6_2 < ((rd_L1 l0 x5_1).length : Int)
                        · rw [if_pos c10] at H
                          have c10b0 : decide (x6_2 < ((rd_L1 l0 x5_1).length : Int)) = true := decide_eq_true c10
                          clear c10
                          by_cases c11 : 0 ≤ x6_2
                          · rw [if_pos c11] at H
                            have c11b0 : decide (0 ≤ x6_2) = true := decide_eq_true c11
                            clear c11
                            by_cases c12 : x5_1 < (l1.length : Int)
                            · rw [if_pos c12] at H
                              have c12b0 : decide (x5_1 < (l1.length : Int)) = true := decide_eq_true c12
                              clear c12
                              by_cases c13 : x6_2 < ((rd_L1 l1 x5_1).length : Int)
                              · rw [if_pos c13] at H
                                have c13b0 : decide (x6_2 < ((rd_L1 l1 x5_1).length : Int)) = true := decide_eq_true c13
                                clear c13
                                by_cases c14 : (rdOf ByteArray.empty (rd_L1 l0 x5_1) x6_2).toList = (rdOf ByteArray.empty (rd_L1 l1 x5_1) x6_2).toList
                                · rw [if_pos c14] at H
                                  have c14b0 : ((rdOf ByteArray.empty (rd_L1 l0 x5_1) x6_2).toList == (rdOf ByteArray.empty (rd_L1 l1 x5_1) x6_2).toList) = true := beq_iff_eq.mpr c14
                                  have c14b1 : ((rdOf ByteArray.empty (rd_L1 l0 x5_1) x6_2).toList != (rdOf ByteArray.empty (rd_L1 l1 x5_1) x6_2).toList) = false := bne_eq_false_iff_eq.mpr c14
                                  clear c14
                                  have H' := Aside0.mk H
                                  clear H
                                  have p162 : 0 ≤ (x5_1 : Int) := of_decide_eq_true (by first | (with_reducible assumption) | assumption)
                                  have q162 : x5_1 < (l0.length : Int) := of_decide_eq_true (by first | (with_reducible assumption) | assumption)
                                  obtain ⟨ad162, A162_0, c162_0, e162, hx162_0, hl162_0, hi162_0⟩ := at_L1 HR0.out x5_1 p162 q162
                                  obtain rfl : ad160 = ad162 := (by injection e162)
                                  have HR162_0 := Aside0.mk hi162_0
                                  have HC162_0 := Aside0.mk hl162_0
                                  clear hi162_0 hl162_0
                                  replace p162 := eq_true p162
                                  replace q162 := eq_true q162
                                  have p163 : 0 ≤ (x5_1 : Int) := of_decide_eq_true (by first | (with_reducible assumption) | assumption)
                                  have q163 : x5_1 < (l0.length : Int) := of_decide_eq_true (by first | (with_reducible assumption) | assumption)
                                  obtain ⟨ad163, A163_0, c163_0, e163, hx163_0, hl163_0, hi163_0⟩ := at_L1 HR0.out x5_1 p163 q163
                                  obtain rfl : ad160 = ad163 := (by injection e163)
                                  have HR163_0 := Aside0.mk hi163_0
                                  have HC163_0 := Aside0.mk hl163_0
                                  clear hi163_0 hl163_0
                                  replace p163 := eq_true p163
                                  replace q163 := eq_true q163
                                  have ea_ := Option.some.inj (hx162_0.symm.trans hx163_0)
                                  injection ea_ with ea_ en_ ec_
                                  subst ea_
                                  subst ec_
                                  clear en_
                                  have p164 : 0 ≤ (x6_2 : Int) := of_decide_eq_true (by first | (with_reducible assumption) | assumption)
                                  have q164 : x6_2 < ((rd_L1 l0 x5_1).length : Int) := of_decide_eq_true (by first | (with_reducible assumption) | assumption)
                                  obtain ⟨ad164, e164, hx164_0⟩ := Kd.at_string HR163_0.out x6_2 p164 q164
                                  cases e164
                                  replace p164 := eq_true p164
                                  replace q164 := eq_true q164
                                  have p165 : 0 ≤ (x5_1 : Int) := of_decide_eq_true (by first | (with_reducible assumption) | assumption)
                                  have q165 : x5_1 < (l1.length : Int) := of_decide_eq_true (by first | (with_reducible assumption) | assumption)
                                  obtain ⟨ad165, A165_0, c165_0, e165, hx165_0, hl165_0, hi165_0⟩ := at_L1 HR1.out x5_1 p165 q165
                                  obtain rfl : ad161 = ad165 := (by injection e165)
                                  have HR165_0 := Aside0.mk hi165_0
                                  have HC165_0 := Aside0.mk hl165_0
                                  clear hi165_0 hl165_0
                                  replace p165 := eq_true p165
                                  replace q165 := eq_true q165
                                  have p166 : 0 ≤ (x6_2 : Int) := of_decide_eq_true (by first | (with_reducible assumption) | assumption)
                                  have q166 : x6_2 < ((rd_L1 l1 x5_1).length : Int) := of_decide_eq_true (by first | (with_reducible assumption) | assumption)
                                  obtain ⟨ad166, e166, hx166_0⟩ := Kd.at_string HR165_0.out x6_2 p166 q166
                                  cases e166
                                  replace p166 := eq_true p166
                                  replace q166 := eq_true q166
                                  go_wp2
                                  repeat (go_quiet (fail); try go_wp2)
                                  go_roundg k2
                                  case measure => have := HK1.out; have := HK2.out; omega
                                  case rel => exact ⟨(wrap64 (x6_2 + 1)), (by first | rfl | (simp; done) | (simp [*]; done)), H', ⟨by have := HK1.out; have := HK2.out; omega⟩, by repeat (first | exact Drawn0.refl _ | apply Drawn0.step)⟩
                                · rw [if_neg c14] at H
                                  have c14b0 : ((rdOf ByteArray.empty (rd_L1 l0 x5_1) x6_2).toList == (rdOf ByteArray.empty (rd_L1 l1 x5_1) x6_2).toList) = false := beq_eq_false_iff_ne.mpr c14
                                  have c14b1 : ((rdOf ByteArray.empty (rd_L1 l0 x5_1) x6_2).toList != (rdOf ByteArray.empty (rd_L1 l1 x5_1) x6_2).toList) = true := bne_iff_ne.mpr c14
                                  obtain rfl := Option.some.inj H
                                  have p162 : 0 ≤ (x5_1 : Int) := of_decide_eq_true (by first | (with_reducible assumption) | assumption)
                                  have q162 : x5_1 < (l0.length : Int) := of_decide_eq_true (by first | (with_reducible assumption) | assumption)
                                  obtain ⟨ad162, A162_0, c162_0, e162, hx162_0, hl162_0, hi162_0⟩ := at_L1 HR0.out x5_1 p162 q162
                                  obtain rfl : ad160 = ad162 := (by injection e162)
                                  have HR162_0 := Aside0.mk hi162_0
                                  have HC162_0 := Aside0.mk hl162_0
                                  clear hi162_0 hl162_0
                                  replace p162 := eq_true p162
                                  replace q162 := eq_true q162
                                  have p163 : 0 ≤ (x5_1 : Int) := of_decide_eq_true (by first | (with_reducible assumption) | assumption)
                                  have q163 : x5_1 < (l0.length : Int) := of_decide_eq_true (by first | (with_reducible assumption) | assumption)
                                  obtain ⟨ad163, A163_0, c163_0, e163, hx163_0, hl163_0, hi163_0⟩ := at_L1 HR0.out x5_1 p163 q163
                                  obtain rfl : ad160 = ad163 := (by injection e163)
                                  have HR163_0 := Aside0.mk hi163_0
                                  have HC163_0 := Aside0.mk hl163_0
                                  clear hi163_0 hl163_0
                                  replace p163 := eq_true p163
                                  replace q163 := eq_true q163
                                  have ea_ := Option.some.inj (hx162_0.symm.trans hx163_0)
                                  injection ea_ with ea_ en_ ec_
                                  subst ea_
                                  subst ec_
                                  clear en_
                                  have p164 : 0 ≤ (x6_2 : Int) := of_decide_eq_true (by first | (with_reducible assumption) | assumption)
                                  have q164 : x6_2 < ((rd_L1 l0 x5_1).length : Int) := of_decide_eq_true (by first | (with_reducible assumption) | assumption)
                                  obtain ⟨ad164, e164, hx164_0⟩ := Kd.at_string HR163_0.out x6_2 p164 q164
                                  cases e164
                                  replace p164 := eq_true p164
                                  replace q164 := eq_true q164
                                  have p165 : 0 ≤ (x5_1 : Int) := of_decide_eq_true (by first | (with_reducible assumption) | assumption)
                                  have q165 : x5_1 < (l1.length : Int) := of_decide_eq_true (by first | (with_reducible assumption) | assumption)
                                  obtain ⟨ad165, A165_0, c165_0, e165, hx165_0, hl165_0, hi165_0⟩ := at_L1 HR1.out x5_1 p165 q165
                                  obtain rfl : ad161 = ad165 := (by injection e165)
                                  have HR165_0 := Aside0.mk hi165_0
                                  have HC165_0 := Aside0.mk hl165_0
                                  clear hi165_0 hl165_0
                                  replace p165 := eq_true p165
                                  replace q165 := eq_true q165
                                  have p166 : 0 ≤ (x6_2 : Int) := of_decide_eq_true (by first | (with_reducible assumption) | assumption)
                                  have q166 : x6_2 < ((rd_L1 l1 x5_1).length : Int) := of_decide_eq_true (by first | (with_reducible assumption) | assumption)
                                  obtain ⟨ad166, e166, hx166_0⟩ := Kd.at_string HR165_0.out x6_2 p166 q166
                                  cases e166
                                  replace p166 := eq_true p166
                                  replace q166 := eq_true q166
                                  go_wp2
                                  repeat (go_quiet (fail); try go_wp2)
                                  go_ret
                                  exact ⟨by first | rfl | (simp; done) | (simp [*]; done), by repeat (first | exact Drawn0.refl _ | apply Drawn0.step)⟩
                              · rw [if_neg c13] at H
                                exact absurd H (by simp)
                            · rw [if_neg c12] at H
                              exact absurd H (by simp)
                          · rw [if_neg c11] at H
                            exact absurd H (by simp)
                        · rw [if_neg c10] at H
                          have c10b0 : decide (x6_2 < ((rd_L1 l0 x5_1).length : Int)) = false := decide_eq_false c10
                          clear c10
                          have H' := Aside0.mk H
                          clear H
                          have p162 : 0 ≤ (x5_1 : Int) := of_decide_eq_true (by first | (with_reducible assumption) | assumption)
                          have q162 : x5_1 < (l0.length : Int) := of_decide_eq_true (by first | (with_reducible assumption) | assumption)
                          obtain ⟨ad162, A162_0, c162_0, e162, hx162_0, hl162_0, hi162_0⟩ := at_L1 HR0.out x5_1 p162 q162
                          obtain rfl : ad160 = ad162 := (by injection e162)
                          have HR162_0 := Aside0.mk hi162_0
                          have HC162_0 := Aside0.mk hl162_0
                          clear hi162_0 hl162_0
                          replace p162 := eq_true p162
                          replace q162 := eq_true q162
                          go_wp2
                          repeat (go_quiet (fail); try go_wp2)
                          go_roundg k2
                          case measure => have := HK1.out; have := HK2.out; omega
                          case rel => exact ⟨(wrap64 (x5_1 + 1)), (by first | rfl | (simp; done) | (simp [*]; done)), H', ⟨by have := HK1.out; have := HK2.out; omega⟩, by repeat (first | exact Drawn0.refl _ | apply Drawn0.step)⟩
                      · rw [if_neg c9] at H
                        exact absurd H (by simp)
                    · rw [if_neg c8] at H
                      exact absurd H (by simp)
              · rw [if_neg c7] at H
                have c7b0 : (((rd_L1 l0 x5_1).length : Int) == ((rd_L1 l1 x5_1).length : Int)) = false := beq_eq_false_iff_ne.mpr c7
                have c7b1 : (((rd_L1 l0 x5_1).length : Int) != ((rd_L1 l1 x5_1).length : Int)) = true := bne_iff_ne.mpr c7
                have c7b2 : ((rd_L1 l0 x5_1).length == (rd_L1 l1 x5_1).length) = false := by first | simpa using c7 | (simp at c7 ⊢; omega)
                obtain rfl := Option.some.inj H
                have p160 : 0 ≤ (x5_1 : Int) := of_decide_eq_true (by first | (with_reducible assumption) | assumption)
                have q160 : x5_1 < (l0.length : Int) := of_decide_eq_true (by first | (with_reducible assumption) | assumption)
                obtain ⟨ad160, A160_0, c160_0, e160, hx160_0, hl160_0, hi160_0⟩ := at_L1 HR0.out x5_1 p160 q160
                cases e160
                have HR160_0 := Aside0.mk hi160_0
                have HC160_0 := Aside0.mk hl160_0
                clear hi160_0 hl160_0
                replace p160 := eq_true p160
                replace q160 := eq_true q160
                have p161 : 0 ≤ (x5_1 : Int) := of_decide_eq_true (by first | (with_reducible assumption) | assumption)
                have q161 : x5_1 < (l1.length : Int) := of_decide_eq_true (by first | (with_reducible assumption) | assumption)
                obtain ⟨ad161, A161_0, c161_0, e161, hx161_0, hl161_0, hi161_0⟩ := at_L1 HR1.out x5_1 p161 q161
                cases e161
                have HR161_0 := Aside0.mk hi161_0
                have HC161_0 := Aside0.mk hl161_0
                clear hi161_0 hl161_0
                replace p161 := eq_true p161
                replace q161 := eq_true q161
                go_wp2
                repeat (go_quiet (fail); try go_wp2)
                go_ret
                exact ⟨by first | rfl | (simp; done) | (simp [*]; done), by repeat (first | exact Drawn0.refl _ | apply Drawn0.step)⟩
            · rw [if_neg c6] at H
              exact absurd H (by simp)
          · rw [if_neg c5] at H
            exact absurd H (by simp)
        · rw [if_neg c4] at H
          have c4b0 : decide (x5_1 < (l0.length : Int)) = false := decide_eq_false c4
          clear c4
          obtain rfl := Option.some.inj H
          go_wp2
          repeat (go_quiet (fail); try go_wp2)
          go_ret
          exact ⟨by first | rfl | (simp; done) | (simp [*]; done), by repeat (first | exact Drawn0.refl _ | apply Drawn0.step)⟩
  · rw [if_neg c3] at H
    have c3b0 : ((l0.length : Int) == (l1.length : Int)) = false := beq_eq_false_iff_ne.mpr c3
    have c3b1 : ((l0.length : Int) != (l1.length : Int)) = true := bne_iff_ne.mpr c3
    have c3b2 : (l0.length == l1.length) = false := by first | simpa using c3 | (simp at c3 ⊢; omega)
    obtain rfl := Option.some.inj H
    go_enter Tryd.func14, Tryd.ntmps14
    go_wp2
    repeat (go_quiet (fail); try go_wp2)
    go_ret
    exact ⟨by first | rfl | (simp; done) | (simp [*]; done), by repeat (first | exact Drawn0.refl _ | apply Drawn0.step)⟩

end Go.Proofs.YtifgdhmbjlfnhaaDoor.M
