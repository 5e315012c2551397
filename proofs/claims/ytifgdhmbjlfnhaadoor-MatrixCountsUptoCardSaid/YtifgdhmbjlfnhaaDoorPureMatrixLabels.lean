/- MatrixLabels and MatrixBack, without the program, for texts of so many bytes at the most. -/
import Derived.Test.YtifgdhmbjlfnhaaDoorPureLab2
import Derived.Test.YtifgdhmbjlfnhaaDoorMx12
namespace Go.Proofs.YtifgdhmbjlfnhaaDoor.Pure
open Go.RowKit Go.Proofs.YtifgdhmbjlfnhaaDoor.M Go.Proofs.YtifgdhmbjlfnhaaDoorW.PrintWords Go.Proofs.YtifgdhmbjlfnhaaDoorW.PrintLast

theorem longGo (B : List ByteArray) : ∀ (m : Nat) (x3 : Int) (i k : Nat), 1000 - i ≤ m → m + 2 ≤ k → i ≤ 1000 → ∃ b, bastionlaw14_long.l0 k B x3 i = some b := by
  intro m
  induction m with
  | zero =>
    intro x3 i k hm hk hi
    obtain ⟨k, rfl⟩ : ∃ k2, k = k2 + 1 := ⟨k - 1, by omega⟩
    simp only [bastionlaw14_long.l0]
    by_cases hlt : (i : Int) < (B.length : Int)
    · rw [if_pos hlt, if_neg (by omega)]; exact ⟨_, rfl⟩
    · rw [if_neg hlt]; exact ⟨_, rfl⟩
  | succ m ih =>
    intro x3 i k hm hk hi
    obtain ⟨k, rfl⟩ : ∃ k2, k = k2 + 1 := ⟨k - 1, by omega⟩
    simp only [bastionlaw14_long.l0]
    by_cases hlt : (i : Int) < (B.length : Int)
    · rw [if_pos hlt]
      by_cases h2 : i < 1000
      · rw [if_pos (by omega), if_pos (by omega), wr1 i (by omega)]
        exact ih _ (i + 1) k (by omega) (by omega) (by omega)
      · rw [if_neg (by omega)]; exact ⟨_, rfl⟩
    · rw [if_neg hlt]; exact ⟨_, rfl⟩
theorem long_f (B : List ByteArray) : ∃ b, ∀ k, 2000 ≤ k → bastionlaw14_long.f k B = some b := by
  obtain ⟨b, hb⟩ := longGo B 1000 (B.length : Int) 0 2000 (by omega) (by omega) (by omega)
  exact ⟨b, fun k hk => at_rounds (g := fun k => bastionlaw14_long.f k B) (fun k => bastionlaw14_long.mono B k) hk hb⟩
theorem awake0 : bastionlaw14_awake.f 100 = some true := by decide +kernel
theorem awakeAt (k : Nat) (hk : 100 ≤ k) : bastionlaw14_awake.f k = some true := at_rounds (g := fun k => bastionlaw14_awake.f k) (fun k => bastionlaw14_awake.mono k) hk awake0
theorem row_len (b : ByteArray) : (outP (parseF [] (bytesOf b))).2.1.length ≤ b.size + 1 := by
  cases h : parseF [] (bytesOf b) with
  | none => simp [outP]
  | some p =>
    obtain ⟨n, r⟩ := p
    have h1 := label_parse _ _ _ h
    have h2 := tot_lab r
    have h3 := tot_len (r.map strOfNums)
    have h4 := congrArg List.length h1
    unfold labelL at h4
    rw [List.length_append, bytesOf_length] at h4
    show (r.map strOfNums).length ≤ _
    omega
theorem MatrixLabels (a : ByteArray) (B : List ByteArray) (c : ByteArray) (hB : tot B ≤ 2000000) (ha : a.size ≤ 4000000) (hc : c.size ≤ 3000000) : ∃ k, bastionlaw14_MatrixLabels.f k a B c = some true := by
  obtain ⟨b, hb⟩ := long_f B
  have hj : ∀ v, bastionlaw14_MatrixLabels.j0 20000000 a B c v = some true := by
    intro v
    show bastionlaw14_MatrixLabels.j0 (19999999 + 1) a B c v = some true
    simp only [bastionlaw14_MatrixLabels.j0]
    cases v with
    | true => rw [if_pos rfl, awakeAt 19999999 (by omega)]; rfl
    | false =>
      have hr := row_len c
      rw [if_neg (by decide), parseA c 19999999 (by omega) (by omega), parseR c 19999999 (by omega) (by omega)]
      simp only [Option.bind_some]
      rw [label_f a B 19999999 ha (by omega) (by omega), labelR_f a B 19999999 ha (by omega) (by omega)]
      simp only [Option.bind_some]
      rw [if_pos trivial, if_pos trivial, if_pos trivial, sameBig _ 19999999 (by omega) (by omega)]
      simp only [Option.bind_some]
      rw [if_pos trivial, awakeAt 19999999 (by omega)]
      rfl
  refine ⟨20000000, ?_⟩
  unfold bastionlaw14_MatrixLabels.f
  rw [hb 20000000 (by omega)]
  simp only [Option.bind_some]
  split
  · exact hj true
  · split
    · exact hj true
    · exact hj _
def totL (ws : List (List Int)) : Nat := (ws.map fun w => w.length + 1).sum
theorem totL_map (B : List ByteArray) : totL (B.map bytesOf) = tot B := by
  unfold totL tot
  rw [List.map_map]
  congr 2
  funext b
  simp [bytesOf_length]
theorem totL_cons (w : List Int) (ws : List (List Int)) : totL (w :: ws) = w.length + 1 + totL ws := by simp [totL]
theorem tlC_len : ∀ ws : List (List Int), (tlC ws).length ≤ 2 * totL ws
  | [] => by simp [tlC]
  | w :: ws => by
    have ih := tlC_len ws
    have := markL_len 44 w
    rw [tlC, List.length_cons, List.length_append, totL_cons]
    omega
theorem lab_len (ws : List (List Int)) : (lab ws).length ≤ 2 * totL ws := by
  cases ws with
  | nil => simp [lab]
  | cons w ws =>
    have ih := tlC_len ws
    have := markL_len 44 w
    rw [lab, List.length_cons, List.length_append, totL_cons]
    omega
theorem tlC_B : ∀ ws : List (List Int), (∀ v ∈ ws, IsB v) → IsB (tlC ws)
  | [], _ => isB_nil
  | w :: ws, h => isB_cons (by omega) (isB_app (markL_B (h w (List.mem_cons_self ..))) (tlC_B ws (fun v hv => h v (List.mem_cons_of_mem _ hv))))
theorem lab_B (ws : List (List Int)) (h : ∀ v ∈ ws, IsB v) : IsB (lab ws) := by
  cases ws with
  | nil => exact isB_nil
  | cons w ws => exact isB_cons (by omega) (isB_app (markL_B (h w (List.mem_cons_self ..))) (tlC_B ws (fun v hv => h v (List.mem_cons_of_mem _ hv))))
theorem MatrixBack (a : ByteArray) (B : List ByteArray) (c : ByteArray) (hB : tot B + a.size ≤ 1100000) (hc : c.size ≤ 3000000) : ∃ k, bastionlaw14_MatrixBack.f k a B c = some true := by
  obtain ⟨b, hb⟩ := long_f B
  have hl := tot_len B
  have hback : bastionlaw14_MatrixBack.j1 29999999 c false = some true := by
    show bastionlaw14_MatrixBack.j1 (29999998 + 1) c false = some true
    simp only [bastionlaw14_MatrixBack.j1]
    rw [if_neg (by decide), parseA c 29999998 (by omega) (by omega)]
    simp only [Option.bind_some]
    cases h : parseF [] (bytesOf c) with
    | none => rfl
    | some p =>
      obtain ⟨n, r⟩ := p
      obtain ⟨hn, hr⟩ := parse_B _ _ _ (bytes_u8 c) h
      have h1 := label_parse _ _ _ h
      have h2 := tot_lab r
      have h4 := congrArg List.length h1
      have h5 := len_markL 58 n
      unfold labelL at h4
      rw [List.length_append, bytesOf_length] at h4
      simp only [outP]
      rw [if_pos trivial, label_f (strOfNums n) (r.map strOfNums) 29999998 (by rw [strOfNums_size]; omega) (by omega) (by omega)]
      simp only [Option.bind_some]
      unfold labelB
      rw [bytesOf_strOfNums n hn, bytes_back r hr, h1, strOfNums_bytesOf]
      simp
  have hj : ∀ v, bastionlaw14_MatrixBack.j0 30000000 a B c v = some true := by
    intro v
    show bastionlaw14_MatrixBack.j0 (29999999 + 1) a B c v = some true
    simp only [bastionlaw14_MatrixBack.j0]
    cases v with
    | true => rw [if_pos rfl, awakeAt 29999999 (by omega)]; rfl
    | false =>
      have h1 := markL_len 58 (bytesOf a)
      rw [bytesOf_length] at h1
      have h2 := lab_len (B.map bytesOf)
      rw [totL_map] at h2
      have hsz : (labelB a B).size ≤ 4000000 := by
        unfold labelB labelL
        rw [strOfNums_size, List.length_append]
        omega
      rw [if_neg (by decide), label_f a B 29999999 (by omega) (by omega) (by omega)]
      simp only [Option.bind_some]
      rw [parseA (labelB a B) 29999999 hsz (by omega)]
      have hbb : bytesOf (labelB a B) = labelL (bytesOf a) (B.map bytesOf) := bytesOf_strOfNums _ (isB_app (markL_B (bytes_u8 a)) (lab_B (B.map bytesOf) (fun v hv => by
        obtain ⟨b, _, rfl⟩ := List.mem_map.1 hv
        exact bytes_u8 b)))
      rw [hbb, parse_label]
      simp only [Option.bind_some, outP, strs_back, strOfNums_bytesOf]
      rw [if_pos trivial, if_pos trivial, sameBig B 29999999 (by omega) (by omega)]
      simp only [Option.bind_some]
      exact hback
  refine ⟨30000000, ?_⟩
  unfold bastionlaw14_MatrixBack.f
  rw [hb 30000000 (by omega)]
  simp only [Option.bind_some]
  split
  · exact hj true
  · split
    · exact hj true
    · split
      · exact hj true
      · rw [awakeAt 30000000 (by omega)]
        simp only [Option.bind_some]
        exact hj _
end Go.Proofs.YtifgdhmbjlfnhaaDoor.Pure
