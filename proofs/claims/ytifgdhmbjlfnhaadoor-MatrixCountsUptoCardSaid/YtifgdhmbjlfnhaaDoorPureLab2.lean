/- The two readings of a label, and that making and reading are each other's backs. -/
import Derived.Test.YtifgdhmbjlfnhaaDoorPureLab
namespace Go.Proofs.YtifgdhmbjlfnhaaDoor.Pure
open Go.RowKit Go.Proofs.YtifgdhmbjlfnhaaDoor.M Go.Proofs.YtifgdhmbjlfnhaaDoorW.PrintWords Go.Proofs.YtifgdhmbjlfnhaaDoorW.PrintLast

/-- One induction over what partL does. -/
theorem partL_ind {stop : Int} (P : List Int → List Int → List Int × List Int × Bool × Bool → Prop)
    (h0 : ∀ acc, P acc [] (acc, [], false, true)) (hend : ∀ acc, P acc [92] ([], [], false, false))
    (hbad : ∀ acc y r, y ≠ 92 → y ≠ stop → P acc (92 :: y :: r) ([], [], false, false))
    (hesc : ∀ acc y r q, (y = 92 ∨ y = stop) → P (acc ++ [y]) r q → P acc (92 :: y :: r) q)
    (hstop : ∀ acc r, stop ≠ 92 → P acc (stop :: r) (acc, r, true, true))
    (hplain : ∀ acc x r q, x ≠ 92 → x ≠ stop → P (acc ++ [x]) r q → P acc (x :: r) q) : ∀ (n : Nat) (l acc : List Int), l.length ≤ n → P acc l (partL stop acc l) := by
  intro n
  induction n with
  | zero =>
    intro l acc h
    rw [List.eq_nil_of_length_eq_zero (Nat.le_zero.1 h)]
    exact h0 acc
  | succ n ih =>
    intro l acc h
    cases l with
    | nil => exact h0 acc
    | cons x r =>
      rw [List.length_cons] at h
      by_cases hx : x = 92
      · subst hx
        cases r with
        | nil => rw [partL_end rfl]; exact hend acc
        | cons y r =>
          rw [List.length_cons] at h
          by_cases hy : y = 92 ∨ y = stop
          · rw [partL_esc rfl hy]
            exact hesc _ _ _ _ hy (ih _ _ (by omega))
          · rw [partL_bad rfl (fun e => hy (.inl e)) (fun e => hy (.inr e))]
            exact hbad _ _ _ (fun e => hy (.inl e)) (fun e => hy (.inr e))
      · by_cases hs : x = stop
        · rw [partL_stop hx hs, hs]
          exact hstop _ _ (fun e => hx (hs.trans e))
        · rw [partL_plain hx hs]
          exact hplain _ _ _ _ hx hs (ih _ _ (by omega))
theorem partL_B (stop : Int) (l acc : List Int) (ha : IsB acc) (hl : IsB l) : IsB (partL stop acc l).1 ∧ IsB (partL stop acc l).2.1 ∧ (partL stop acc l).2.1.length ≤ l.length ∧ ((partL stop acc l).2.2.1 = true → (partL stop acc l).2.1.length < l.length) ∧ (partL stop acc l).1.length ≤ acc.length + l.length := by
  refine partL_ind (stop := stop) (fun acc l q => IsB acc → IsB l → IsB q.1 ∧ IsB q.2.1 ∧ q.2.1.length ≤ l.length ∧ (q.2.2.1 = true → q.2.1.length < l.length) ∧ q.1.length ≤ acc.length + l.length) ?_ ?_ ?_ ?_ ?_ ?_ l.length l acc (Nat.le_refl _) ha hl
  · intro acc h _; exact ⟨h, isB_nil, by simp, by simp, by simp⟩
  · intro acc _ _; exact ⟨isB_nil, isB_nil, by simp, by simp, by simp⟩
  · intro acc y r _ _ _ _; exact ⟨isB_nil, isB_nil, by simp, by simp, by simp⟩
  · intro acc y r q _ ih ha hl
    obtain ⟨a, b, c, d, e⟩ := ih (isB_snoc ha (isB_head (isB_tail hl))) (isB_tail (isB_tail hl))
    exact ⟨a, b, by simp only [List.length_cons]; omega, fun h => by have := d h; simp only [List.length_cons]; omega, by simp only [List.length_append, List.length_cons, List.length_nil] at e ⊢; omega⟩
  · intro acc r _ ha hl; exact ⟨ha, isB_tail hl, by simp, by simp, by simp⟩
  · intro acc x r q _ _ ih ha hl
    obtain ⟨a, b, c, d, e⟩ := ih (isB_snoc ha (isB_head hl)) (isB_tail hl)
    exact ⟨a, b, by simp only [List.length_cons]; omega, fun h => by have := d h; simp only [List.length_cons]; omega, by simp only [List.length_append, List.length_cons, List.length_nil] at e ⊢; omega⟩
/-- What was taken off, marked, and what is left, are the text. -/
theorem partL_inv (stop : Int) (l acc : List Int) (h : (partL stop acc l).2.2.2 = true) : markL stop acc ++ l = markL stop (partL stop acc l).1 ++ (if (partL stop acc l).2.2.1 = true then stop :: (partL stop acc l).2.1 else []) := by
  refine partL_ind (stop := stop) (fun acc l q => q.2.2.2 = true → markL stop acc ++ l = markL stop q.1 ++ (if q.2.2.1 = true then stop :: q.2.1 else [])) ?_ ?_ ?_ ?_ ?_ ?_ l.length l acc (Nat.le_refl _) h
  · intro acc _; simp
  · intro acc h; cases h
  · intro acc y r _ _ h; cases h
  · intro acc y r q hy ih h
    rw [← ih h, markL_app, markL_cons, if_pos hy, markL_nil, List.append_assoc]
    rfl
  · intro acc r _ _; simp
  · intro acc x r q hx hs ih h
    rw [← ih h, markL_app, markL_cons, if_neg (show ¬ (x = 92 ∨ x = stop) by omega), markL_nil, List.append_assoc]
    rfl
theorem partL_mark (stop : Int) (hs : stop ≠ 92) : ∀ (s acc rest : List Int), partL stop acc (markL stop s ++ rest) = partL stop (acc ++ s) rest
  | [], acc, rest => by rw [markL_nil, List.nil_append, List.append_nil]
  | x :: s, acc, rest => by
    have ih := partL_mark stop hs s (acc ++ [x]) rest
    rw [List.append_assoc] at ih
    rw [markL_cons]
    by_cases h : x = 92 ∨ x = stop
    · rw [if_pos h]
      show partL stop acc (92 :: x :: (markL stop s ++ rest)) = _
      rw [partL_esc rfl h]
      exact ih
    · rw [if_neg h]
      show partL stop acc (x :: (markL stop s ++ rest)) = _
      rw [partL_plain (fun e => h (.inl e)) (fun e => h (.inr e))]
      exact ih
/-- The values behind the first stop. -/
def valsF : Nat → List Int → List Int → Option (List (List Int))
  | 0, _, _ => none
  | n + 1, part, l => if (partL 44 part l).2.2.2 = true then (if (partL 44 part l).2.2.1 = true then (valsF n [] (partL 44 part l).2.1).map ((partL 44 part l).1 :: ·) else some [(partL 44 part l).1]) else none
theorem valsF_fuel : ∀ (n m : Nat) (part l : List Int), IsB part → IsB l → l.length < n → l.length < m → valsF n part l = valsF m part l := by
  intro n
  induction n with
  | zero => intro m part l _ _ h; omega
  | succ n ih =>
    intro m part l hp hl h1 h2
    obtain ⟨m, rfl⟩ : ∃ m2, m = m2 + 1 := ⟨m - 1, by omega⟩
    obtain ⟨_, hb, _, hlt, _⟩ := partL_B 44 l part hp hl
    rw [valsF, valsF]
    by_cases hk : (partL 44 part l).2.2.2 = true
    · rw [if_pos hk, if_pos hk]
      by_cases hm : (partL 44 part l).2.2.1 = true
      · have := hlt hm
        rw [if_pos hm, if_pos hm, ih m [] _ isB_nil hb (by omega) (by omega)]
      · rw [if_neg hm, if_neg hm]
    · rw [if_neg hk, if_neg hk]
def parseF (part l : List Int) : Option (List Int × List (List Int)) :=
  if (partL 58 part l).2.2.2 = true then (if (partL 58 part l).2.2.1 = true then (valsF (l.length + 1) [] (partL 58 part l).2.1).map ((partL 58 part l).1, ·) else some ((partL 58 part l).1, [])) else none
def outP : Option (List Int × List (List Int)) → ByteArray × List ByteArray × Int
  | none => (⟨#[]⟩, [], 4)
  | some (n, r) => (strOfNums n, r.map strOfNums, 0)
def outV (nm : ByteArray) (row : List ByteArray) : Option (List (List Int)) → ByteArray × List ByteArray × Int
  | none => (⟨#[]⟩, [], 4)
  | some vs => (nm, row ++ vs.map strOfNums, 0)
theorem part_f (b : ByteArray) (c : Int) (h : b.size ≤ 4000000) : matrix_part.f b c = some (strOfNums (partL c [] (bytesOf b)).1, strOfNums (partL c [] (bytesOf b)).2.1, (partL c [] (bytesOf b)).2.2.1, (partL c [] (bytesOf b)).2.2.2) := by
  unfold matrix_part.f
  rw [if_pos (by omega)]
theorem parseA_go : ∀ (n : Nat) (rest : List Int) (nm : ByteArray) (xs : List ByteArray) (k : Nat), IsB rest → rest.length < n → n ≤ 4000001 → xs.length + n ≤ 100000000 → 2 * n + 4 ≤ k →
    matrix_Parse.l0 k nm (strOfNums rest) true true xs = some (outV nm xs (valsF n [] rest)) := by
  intro n
  induction n with
  | zero => intro rest nm xs k _ h; omega
  | succ n ih =>
    intro rest nm xs k hb hn hN hx hk
    obtain ⟨k, rfl⟩ : ∃ k2, k = k2 + 4 := ⟨k - 4, by omega⟩
    obtain ⟨_, hb2, hle, hlt, _⟩ := partL_B 44 rest [] isB_nil hb
    simp only [matrix_Parse.l0]
    rw [if_pos trivial]
    simp only [matrix_Parse.j1]
    rw [if_pos trivial, part_f _ _ (by rw [strOfNums_size]; omega), bytesOf_strOfNums rest hb]
    simp only [Option.bind_some]
    rw [valsF]
    by_cases hk2 : (partL 44 [] rest).2.2.2 = true
    · rw [if_pos hk2, if_pos hk2, if_pos (by omega), hk2]
      by_cases hm : (partL 44 [] rest).2.2.1 = true
      · have := hlt hm
        rw [if_pos hm, hm, ih _ nm _ (k + 2) hb2 (by omega) (by omega) (by rw [List.length_append, List.length_singleton]; omega) (by omega)]
        cases valsF n [] (partL 44 [] rest).2.1 with
        | none => rfl
        | some vs => simp [outV]
      · rw [if_neg hm, Bool.eq_false_iff.2 hm]
        simp only [matrix_Parse.l0]
        rw [if_pos trivial]
        simp only [matrix_Parse.j1]
        rw [if_neg (by decide), if_pos trivial]
        rfl
    · rw [if_neg hk2, if_neg hk2, Bool.eq_false_iff.2 hk2]
      simp only [matrix_Parse.l0]
      rw [if_neg (by decide)]
      simp only [matrix_Parse.j1]
      rw [if_neg (by decide), if_neg (by decide)]
      rfl
theorem parseA (b : ByteArray) (k : Nat) (h : b.size ≤ 4000000) (hk : 10000000 ≤ k) : matrix_Parse.f k b = some (outP (parseF [] (bytesOf b))) := by
  obtain ⟨_, hb2, hle, _, _⟩ := partL_B 58 (bytesOf b) [] isB_nil (bytes_u8 b)
  rw [bytesOf_length] at hle
  unfold matrix_Parse.f
  rw [part_f b 58 h]
  simp only [Option.bind_some, parseF, bytesOf_length]
  by_cases hk2 : (partL 58 [] (bytesOf b)).2.2.2 = true
  · rw [if_pos hk2, hk2]
    by_cases hm : (partL 58 [] (bytesOf b)).2.2.1 = true
    · rw [if_pos hm, hm, parseA_go (b.size + 1) _ _ [] k hb2 (by omega) (by omega) (by simp; omega) (by omega)]
      cases valsF (b.size + 1) [] (partL 58 [] (bytesOf b)).2.1 with
      | none => rfl
      | some vs => simp [outV, outP]
    · obtain ⟨k, rfl⟩ : ∃ k2, k = k2 + 2 := ⟨k - 2, by omega⟩
      rw [if_neg hm, Bool.eq_false_iff.2 hm]
      simp only [matrix_Parse.l0]
      rw [if_pos trivial]
      simp only [matrix_Parse.j1]
      rw [if_neg (by decide), if_pos trivial]
      rfl
  · obtain ⟨k, rfl⟩ : ∃ k2, k = k2 + 2 := ⟨k - 2, by omega⟩
    rw [if_neg hk2, Bool.eq_false_iff.2 hk2]
    simp only [matrix_Parse.l0]
    rw [if_neg (by decide)]
    simp only [matrix_Parse.j1]
    rw [if_neg (by decide), if_neg (by decide)]
    rfl
theorem one_ext (x : ByteArray) (i : Nat) (h : i < x.size) : x.extract i (i + 1) = strOfNums [(x[i].toNat : Int)] := by
  rw [ext_drop, bytes_drop x i h, show i + 1 - i = 1 by omega]
  rfl
theorem valsF_head {n : Nat} {part l : List Int} : valsF (n + 1) part l = if (partL 44 part l).2.2.2 = true then (if (partL 44 part l).2.2.1 = true then (valsF n [] (partL 44 part l).2.1).map ((partL 44 part l).1 :: ·) else some [(partL 44 part l).1]) else none := rfl
/-- The reference's reading, among the values. -/
theorem parseR_vals (x : ByteArray) (hx : x.size ≤ 4000000) : ∀ (m i k : Nat) (nm : ByteArray) (row : List ByteArray) (part : List Int), x.size - i ≤ m → i ≤ x.size → 2 * m + 4 ≤ k → IsB part → part.length + m ≤ 100000000 → row.length + m ≤ 100000000 →
    bastionref14_Parse.l0 k x nm row (strOfNums part) true i = some (outV nm row (valsF (m + 1) part ((bytesOf x).drop i))) := by
  intro m
  induction m using Nat.strongRecOn with
  | ind m ih =>
    intro i k nm row part hm hi hk hp hpl hrl
    obtain ⟨k, rfl⟩ : ∃ k2, k = k2 + 2 := ⟨k - 2, by omega⟩
    simp only [bastionref14_Parse.l0]
    by_cases hlt : i < x.size
    case neg =>
      rw [if_neg (by omega), if_pos trivial, if_pos (by omega), bytes_end x i (by omega)]
      rfl
    have hd := bytes_drop x i hlt
    obtain ⟨_, hb, _⟩ := bt_drop hd
    have hul : IsB ((bytesOf x).drop (i + 1)) := fun y hy => bytes_u8 x y (List.mem_of_mem_drop hy)
    have hy1 := u8_lo x[i]
    have hy2 := u8_hi x[i]
    have hpz := strOfNums_size part
    rw [if_pos (by omega), if_pos trivial]
    simp only [bastionref14_Parse.j1]
    rw [if_pos (by omega), if_pos (by omega), hb, hd, wr1 i (by omega), wr1 (i + 1) (by omega)]
    by_cases h92 : (x[i].toNat : Int) = 92
    · rw [if_pos h92, h92]
      by_cases h1 : i + 1 < x.size
      case neg =>
        rw [if_pos (by omega), bytes_end x (i + 1) (by omega), valsF_head, partL_end rfl]
        rfl
      have hd1 := bytes_drop x (i + 1) h1
      obtain ⟨_, hb1, _⟩ := bt_drop hd1
      have hz1 := u8_lo x[i + 1]
      have hz2 := u8_hi x[i + 1]
      rw [if_neg (by omega), if_pos (by omega), if_pos (by omega), hb1, hd1]
      have go : (x[i + 1].toNat : Int) = 92 ∨ (x[i + 1].toNat : Int) = 44 → (if ((i + 1 : Nat) : Int) ≤ ((i + 1 + 1 : Nat) : Int) then if ((i + 1 + 1 : Nat) : Int) ≤ (x.size : Int) then if (strOfNums part).size + (x.extract ((i + 1 : Nat) : Int).toNat ((i + 1 + 1 : Nat) : Int).toNat).size ≤ 9223372036854775807 then bastionref14_Parse.l0 k x nm row (strOfNums part ++ x.extract ((i + 1 : Nat) : Int).toNat ((i + 1 + 1 : Nat) : Int).toNat) true ((i + 1 + 1 : Nat) : Int) else none else none else none) = some (outV nm row (valsF (m + 1) part (92 :: (x[i + 1].toNat : Int) :: (bytesOf x).drop (i + 1 + 1)))) := by
        intro hor
        rw [if_pos (by omega), if_pos (by omega), Int.toNat_natCast, Int.toNat_natCast, one_ext x (i + 1) h1, if_pos (by rw [strOfNums_size, strOfNums_size]; simp; omega), ← strOfNums_app]
        have hul2 : IsB ((bytesOf x).drop (i + 1 + 1)) := fun y hy => bytes_u8 x y (List.mem_of_mem_drop hy)
        rw [ih (m - 2) (by omega) (i + 1 + 1) k nm row _ (by omega) (by omega) (by omega) (isB_snoc hp ⟨hz1, hz2⟩) (by rw [List.length_append, List.length_singleton]; omega) (by omega)]
        rw [valsF_head (n := m), partL_esc rfl hor, ← valsF_head, valsF_fuel (m - 2 + 1) (m + 1) _ _ (isB_snoc hp ⟨hz1, hz2⟩) hul2 (by rw [List.length_drop, bytesOf_length]; omega) (by rw [List.length_drop, bytesOf_length]; omega)]
      by_cases h2 : (x[i + 1].toNat : Int) = 92
      · rw [if_pos h2]
        exact go (.inl h2)
      · rw [if_neg h2]
        by_cases h3 : (x[i + 1].toNat : Int) = 44
        · rw [if_pos h3]
          exact go (.inr h3)
        · rw [if_neg h3, valsF_head, partL_bad rfl h2 h3]
          rfl
    · rw [if_neg h92]
      by_cases h44 : (x[i].toNat : Int) = 44
      · rw [if_pos h44, if_pos trivial, if_pos (by omega)]
        have := ih (m - 1) (by omega) (i + 1) k nm (row ++ [strOfNums part]) [] (by omega) (by omega) (by omega) isB_nil (by simp; omega) (by rw [List.length_append, List.length_singleton]; omega)
        rw [show (⟨#[]⟩ : ByteArray) = strOfNums [] from rfl, this, valsF_head (n := m), partL_stop h92 h44]
        simp only [if_true]
        rw [valsF_fuel (m - 1 + 1) m [] _ isB_nil hul (by rw [List.length_drop, bytesOf_length]; omega) (by rw [List.length_drop, bytesOf_length]; omega)]
        cases valsF m [] ((bytesOf x).drop (i + 1)) with
        | none => rfl
        | some vs => simp [outV]
      · rw [if_neg h44, if_pos (by omega), if_pos (by omega), Int.toNat_natCast, Int.toNat_natCast, one_ext x i hlt, if_pos (by rw [strOfNums_size, strOfNums_size]; simp; omega), ← strOfNums_app]
        rw [ih (m - 1) (by omega) (i + 1) k nm row _ (by omega) (by omega) (by omega) (isB_snoc hp ⟨hy1, hy2⟩) (by rw [List.length_append, List.length_singleton]; omega) (by omega)]
        rw [valsF_head (n := m), partL_plain h92 h44, ← valsF_head, valsF_fuel (m - 1 + 1) (m + 1) _ _ (isB_snoc hp ⟨hy1, hy2⟩) hul (by rw [List.length_drop, bytesOf_length]; omega) (by rw [List.length_drop, bytesOf_length]; omega)]
/-- The reference's reading, ahead of the first stop. -/
theorem parseR_name (x : ByteArray) (hx : x.size ≤ 4000000) : ∀ (m i k : Nat) (part : List Int), x.size - i ≤ m → i ≤ x.size → 2 * m + 8 ≤ k → IsB part → part.length + m ≤ 100000000 →
    bastionref14_Parse.l0 k x (⟨#[]⟩ : ByteArray) [] (strOfNums part) false i = some (outP (parseF part ((bytesOf x).drop i))) := by
  intro m
  induction m using Nat.strongRecOn with
  | ind m ih =>
    intro i k part hm hi hk hp hpl
    obtain ⟨k, rfl⟩ : ∃ k2, k = k2 + 2 := ⟨k - 2, by omega⟩
    simp only [bastionref14_Parse.l0]
    by_cases hlt : i < x.size
    case neg =>
      rw [if_neg (by omega), if_neg (by decide), bytes_end x i (by omega)]
      rfl
    have hd := bytes_drop x i hlt
    obtain ⟨_, hb, _⟩ := bt_drop hd
    have hul : IsB ((bytesOf x).drop (i + 1)) := fun y hy => bytes_u8 x y (List.mem_of_mem_drop hy)
    have hy1 := u8_lo x[i]
    have hy2 := u8_hi x[i]
    have hpz := strOfNums_size part
    rw [if_pos (by omega), if_neg (by decide)]
    simp only [bastionref14_Parse.j1]
    rw [if_pos (by omega), if_pos (by omega), hb, hd, wr1 i (by omega), wr1 (i + 1) (by omega)]
    by_cases h92 : (x[i].toNat : Int) = 92
    · rw [if_pos h92, h92]
      by_cases h1 : i + 1 < x.size
      case neg =>
        rw [if_pos (by omega), bytes_end x (i + 1) (by omega)]
        simp only [parseF, partL_end rfl]
        rfl
      have hd1 := bytes_drop x (i + 1) h1
      obtain ⟨_, hb1, _⟩ := bt_drop hd1
      have hz1 := u8_lo x[i + 1]
      have hz2 := u8_hi x[i + 1]
      rw [if_neg (by omega), if_pos (by omega), if_pos (by omega), hb1, hd1]
      have go : (x[i + 1].toNat : Int) = 92 ∨ (x[i + 1].toNat : Int) = 58 → (if ((i + 1 : Nat) : Int) ≤ ((i + 1 + 1 : Nat) : Int) then if ((i + 1 + 1 : Nat) : Int) ≤ (x.size : Int) then if (strOfNums part).size + (x.extract ((i + 1 : Nat) : Int).toNat ((i + 1 + 1 : Nat) : Int).toNat).size ≤ 9223372036854775807 then bastionref14_Parse.l0 k x (⟨#[]⟩ : ByteArray) [] (strOfNums part ++ x.extract ((i + 1 : Nat) : Int).toNat ((i + 1 + 1 : Nat) : Int).toNat) false ((i + 1 + 1 : Nat) : Int) else none else none else none) = some (outP (parseF part (92 :: (x[i + 1].toNat : Int) :: (bytesOf x).drop (i + 1 + 1)))) := by
        intro hor
        rw [if_pos (by omega), if_pos (by omega), Int.toNat_natCast, Int.toNat_natCast, one_ext x (i + 1) h1, if_pos (by rw [strOfNums_size, strOfNums_size]; simp; omega), ← strOfNums_app]
        have hul2 : IsB ((bytesOf x).drop (i + 1 + 1)) := fun y hy => bytes_u8 x y (List.mem_of_mem_drop hy)
        rw [ih (m - 2) (by omega) (i + 1 + 1) k _ (by omega) (by omega) (by omega) (isB_snoc hp ⟨hz1, hz2⟩) (by rw [List.length_append, List.length_singleton]; omega)]
        have hq := partL_B 58 ((bytesOf x).drop (i + 1 + 1)) (part ++ [(x[i + 1].toNat : Int)]) (isB_snoc hp ⟨hz1, hz2⟩) hul2
        simp only [parseF, partL_esc rfl hor, List.length_cons]
        rw [valsF_fuel (((bytesOf x).drop (i + 1 + 1)).length + 1 + 1 + 1) (((bytesOf x).drop (i + 1 + 1)).length + 1) [] _ isB_nil hq.2.1 (by omega) (by omega)]
      by_cases h2 : (x[i + 1].toNat : Int) = 92
      · rw [if_pos h2]
        exact go (.inl h2)
      · rw [if_neg h2]
        by_cases h3 : (x[i + 1].toNat : Int) = 58
        · rw [if_pos h3]
          exact go (.inr h3)
        · rw [if_neg h3]
          simp only [parseF, partL_bad rfl h2 h3]
          rfl
    · rw [if_neg h92]
      by_cases h58 : (x[i].toNat : Int) = 58
      · rw [if_pos h58, if_neg (by decide)]
        have := parseR_vals x hx m (i + 1) k (strOfNums part) [] [] (by omega) (by omega) (by omega) isB_nil (by simp; omega) (by simp; omega)
        rw [show (⟨#[]⟩ : ByteArray) = strOfNums [] from rfl, this]
        simp only [parseF, partL_stop h92 h58, if_true, List.length_cons]
        rw [valsF_fuel (m + 1) (((bytesOf x).drop (i + 1)).length + 1 + 1) [] _ isB_nil hul (by rw [List.length_drop, bytesOf_length]; omega) (by omega)]
        cases valsF (((bytesOf x).drop (i + 1)).length + 1 + 1) [] ((bytesOf x).drop (i + 1)) with
        | none => rfl
        | some vs => simp [outV, outP]
      · rw [if_neg h58, if_pos (by omega), if_pos (by omega), Int.toNat_natCast, Int.toNat_natCast, one_ext x i hlt, if_pos (by rw [strOfNums_size, strOfNums_size]; simp; omega), ← strOfNums_app]
        rw [ih (m - 1) (by omega) (i + 1) k _ (by omega) (by omega) (by omega) (isB_snoc hp ⟨hy1, hy2⟩) (by rw [List.length_append, List.length_singleton]; omega)]
        have hq := partL_B 58 ((bytesOf x).drop (i + 1)) (part ++ [(x[i].toNat : Int)]) (isB_snoc hp ⟨hy1, hy2⟩) hul
        simp only [parseF, partL_plain h92 h58, List.length_cons]
        rw [valsF_fuel (((bytesOf x).drop (i + 1)).length + 1 + 1) (((bytesOf x).drop (i + 1)).length + 1) [] _ isB_nil hq.2.1 (by omega) (by omega)]
theorem parseR (b : ByteArray) (k : Nat) (h : b.size ≤ 4000000) (hk : 10000000 ≤ k) : bastionref14_Parse.f k b = some (outP (parseF [] (bytesOf b))) := by
  have := parseR_name b h b.size 0 k [] (by omega) (by omega) (by omega) isB_nil (by simp; omega)
  rw [List.drop_zero] at this
  exact this
/-! ### there and back -/
theorem vals_lab : ∀ (ws : List (List Int)) (w part : List Int) (n : Nat), (markL 44 w ++ tlC ws).length < n → valsF n part (markL 44 w ++ tlC ws) = some ((part ++ w) :: ws)
  | [], w, part, n, h => by
    obtain ⟨n, rfl⟩ : ∃ m, n = m + 1 := ⟨n - 1, by omega⟩
    rw [valsF, partL_mark 44 (by decide), tlC]
    rfl
  | v :: ws, w, part, n, h => by
    obtain ⟨n, rfl⟩ : ∃ m, n = m + 1 := ⟨n - 1, by omega⟩
    rw [tlC] at h ⊢
    rw [valsF, partL_mark 44 (by decide), partL_stop (by decide) rfl]
    simp only [if_true]
    rw [vals_lab ws v [] n (by simp only [List.length_append, List.length_cons] at h ⊢; omega)]
    rfl
theorem parse_label (a : List Int) (ws : List (List Int)) : parseF [] (labelL a ws) = some (a, ws) := by
  unfold labelL parseF
  rw [partL_mark 58 (by decide), List.nil_append]
  cases ws with
  | nil => rfl
  | cons w ws =>
    rw [lab, partL_stop (by decide) rfl]
    simp only [if_true]
    rw [vals_lab ws w [] _ (by simp only [List.length_append, List.length_cons]; omega)]
    rfl
theorem vals_inv : ∀ (n : Nat) (part l : List Int) (vs : List (List Int)), valsF n part l = some vs → ∃ v r, vs = v :: r ∧ markL 44 part ++ l = markL 44 v ++ tlC r := by
  intro n
  induction n with
  | zero => intro part l vs h; cases h
  | succ n ih =>
    intro part l vs h
    have hi := partL_inv 44 l part
    rw [valsF] at h
    by_cases hk : (partL 44 part l).2.2.2 = true
    · rw [if_pos hk] at h
      have hi := hi hk
      by_cases hm : (partL 44 part l).2.2.1 = true
      · rw [if_pos hm] at h hi
        cases hv : valsF n [] (partL 44 part l).2.1 with
        | none => rw [hv] at h; cases h
        | some us =>
          rw [hv] at h
          simp only [Option.map_some, Option.some.injEq] at h
          obtain ⟨v, r, e1, e2⟩ := ih [] _ us hv
          refine ⟨_, us, h.symm, ?_⟩
          rw [hi, e1, tlC, ← e2]
          rfl
      · rw [if_neg hm] at h hi
        simp only [Option.some.injEq] at h
        exact ⟨_, [], h.symm, by rw [hi]; rfl⟩
    · rw [if_neg hk] at h
      cases h
theorem label_parse (l n : List Int) (r : List (List Int)) (h : parseF [] l = some (n, r)) : labelL n r = l := by
  have hi := partL_inv 58 l []
  unfold parseF at h
  by_cases hk : (partL 58 [] l).2.2.2 = true
  · rw [if_pos hk] at h
    have hi := hi hk
    by_cases hm : (partL 58 [] l).2.2.1 = true
    · rw [if_pos hm] at h hi
      cases hv : valsF (l.length + 1) [] (partL 58 [] l).2.1 with
      | none => rw [hv] at h; cases h
      | some us =>
        rw [hv] at h
        simp only [Option.map_some, Option.some.injEq, Prod.mk.injEq] at h
        obtain ⟨v, q, e1, e2⟩ := vals_inv _ [] _ us hv
        rw [← h.1, ← h.2, e1]
        unfold labelL
        rw [lab, ← e2]
        exact hi.symm
    · rw [if_neg hm] at h hi
      simp only [Option.some.injEq, Prod.mk.injEq] at h
      rw [← h.1, ← h.2]
      exact hi.symm
  · rw [if_neg hk] at h
    cases h
theorem vals_B : ∀ (n : Nat) (part l : List Int) (vs : List (List Int)), IsB part → IsB l → valsF n part l = some vs → ∀ v ∈ vs, IsB v := by
  intro n
  induction n with
  | zero => intro part l vs _ _ h; cases h
  | succ n ih =>
    intro part l vs hp hl h
    obtain ⟨ha, hb, _, _, _⟩ := partL_B 44 l part hp hl
    rw [valsF] at h
    split at h
    · split at h
      · cases hv : valsF n [] (partL 44 part l).2.1 with
        | none => rw [hv] at h; cases h
        | some us =>
          rw [hv] at h
          simp only [Option.map_some, Option.some.injEq] at h
          subst h
          intro v hm
          rcases List.mem_cons.1 hm with rfl | hm
          · exact ha
          · exact ih [] _ us isB_nil hb hv v hm
      · simp only [Option.some.injEq] at h
        subst h
        intro v hm
        rw [List.mem_singleton] at hm
        subst hm
        exact ha
    · cases h
theorem parse_B (l n : List Int) (r : List (List Int)) (hl : IsB l) (h : parseF [] l = some (n, r)) : IsB n ∧ ∀ v ∈ r, IsB v := by
  obtain ⟨ha, hb, _, _, _⟩ := partL_B 58 l [] isB_nil hl
  unfold parseF at h
  split at h
  · split at h
    · cases hv : valsF (l.length + 1) [] (partL 58 [] l).2.1 with
      | none => rw [hv] at h; cases h
      | some us =>
        rw [hv] at h
        simp only [Option.map_some, Option.some.injEq, Prod.mk.injEq] at h
        obtain ⟨rfl, rfl⟩ := h
        exact ⟨ha, vals_B _ _ _ _ isB_nil hb hv⟩
    · simp only [Option.some.injEq, Prod.mk.injEq] at h
      obtain ⟨rfl, rfl⟩ := h
      exact ⟨ha, fun v hv => by cases hv⟩
  · cases h
theorem tot_tlC : ∀ ws : List (List Int), tot (ws.map strOfNums) ≤ (tlC ws).length
  | [] => by simp [tot, tlC]
  | w :: ws => by
    have ih := tot_tlC ws
    have := len_markL 44 w
    rw [List.map_cons, tot_cons, tlC, List.length_cons, List.length_append, strOfNums_size]
    omega
theorem tot_lab (ws : List (List Int)) : tot (ws.map strOfNums) ≤ (lab ws).length := by
  cases ws with
  | nil => simp [tot, lab]
  | cons w ws =>
    have ih := tot_tlC ws
    have := len_markL 44 w
    rw [List.map_cons, tot_cons, lab, List.length_cons, List.length_append, strOfNums_size]
    omega
theorem bytes_back (ws : List (List Int)) (h : ∀ v ∈ ws, IsB v) : (ws.map strOfNums).map bytesOf = ws := by
  induction ws with
  | nil => rfl
  | cons w ws ih => rw [List.map_cons, List.map_cons, ih (fun v hv => h v (List.mem_cons_of_mem _ hv)), bytesOf_strOfNums w (h w (List.mem_cons_self ..))]
theorem strs_back (B : List ByteArray) : (B.map bytesOf).map strOfNums = B := by
  induction B with
  | nil => rfl
  | cons b l ih => rw [List.map_cons, List.map_cons, ih, strOfNums_bytesOf]
end Go.Proofs.YtifgdhmbjlfnhaaDoor.Pure
