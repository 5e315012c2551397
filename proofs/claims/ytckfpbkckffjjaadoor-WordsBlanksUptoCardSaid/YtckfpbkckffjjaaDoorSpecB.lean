/- The reference splitting of words computes the same plain splitting. -/
import Derived.Test.YtckfpbkckffjjaaDoorSpecA
namespace Go.Proofs.YtckfpbkckffjjaaDoor.Pure
open Go.RowKit Go.Proofs.YtckfpbkckffjjaaDoor.X Go.Proofs.YtckfpbkckffjjaaDoorW.PrintWords Go.Proofs.YtckfpbkckffjjaaDoorW.PrintLast

theorem wr2 (n : Nat) (h : n < 4611686018427387900) : wrap64 ((n : Int) + 2) = ((n + 2 : Nat) : Int) := wr n 2 (by omega)
theorem wr3 (n : Nat) (h : n < 4611686018427387900) : wrap64 ((n : Int) + 3) = ((n + 3 : Nat) : Int) := wr n 3 (by omega)
theorem wr22 (n : Nat) (h : n < 4611686018427387900) : wrap64 (((n + 2 : Nat) : Int) + 2) = ((n + 4 : Nat) : Int) := wr (n + 2) 2 (by omega)
theorem hexv (P R : Int) (h0 : 0 ≤ P) (h1 : P ≤ 15) (h2 : 0 ≤ R) (h3 : R ≤ 15) : wrap64 (wrap64 (16 * P) + R) % 256 = P * 16 + R := by
  unfold wrap64
  omega
theorem ref_blank (c : Int) : bastionref02_blank.f c = some (blankI c) := by
  unfold bastionref02_blank.f blankI
  by_cases h : c = 32
  · rw [if_pos h]; subst h; rfl
  · rw [if_neg h, show (c == 32) = false from beq_eq_false_iff_ne.2 h, Bool.false_or]
theorem ref_hex (c : Int) (k : Nat) (hk : 1 ≤ k) (h0 : 0 ≤ c) (h1 : c ≤ 255) : bastionref02_hex.f k c = some (hexI c) := by
  obtain ⟨k, rfl⟩ : ∃ k2, k = k2 + 1 := ⟨k - 1, by omega⟩
  unfold bastionref02_hex.f hexI
  simp only [bastionref02_hex.j0]
  by_cases h2 : 48 ≤ c <;> by_cases h3 : c ≤ 57 <;> by_cases h4 : 97 ≤ c <;> by_cases h5 : c ≤ 102 <;> simp [h2, h3, h4, h5, wrap64] <;> omega
def qOut (x : ByteArray) : Option (List Int × List Int) → ByteArray × Int × Bool
  | none => (⟨#[]⟩, 0, false)
  | some p => (strOfNums p.1, ((x.size - p.2.length : Nat) : Int), true)
set_option maxHeartbeats 1000000 in
theorem refQuoted (x : ByteArray) (hx : x.size ≤ 1000000) : ∀ (m i : Nat) (acc : List Int) (k : Nat), x.size - i ≤ m → i ≤ x.size → acc.length + m ≤ 4000000 → m + 2 ≤ k →
    bastionref02_quoted.l0 k x acc i = some (qOut x (quotedL acc ((bytesOf x).drop i))) := by
  intro m
  induction m using Nat.strongRecOn with
  | ind m ih =>
    intro i acc k hm hi ha hk
    obtain ⟨k, rfl⟩ : ∃ k2, k = k2 + 1 := ⟨k - 1, by omega⟩
    simp only [bastionref02_quoted.l0]
    by_cases hlt : i < x.size
    case neg =>
      rw [if_neg (by omega), bytes_end x i (by omega), quotedL_nil]
      rfl
    obtain ⟨c, hc⟩ : ∃ c : Int, (x[i].toNat : Int) = c := ⟨_, rfl⟩
    have hd := bytes_drop x i hlt
    rw [hc] at hd
    obtain ⟨_, hb, _⟩ := bt_drop hd
    rw [if_pos (by omega), if_pos (by omega), hb, hd]
    by_cases h34 : c = 34
    · rw [if_pos h34, quotedL_end _ _ h34, wr1 i (by omega)]
      simp only [qOut, List.length_drop, bytesOf_length]
      rw [show x.size - (x.size - (i + 1)) = i + 1 by omega]
    rw [if_neg h34]
    by_cases h92 : c = 92
    · have hlt2 : i < 4611686018427387900 := by omega
      rw [if_pos h92, wr1 i (by omega), wr2 i hlt2, wr3 i hlt2, wr22 i hlt2]
      by_cases h1 : i + 1 < x.size
      case neg =>
        rw [if_pos (by omega), bytes_end x (i + 1) (by omega), quotedL_cut _ h92]
        rfl
      rw [if_neg (by omega), if_pos (by omega), if_pos (by omega)]
      obtain ⟨e, he⟩ : ∃ e : Int, (x[i + 1].toNat : Int) = e := ⟨_, rfl⟩
      have hd1 := bytes_drop x (i + 1) h1
      rw [he] at hd1
      obtain ⟨_, hb1, _⟩ := bt_drop hd1
      rw [hb1, hd1]
      have step : ∀ v : Int, bastionref02_quoted.l0 k x (acc ++ [v]) ((i + 2 : Nat) : Int) = some (qOut x (quotedL (acc ++ [v]) ((bytesOf x).drop (i + 2)))) := fun v =>
        ih (m - 2) (by omega) (i + 2) (acc ++ [v]) k (by omega) (by omega) (by rw [List.length_append, List.length_singleton]; omega) (by omega)
      by_cases he120 : e = 120
      · subst he120
        rw [if_neg (by decide), if_neg (by decide), if_neg (by decide), if_neg (by decide), if_pos rfl]
        by_cases h3 : i + 3 < x.size
        case neg =>
          rw [if_pos (by omega), quotedL_x0 _ _ h92 rfl (by rw [List.length_drop, bytesOf_length]; omega)]
          rfl
        rw [if_neg (by omega), if_pos (by omega), if_pos (by omega)]
        have hd2 := bytes_drop x (i + 2) (by omega)
        have hd3 := bytes_drop x (i + 3) h3
        obtain ⟨a, hae⟩ : ∃ a : Int, ((x[i + 2]'(by omega)).toNat : Int) = a := ⟨_, rfl⟩
        obtain ⟨b, hbe⟩ : ∃ b : Int, (x[i + 3].toNat : Int) = b := ⟨_, rfl⟩
        have a0 : 0 ≤ a := by rw [← hae]; exact u8_lo _
        have a1 : a ≤ 255 := by rw [← hae]; exact u8_hi _
        have b0 : 0 ≤ b := by rw [← hbe]; exact u8_lo _
        have b1 : b ≤ 255 := by rw [← hbe]; exact u8_hi _
        rw [hae] at hd2
        rw [hbe] at hd3
        obtain ⟨_, hb2, _⟩ := bt_drop hd2
        obtain ⟨_, hb3, _⟩ := bt_drop hd3
        rw [hb2, hb3, ref_hex a k (by omega) a0 a1, ref_hex b k (by omega) b0 b1, show i + 1 + 1 = i + 2 from rfl, hd2, show i + 2 + 1 = i + 3 from rfl, hd3]
        simp only [Option.bind_some]
        have ra := hexI_range a
        have rb := hexI_range b
        by_cases ha0 : hexI a < 0
        · rw [if_pos ha0, quotedL_x1 _ _ h92 rfl (Or.inl ha0)]
          rfl
        rw [if_neg ha0, if_pos (by omega), if_pos (by omega)]
        by_cases hb0 : hexI b < 0
        · rw [if_pos hb0, quotedL_x1 _ _ h92 rfl (Or.inr hb0)]
          rfl
        rw [if_neg hb0, if_pos (by omega), quotedL_x _ _ h92 rfl (by omega)]
        rw [hexv (hexI a) (hexI b) (by omega) ra.2 (by omega) rb.2]
        exact ih (m - 4) (by omega) (i + 4) _ k (by omega) (by omega) (by rw [List.length_append, List.length_singleton]; omega) (by omega)
      · rw [quotedL_mark _ _ h92 he120, show i + 1 + 1 = i + 2 from rfl]
        by_cases e34 : e = 34
        · have hm : markI e = some 34 := by rw [e34]; rfl
          rw [if_pos e34, if_pos (by omega), step, hm, e34]
        rw [if_neg e34]
        by_cases e92 : e = 92
        · have hm : markI e = some 92 := by rw [e92]; rfl
          rw [if_pos e92, if_pos (by omega), step, hm, e92]
        rw [if_neg e92]
        by_cases e110 : e = 110
        · have hm : markI e = some 10 := by rw [e110]; rfl
          rw [if_pos e110, if_pos (by omega), step, hm]
        rw [if_neg e110]
        by_cases e116 : e = 116
        · have hm : markI e = some 9 := by rw [e116]; rfl
          rw [if_pos e116, if_pos (by omega), step, hm]
        rw [if_neg e116, if_neg he120]
        have : markI e = none := by unfold markI; rw [if_neg e116, if_neg e110, if_neg e92, if_neg e34]
        rw [this]; rfl
    · rw [if_neg h92]
      by_cases hr : c < 32 ∨ c > 126
      · rw [quotedL_bad _ _ h34 h92 hr]
        by_cases h32 : c ≥ 32
        · rw [if_pos h32, if_neg (by omega)]; rfl
        · rw [if_neg h32]; rfl
      · rw [if_pos (by omega), if_pos (by omega), if_pos (by omega), quotedL_plain _ _ h34 h92 hr, wr1 i (by omega)]
        exact ih (m - 1) (by omega) (i + 1) _ k (by omega) (by omega) (by rw [List.length_append, List.length_singleton]; omega) (by omega)

theorem skipB (K : Nat) (x : ByteArray) (xs : List ByteArray) (hx : x.size ≤ 1000000) : ∀ (m i k : Nat), x.size - i ≤ m → i ≤ x.size → K + m + 1 ≤ k → ∃ k' j, K ≤ k' ∧ j ≤ x.size ∧ i ≤ j ∧ (bytesOf x).drop j = ((bytesOf x).drop i).dropWhile blankI ∧ bastionref02_Split.l1 k x xs i = bastionref02_Split.j2 k' x xs j := by
  intro m
  induction m with
  | zero =>
    intro i k hm hi hk
    obtain ⟨k, rfl⟩ : ∃ k2, k = k2 + 1 := ⟨k - 1, by omega⟩
    refine ⟨k, i, by omega, hi, Nat.le_refl _, ?_, ?_⟩
    · rw [bytes_end x i (by omega)]; rfl
    · simp only [bastionref02_Split.l1]
      rw [if_neg (by omega)]
  | succ m ih =>
    intro i k hm hi hk
    obtain ⟨k, rfl⟩ : ∃ k2, k = k2 + 1 := ⟨k - 1, by omega⟩
    simp only [bastionref02_Split.l1]
    by_cases hlt : i < x.size
    case neg =>
      refine ⟨k, i, by omega, hi, Nat.le_refl _, ?_, ?_⟩
      · rw [bytes_end x i (by omega)]; rfl
      · rw [if_neg (by omega)]
    obtain ⟨c, hc⟩ : ∃ c : Int, (x[i].toNat : Int) = c := ⟨_, rfl⟩
    have hd := bytes_drop x i hlt
    rw [hc] at hd
    obtain ⟨_, hb, _⟩ := bt_drop hd
    rw [if_pos (by omega), if_pos (by omega), hb, ref_blank]
    simp only [Option.bind_some]
    by_cases hbl : blankI c = true
    · obtain ⟨k', j, h1, h2, h3, h4, h5⟩ := ih (i + 1) k (by omega) (by omega) (by omega)
      refine ⟨k', j, h1, h2, by omega, ?_, ?_⟩
      · rw [h4, hd, List.dropWhile_cons, if_pos hbl]
      · rw [if_pos hbl, wr1 i (by omega), h5]
    · refine ⟨k, i, by omega, hi, Nat.le_refl _, ?_, ?_⟩
      · rw [hd, List.dropWhile_cons, if_neg hbl]
      · rw [if_neg hbl]
theorem hashB (x : ByteArray) (xs : List ByteArray) (hx : x.size ≤ 1000000) : ∀ (m i k : Nat), x.size - i ≤ m → i ≤ x.size → m + 1 ≤ k → bastionref02_Split.l2 k x xs i = some (if 10 ∈ (bytesOf x).drop i then ([], 4) else (xs, 0)) := by
  intro m
  induction m with
  | zero =>
    intro i k hm hi hk
    obtain ⟨k, rfl⟩ : ∃ k2, k = k2 + 1 := ⟨k - 1, by omega⟩
    simp only [bastionref02_Split.l2]
    rw [if_neg (by omega), bytes_end x i (by omega), if_neg (by simp)]
  | succ m ih =>
    intro i k hm hi hk
    obtain ⟨k, rfl⟩ : ∃ k2, k = k2 + 1 := ⟨k - 1, by omega⟩
    simp only [bastionref02_Split.l2]
    by_cases hlt : i < x.size
    case neg => rw [if_neg (by omega), bytes_end x i (by omega), if_neg (by simp)]
    obtain ⟨c, hc⟩ : ∃ c : Int, (x[i].toNat : Int) = c := ⟨_, rfl⟩
    have hd := bytes_drop x i hlt
    rw [hc] at hd
    obtain ⟨_, hb, _⟩ := bt_drop hd
    rw [if_pos (by omega), if_pos (by omega), hb, hd]
    by_cases h10 : c = 10
    · rw [if_pos h10, if_pos (by rw [h10]; exact List.mem_cons_self ..)]
    · rw [if_neg h10, wr1 i (by omega), ih (i + 1) k (by omega) (by omega) (by omega)]
      congr 1
      by_cases hm10 : 10 ∈ (bytesOf x).drop (i + 1)
      · rw [if_pos hm10, if_pos (List.mem_cons_of_mem _ hm10)]
      · rw [if_neg hm10, if_neg (by rw [List.mem_cons]; rintro (h | h); exact h10 h.symm; exact hm10 h)]
theorem wordB (K : Nat) (xs : List ByteArray) (t : ByteArray) (b : Nat) (ht : t.size ≤ 1000000) (hx : xs.length < 8796093022208) : ∀ (m i k : Nat), t.size - i ≤ m → b ≤ i → i ≤ t.size → K + 2 * m + 2 ≤ k → ∃ k', K ≤ k' ∧
    bastionref02_Split.l3 k t xs i b = if (((bytesOf t).drop i).takeWhile nbI).all plainI = true then bastionref02_Split.l0 k' t (xs ++ [t.extract b (i + (((bytesOf t).drop i).takeWhile nbI).length)]) ((i + (((bytesOf t).drop i).takeWhile nbI).length : Nat) : Int) else some ([], 4) := by
  intro m
  induction m with
  | zero =>
    intro i k hm hbi hi hk
    obtain ⟨k, rfl⟩ : ∃ k2, k = k2 + 2 := ⟨k - 2, by omega⟩
    have hn : (bytesOf t).drop i = [] := bytes_end t i (by omega)
    refine ⟨k, by omega, ?_⟩
    rw [hn]
    simp only [bastionref02_Split.l3, bastionref02_Split.j5]
    rw [if_neg (by omega), if_neg (by decide), if_pos (by omega), if_pos (by omega), if_pos (by omega), if_pos hx]
    simp
  | succ m ih =>
    intro i k hm hbi hi hk
    obtain ⟨k, rfl⟩ : ∃ k2, k = k2 + 2 := ⟨k - 2, by omega⟩
    by_cases hlt : i < t.size
    case neg =>
      have hn : (bytesOf t).drop i = [] := bytes_end t i (by omega)
      refine ⟨k, by omega, ?_⟩
      rw [hn]
      simp only [bastionref02_Split.l3, bastionref02_Split.j5]
      rw [if_neg (by omega), if_neg (by decide), if_pos (by omega), if_pos (by omega), if_pos (by omega), if_pos hx]
      simp
    have hd := bytes_drop t i hlt
    obtain ⟨c, hc⟩ : ∃ c : Int, (t[i].toNat : Int) = c := ⟨_, rfl⟩
    rw [hc] at hd
    obtain ⟨_, hb, _⟩ := bt_drop hd
    simp only [bastionref02_Split.l3]
    rw [if_pos (by omega), if_pos (by omega), hb, ref_blank]
    simp only [Option.bind_some, bastionref02_Split.j5]
    by_cases hnb : nbI c = true
    · have htw := takeWhile_drop hd hnb
      rw [if_pos (show (!blankI c) = true from hnb), if_pos (by omega), if_pos (by omega), hb]
      by_cases hp : plainI c = true
      · have hpp : 33 ≤ c ∧ c ≤ 126 ∧ c ≠ 34 := by unfold plainI at hp; simpa using hp
        obtain ⟨k', hk', e⟩ := ih (i + 1) k (by omega) (by omega) (by omega) (by omega)
        refine ⟨k', hk', ?_⟩
        rw [if_neg (by omega), if_neg (by omega), if_neg hpp.2.2, wr1 i (by omega), e, htw]
        simp only [List.all_cons, hp, Bool.true_and, List.length_cons]
        rw [show i + 1 + (((bytesOf t).drop (i + 1)).takeWhile nbI).length = i + ((((bytesOf t).drop (i + 1)).takeWhile nbI).length + 1) by omega]
      · refine ⟨K, Nat.le_refl _, ?_⟩
        rw [htw]
        simp only [List.all_cons, Bool.eq_false_iff.2 hp, Bool.false_and]
        have hpp : ¬ (33 ≤ c ∧ c ≤ 126 ∧ c ≠ 34) := fun h => hp (by unfold plainI; simpa using h)
        by_cases h1 : c < 33
        · rw [if_pos h1]; rfl
        rw [if_neg h1]
        by_cases h2 : c > 126
        · rw [if_pos h2]; rfl
        rw [if_neg h2, if_pos (by omega)]
        rfl
    · have htw := takeWhile_stop hd (Bool.eq_false_iff.2 hnb)
      refine ⟨k, by omega, ?_⟩
      rw [htw, if_neg (show ¬ (!blankI c) = true from hnb), if_pos (by omega), if_pos (by omega), if_pos (by omega), if_pos hx]
      simp
theorem splitB (x : ByteArray) (hx : x.size ≤ 100000) : ∀ (n i : Nat) (xs : List ByteArray) (k : Nat), x.size - i < n → i ≤ x.size → xs.length + n ≤ 1000000 → 2 * n * n + 8 * n + 8 ≤ k → bastionref02_Split.l0 k x xs i = some (outW xs (spl n ((bytesOf x).drop i))) := by
  intro n
  induction n with
  | zero => intro i xs k h; omega
  | succ n ih =>
    intro i xs k hn hi hxs hk
    obtain ⟨k, rfl⟩ : ∃ k2, k = k2 + 1 := ⟨k - 1, by omega⟩
    have hk2 : 2 * n * n + 8 * n + 8 + 4 * n + 8 ≤ k := by
      have : 2 * (n + 1) * (n + 1) = 2 * n * n + 4 * n + 2 := by rw [Nat.mul_assoc, Nat.mul_assoc]; simp only [Nat.add_mul, Nat.mul_add]; omega
      omega
    obtain ⟨k', j, hk', hj, hij, hdj, hej⟩ := skipB (2 * n * n + 8 * n + 8 + 2 * n + 4) x xs (by omega) (x.size - i) i k (Nat.le_refl _) hi (by omega)
    simp only [bastionref02_Split.l0, spl]
    rw [hej, ← hdj]
    obtain ⟨k', rfl⟩ : ∃ k2, k' = k2 + 1 := ⟨k' - 1, by omega⟩
    simp only [bastionref02_Split.j2]
    by_cases hlt : j < x.size
    case neg =>
      rw [if_pos (by omega), bytes_end x j (by omega)]
      simp [outW]
    have hd := bytes_drop x j hlt
    obtain ⟨c, hc⟩ : ∃ c : Int, (x[j].toNat : Int) = c := ⟨_, rfl⟩
    rw [hc] at hd
    obtain ⟨_, hb, _⟩ := bt_drop hd
    have hnbl : blankI c = false := by
      have h := List.head?_dropWhile_not blankI ((bytesOf x).drop i)
      rw [← hdj, hd] at h
      simpa using h
    rw [if_neg (by omega), if_pos (by omega), if_pos (by omega), hb, hd]
    simp only
    by_cases h35 : c = 35
    · rw [if_pos h35, if_pos h35, hashB x xs (by omega) (x.size - j) j k' (Nat.le_refl _) hj (by omega), hd]
      subst h35
      by_cases h10 : 10 ∈ (bytesOf x).drop (j + 1)
      · rw [if_pos h10, if_pos (List.mem_cons_of_mem _ h10)]; rfl
      · rw [if_neg h10, if_neg (by rw [List.mem_cons]; rintro (h | h); exact absurd h (by decide); exact h10 h)]
        simp [outW]
    · rw [if_neg h35, if_neg h35]
      by_cases h34 : c = 34
      · rw [if_pos h34, if_pos h34]
        have hq : bastionref02_quoted.f k' x j = some (qOut x (quotedL [] ((bytesOf x).drop (j + 1)))) := by
          unfold bastionref02_quoted.f
          rw [wr1 j (by omega)]
          exact refQuoted x (by omega) (x.size - (j + 1)) (j + 1) [] k' (Nat.le_refl _) (by omega) (by simp; omega) (by omega)
        rw [hq]
        simp only [Option.bind_some]
        cases hqq : quotedL [] ((bytesOf x).drop (j + 1)) with
        | none => simp [qOut, outW]
        | some p =>
          obtain ⟨w, q⟩ := p
          obtain ⟨m, hm0, hm1, hm⟩ := quoted_drop ((bytesOf x).drop (j + 1)).length [] _ w q (Nat.le_refl _) hqq
          rw [List.length_drop, bytesOf_length] at hm1
          rw [List.drop_drop] at hm
          have hql : x.size - q.length = j + 1 + m := by rw [hm, List.length_drop, bytesOf_length]; omega
          have hrec : bastionref02_Split.l0 k' x (xs ++ [strOfNums w]) ((j + 1 + m : Nat) : Int) = some (outW (xs ++ [strOfNums w]) (spl n q)) := by
            rw [hm]
            exact ih (j + 1 + m) (xs ++ [strOfNums w]) k' (by omega) (by omega) (by rw [List.length_append, List.length_singleton]; omega) (by omega)
          rw [show qOut x (some (w, q)) = (strOfNums w, ((j + 1 + m : Nat) : Int), true) by simp only [qOut, hql]]
          dsimp only
          rw [if_pos rfl]
          by_cases hend : j + 1 + m < x.size
          case neg =>
            have hq0 : q = [] := by rw [hm]; exact bytes_end x _ (by omega)
            rw [if_neg (by omega), if_pos (by omega), hrec, if_pos (Or.inl hq0), outW_map]
          have hd2 := bytes_drop x (j + 1 + m) hend
          obtain ⟨d, hde⟩ : ∃ d : Int, (x[j + 1 + m].toNat : Int) = d := ⟨_, rfl⟩
          rw [hde] at hd2
          obtain ⟨_, hb2, _⟩ := bt_drop hd2
          rw [if_pos (by omega), if_pos (by omega), hb2, ref_blank]
          simp only [Option.bind_some]
          have hqd : q = d :: (bytesOf x).drop (j + 1 + m + 1) := by rw [hm, hd2]
          by_cases hbl : blankI d = true
          · rw [if_pos hbl, if_pos (by omega), hrec, if_pos (Or.inr (by rw [hqd]; exact hbl)), outW_map]
          · rw [if_neg hbl, if_neg (by rw [hqd]; rintro (h | h); exact absurd h (by simp); exact hbl h)]
            rfl
      · rw [if_neg h34, if_neg h34]
        obtain ⟨k2, hk2', e⟩ := wordB (2 * n * n + 8 * n + 8) xs x j (by omega) (by omega) (x.size - j) j k' (Nat.le_refl _) (Nat.le_refl _) hj (by omega)
        rw [e, hd]
        have hnb : nbI c = true := by unfold nbI; rw [hnbl]; rfl
        by_cases hall : ((c :: (bytesOf x).drop (j + 1)).takeWhile nbI).all plainI = true
        · rw [if_pos hall, if_pos hall, outW_map]
          have hlen := takeWhile_drop (p := nbI) (l := c :: (bytesOf x).drop (j + 1)) rfl hnb
          have hle : ((c :: (bytesOf x).drop (j + 1)).takeWhile nbI).length ≤ x.size - j := by
            have := (List.takeWhile_sublist (p := nbI) (l := c :: (bytesOf x).drop (j + 1))).length_le
            rw [List.length_cons, List.length_drop, bytesOf_length] at this
            omega
          have hpos : 0 < ((c :: (bytesOf x).drop (j + 1)).takeWhile nbI).length := by rw [hlen]; simp
          have hw1 : x.extract j (j + ((c :: (bytesOf x).drop (j + 1)).takeWhile nbI).length) = strOfNums ((c :: (bytesOf x).drop (j + 1)).takeWhile nbI) := by
            rw [ext_drop, hd, Nat.add_sub_cancel_left, take_while_take]
          have hw2 : (bytesOf x).drop (j + ((c :: (bytesOf x).drop (j + 1)).takeWhile nbI).length) = (c :: (bytesOf x).drop (j + 1)).dropWhile nbI := by
            rw [← List.drop_drop, hd, drop_while_drop]
          rw [hw1, ih _ (xs ++ [strOfNums ((c :: (bytesOf x).drop (j + 1)).takeWhile nbI)]) k2 (by omega) (by omega) (by rw [List.length_append, List.length_singleton]; omega) hk2', hw2]
        · rw [if_neg hall, if_neg hall]
          rfl
theorem splitR_f (a : ByteArray) (k : Nat) (h : a.size ≤ 400) (hk : 400000 ≤ k) : bastionref02_Split.f k a = some (outW [] (spl (a.size + 1) (bytesOf a))) := by
  unfold bastionref02_Split.f
  rw [if_neg (by omega)]
  have := splitB a (by omega) (a.size + 1) 0 [] k (by omega) (by omega) (by simp; omega) (by
    have : 2 * (a.size + 1) * (a.size + 1) ≤ 2 * 401 * 401 := Nat.mul_le_mul (Nat.mul_le_mul (Nat.le_refl _) (by omega)) (by omega)
    omega)
  rw [List.drop_zero] at this
  exact this
theorem sameGo (l : List ByteArray) (h : l.length ≤ 1000000) : ∀ (m i k : Nat), l.length - i ≤ m → i ≤ l.length → m + 1 ≤ k → bastionref02_Same.l0 k l l i = some true := by
  intro m
  induction m with
  | zero =>
    intro i k hm hi hk
    obtain ⟨k, rfl⟩ : ∃ k2, k = k2 + 1 := ⟨k - 1, by omega⟩
    simp only [bastionref02_Same.l0]
    rw [if_neg (by omega)]
  | succ m ih =>
    intro i k hm hi hk
    obtain ⟨k, rfl⟩ : ∃ k2, k = k2 + 1 := ⟨k - 1, by omega⟩
    simp only [bastionref02_Same.l0]
    by_cases hlt : i < l.length
    · rw [if_pos (by omega), if_pos (by omega), if_pos (by omega), if_pos trivial, wr1 i (by omega)]
      exact ih (i + 1) k (by omega) (by omega) (by omega)
    · rw [if_neg (by omega)]
theorem sameAll (l : List ByteArray) (k : Nat) (h : l.length ≤ 100000) (hk : 200000 ≤ k) : bastionref02_Same.f k l l = some true := by
  unfold bastionref02_Same.f
  rw [if_pos rfl]
  exact sameGo l (by omega) l.length 0 k (by omega) (by omega) (by omega)
theorem awake100 : bastionlaw02_awake.f 100 = some true := by decide +kernel
theorem awakeAt (k : Nat) (h : 100 ≤ k) : bastionlaw02_awake.f k = some true := by
  obtain ⟨d, rfl⟩ : ∃ d, k = 100 + d := ⟨k - 100, by omega⟩
  clear h
  induction d with
  | zero => exact awake100
  | succ d ih => exact bastionlaw02_awake.mono (100 + d) _ ih
theorem spl_len : ∀ (n : Nat) (L : List Int) (ws : List (List Int)), spl n L = some ws → ws.length ≤ n := by
  intro n
  induction n with
  | zero => intro L ws h; cases h
  | succ n ih =>
    intro L ws h
    simp only [spl] at h
    have key : ∀ (o : Option (List (List Int))) (w : List Int), o.map (w :: ·) = some ws → (∀ v, o = some v → v.length ≤ n) → ws.length ≤ n + 1 := by
      intro o w ho hv
      cases o with
      | none => cases ho
      | some v =>
        simp only [Option.map_some, Option.some.injEq] at ho
        subst ho
        have := hv v rfl
        simp only [List.length_cons]
        omega
    split at h
    · simp only [Option.some.injEq] at h; subst h; simp
    · split at h
      · split at h
        · cases h
        · simp only [Option.some.injEq] at h; subst h; simp
      · split at h
        · split at h
          · cases h
          · split at h
            · exact key _ _ h (fun v hv => ih _ v hv)
            · cases h
        · split at h
          · exact key _ _ h (fun v hv => ih _ v hv)
          · cases h
theorem splitBoth (a : ByteArray) : ∃ (r : List ByteArray) (c : Int), r.length ≤ 401 ∧ ∀ k, 400000 ≤ k → words_Split.f k a = some (r, c) ∧ bastionref02_Split.f k a = some (r, c) := by
  by_cases h : a.size ≤ 400
  · refine ⟨(outW [] (spl (a.size + 1) (bytesOf a))).1, (outW [] (spl (a.size + 1) (bytesOf a))).2, ?_, fun k hk => ⟨split_f a k h hk, splitR_f a k h hk⟩⟩
    cases hs : spl (a.size + 1) (bytesOf a) with
    | none => simp [outW]
    | some ws =>
      have := spl_len _ _ _ hs
      simp [outW]
      omega
  · refine ⟨[], 40, by simp, fun k _ => ⟨?_, ?_⟩⟩
    · unfold words_Split.f; rw [if_pos (by omega)]
    · unfold bastionref02_Split.f; rw [if_pos (by omega)]
end Go.Proofs.YtckfpbkckffjjaaDoor.Pure
