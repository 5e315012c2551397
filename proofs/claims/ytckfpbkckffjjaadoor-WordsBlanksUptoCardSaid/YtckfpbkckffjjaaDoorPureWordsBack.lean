/- WordsJoin and WordsBack, without the program, for words of so many bytes at the most. -/
import Derived.Test.YtckfpbkckffjjaaDoorSpecK
import Derived.Test.YtckfpbkckffjjaaDoorXx7
namespace Go.Proofs.YtckfpbkckffjjaaDoor.Pure
open Go.RowKit Go.Proofs.YtckfpbkckffjjaaDoor.X Go.Proofs.YtckfpbkckffjjaaDoorW.PrintWords Go.Proofs.YtckfpbkckffjjaaDoorW.PrintLast

theorem sameGo2 (l : List ByteArray) (h : l.length ≤ 4000000) : ∀ (m i k : Nat), l.length - i ≤ m → i ≤ l.length → m + 1 ≤ k → bastionref02_Same.l0 k l l i = some true := by
  intro m
  induction m with
  | zero =>
    intro i k hm hi hk
    obtain ⟨k, rfl⟩ : ∃ k2, k = k2 + 1 := ⟨k - 1, by omega⟩
    simp only [bastionref02_Same.l0]
    rw [if_neg (by omega)]
  | succ m ih =>
    intro i k hm hi hk
    obtain ⟨k, rfl⟩ : ∃ k2, k = k2 + 1 := ⟨k - 1, by omega⟩
    simp only [bastionref02_Same.l0]
    by_cases hlt : i < l.length
    · rw [if_pos (by omega), if_pos (by omega), if_pos (by omega), if_pos trivial, wr1 i (by omega)]
      exact ih (i + 1) k (by omega) (by omega) (by omega)
    · rw [if_neg (by omega)]
theorem sameBig (B : List ByteArray) (k : Nat) (h : B.length ≤ 4000000) (hk : 5000000 ≤ k) : bastionref02_Same.f k B B = some true := by
  unfold bastionref02_Same.f
  rw [if_pos rfl]
  exact sameGo2 B (by omega) B.length 0 k (by omega) (by omega) (by omega)
theorem longGo (B : List ByteArray) : ∀ (m : Nat) (x3 : Int) (i k : Nat), 1000 - i ≤ m → m + 2 ≤ k → i ≤ 1000 → ∃ b, bastionlaw02_long.l0 k B x3 i = some b := by
  intro m
  induction m with
  | zero =>
    intro x3 i k hm hk hi
    obtain ⟨k, rfl⟩ : ∃ k2, k = k2 + 1 := ⟨k - 1, by omega⟩
    simp only [bastionlaw02_long.l0]
    by_cases hlt : (i : Int) < (B.length : Int)
    · rw [if_pos hlt, if_neg (by omega)]; exact ⟨_, rfl⟩
    · rw [if_neg hlt]; exact ⟨_, rfl⟩
  | succ m ih =>
    intro x3 i k hm hk hi
    obtain ⟨k, rfl⟩ : ∃ k2, k = k2 + 1 := ⟨k - 1, by omega⟩
    simp only [bastionlaw02_long.l0]
    by_cases hlt : (i : Int) < (B.length : Int)
    · rw [if_pos hlt]
      by_cases h2 : i < 1000
      · rw [if_pos (by omega), if_pos (by omega), wr1 i (by omega)]
        exact ih _ (i + 1) k (by omega) (by omega) (by omega)
      · rw [if_neg (by omega)]; exact ⟨_, rfl⟩
    · rw [if_neg hlt]; exact ⟨_, rfl⟩
theorem long_f (B : List ByteArray) : ∃ b, ∀ k, 2000 ≤ k → bastionlaw02_long.f k B = some b := by
  obtain ⟨b, hb⟩ := longGo B 1000 (B.length : Int) 0 2000 (by omega) (by omega) (by omega)
  refine ⟨b, fun k hk => ?_⟩
  obtain ⟨d, rfl⟩ : ∃ d, k = 2000 + d := ⟨k - 2000, by omega⟩
  clear hk
  induction d with
  | zero => exact hb
  | succ d ih => exact bastionlaw02_long.mono B (2000 + d) _ ih
theorem WordsJoin (B : List ByteArray) (hB : tot B ≤ 4000000) : ∃ k, bastionlaw02_WordsJoin.f k B = some true := by
  obtain ⟨b, hb⟩ := long_f B
  refine ⟨5000000, ?_⟩
  have htl := tot_len B
  unfold bastionlaw02_WordsJoin.f
  rw [hb 5000000 (by omega)]
  simp only [Option.bind_some]
  rw [awakeAt 5000000 (by omega)]
  simp only [Option.bind_some, List.nil_append, List.length_nil]
  rw [join_f B hB 5000000 (by omega), joinR_f B hB 5000000 (by omega), if_pos (show 0 + B.length < 8796093022208 by omega)]
  simp only [Option.bind_some]
  rw [if_pos trivial, if_pos trivial]
  cases b <;> rfl
theorem joinU8 (B : List ByteArray) : ∀ x ∈ joinL (B.map bytesOf), 0 ≤ x ∧ x ≤ 255 := fun x hx => by
  have := join_print (B.map bytesOf) (fun w hw y hy => by
    obtain ⟨b, _, rfl⟩ := List.mem_map.1 hw
    exact bytes_u8 b y hy) x hx
  omega
/-- What is joined is split as it was. -/
theorem back_f (B : List ByteArray) (h : ¬ (joinL (B.map bytesOf)).length > 400) (k : Nat) (hk : 400000 ≤ k) : words_Split.f k (strOfNums (joinL (B.map bytesOf))) = some (B, 0) := by
  have hs := strOfNums_size (joinL (B.map bytesOf))
  rw [split_f _ k (by omega) hk, bytesOf_strOfNums _ (joinU8 B), hs]
  have := spl_join (B.map bytesOf) ((joinL (B.map bytesOf)).length + 1) [] (fun w hw y hy => by
    obtain ⟨b, _, rfl⟩ := List.mem_map.1 hw
    exact bytes_u8 b y hy) (fun c r e => by cases e) (fun m hm => by
      obtain ⟨m, rfl⟩ : ∃ q, m = q + 1 := ⟨m - 1, by simp at hm; omega⟩
      rfl) (by rw [List.append_nil]; omega)
  rw [List.append_nil] at this
  rw [this]
  simp only [outW, List.nil_append, List.map_map]
  congr 1
  congr 1
  have : ∀ l : List ByteArray, l.map (strOfNums ∘ bytesOf) = l := fun l => by
    induction l with
    | nil => rfl
    | cons b l ih => rw [List.map_cons, ih]; congr 1; exact strOfNums_bytesOf b
  exact this B
theorem outW_code (xs : List ByteArray) (o : Option (List (List Int))) (h : (outW xs o).2 = 0) : ∃ ws, o = some ws := by
  cases o with
  | none => cases h
  | some ws => exact ⟨ws, rfl⟩
theorem quoted_len : ∀ (n : Nat) (acc s w r : List Int), s.length ≤ n → quotedL acc s = some (w, r) → w.length ≤ acc.length + s.length := by
  intro n
  induction n with
  | zero => intro acc s w r hn h; rw [List.eq_nil_of_length_eq_zero (Nat.le_zero.1 hn), quotedL_nil] at h; cases h
  | succ n ih =>
    intro acc s w r hn h
    cases s with
    | nil => rw [quotedL_nil] at h; cases h
    | cons c s =>
      rw [List.length_cons] at hn ⊢
      by_cases h1 : c = 34
      · rw [quotedL_end acc s h1] at h; cases h; omega
      · by_cases h2 : c = 92
        · cases s with
          | nil => rw [quotedL_cut acc h2] at h; cases h
          | cons e s =>
            rw [List.length_cons] at hn ⊢
            by_cases h3 : e = 120
            · match s with
              | [] => rw [quotedL_x0 acc [] h2 h3 (by simp)] at h; cases h
              | [_] => rw [quotedL_x0 acc _ h2 h3 (by simp)] at h; cases h
              | a :: b :: s =>
                simp only [List.length_cons] at hn ⊢
                by_cases h4 : hexI a < 0 ∨ hexI b < 0
                · rw [quotedL_x1 acc s h2 h3 h4] at h; cases h
                · rw [quotedL_x acc s h2 h3 h4] at h
                  have := ih _ s w r (by omega) h
                  rw [List.length_append, List.length_singleton] at this
                  omega
            · rw [quotedL_mark acc s h2 h3] at h
              cases hk : markI e with
              | none => rw [hk] at h; cases h
              | some t =>
                rw [hk] at h
                have := ih _ s w r (by omega) h
                rw [List.length_append, List.length_singleton] at this
                omega
        · by_cases h3 : c < 32 ∨ c > 126
          · rw [quotedL_bad acc s h1 h2 h3] at h; cases h
          · rw [quotedL_plain acc s h1 h2 h3] at h
            have := ih _ s w r (by omega) h
            rw [List.length_append, List.length_singleton] at this
            omega
theorem spl_wlen : ∀ (n : Nat) (L : List Int) (ws : List (List Int)), spl n L = some ws → ∀ w ∈ ws, w.length ≤ L.length := by
  intro n
  induction n with
  | zero => intro L ws h; cases h
  | succ n ih =>
    intro L ws h
    simp only [spl] at h
    have hle := (List.dropWhile_sublist blankI (l := L)).length_le
    have key : ∀ (o : Option (List (List Int))) (v : List Int), o.map (v :: ·) = some ws → v.length ≤ L.length → (∀ u, o = some u → ∀ w ∈ u, w.length ≤ L.length) → ∀ w ∈ ws, w.length ≤ L.length := by
      intro o v ho hv hu w hw
      cases o with
      | none => cases ho
      | some u =>
        simp only [Option.map_some, Option.some.injEq] at ho
        subst ho
        rcases List.mem_cons.1 hw with rfl | hw
        · exact hv
        · exact hu u rfl w hw
    split at h
    · simp only [Option.some.injEq] at h; subst h; intro w hw; cases hw
    · rename_i c t hd
      rw [hd, List.length_cons] at hle
      split at h
      · split at h
        · cases h
        · simp only [Option.some.injEq] at h; subst h; intro w hw; cases hw
      · split at h
        · split at h
          · cases h
          · rename_i p hq
            obtain ⟨m, _, hm1, hm⟩ := quoted_drop t.length [] t p.1 p.2 (Nat.le_refl _) hq
            have hwl := quoted_len t.length [] t p.1 p.2 (Nat.le_refl _) hq
            have hrl : p.2.length ≤ t.length := by rw [hm, List.length_drop]; omega
            split at h
            · exact key _ _ h (by simp only [List.length_nil] at hwl; omega) (fun u hu w hw => Nat.le_trans (ih _ u hu w hw) (by omega))
            · cases h
        · split at h
          · have h1 := (List.takeWhile_sublist nbI (l := c :: t)).length_le
            have h2 := (List.dropWhile_sublist nbI (l := c :: t)).length_le
            rw [List.length_cons] at h1 h2
            exact key _ _ h (by omega) (fun u hu w hw => Nat.le_trans (ih _ u hu w hw) (by omega))
          · cases h
theorem tot_bound (M : Nat) : ∀ B : List ByteArray, (∀ b ∈ B, b.size ≤ M) → tot B ≤ B.length * (M + 1)
  | [], _ => by simp [tot]
  | b :: B, h => by
    have h1 := tot_bound M B (fun c hc => h c (List.mem_cons_of_mem _ hc))
    have h2 := h b (List.mem_cons_self ..)
    rw [tot_cons, List.length_cons, Nat.add_mul]
    omega
/-- What a line is split into is of so many bytes at the most. -/
theorem split_tot (a : ByteArray) (h : a.size ≤ 400) (B : List ByteArray) (c : Int) (hf : outW [] (spl (a.size + 1) (bytesOf a)) = (B, c)) : tot B ≤ 401 * 401 := by
  cases hs : spl (a.size + 1) (bytesOf a) with
  | none => rw [hs] at hf; simp only [outW] at hf; cases hf; exact Nat.zero_le _
  | some ws =>
    rw [hs] at hf
    simp only [outW, List.nil_append] at hf
    cases hf
    have h1 := spl_len _ _ _ hs
    have h2 := tot_bound 400 (ws.map strOfNums) (fun b hb => by
      obtain ⟨w, hw, rfl⟩ := List.mem_map.1 hb
      have := spl_wlen _ _ _ hs w hw
      rw [bytesOf_length] at this
      rw [strOfNums_size]
      omega)
    rw [List.length_map] at h2
    have h3 : ws.length * (400 + 1) ≤ 401 * (400 + 1) := Nat.mul_le_mul_right (400 + 1) (by omega)
    exact Nat.le_trans h2 h3
theorem backLine (a : ByteArray) (k : Nat) (hk : 5000001 ≤ k) : bastionlaw02_WordsBack.j1 k a = some true := by
  obtain ⟨k, rfl⟩ : ∃ k2, k = k2 + 1 := ⟨k - 1, by omega⟩
  simp only [bastionlaw02_WordsBack.j1]
  by_cases h : a.size ≤ 400
  · rw [split_f a k h (by omega)]
    simp only [Option.bind_some]
    obtain ⟨B, c, hf⟩ : ∃ B c, outW [] (spl (a.size + 1) (bytesOf a)) = (B, c) := ⟨_, _, rfl⟩
    have ht := split_tot a h B c hf
    have hl := tot_len B
    rw [hf]
    by_cases hc : c = 0
    · rw [if_pos hc, join_f B (by omega) k (by omega)]
      simp only [Option.bind_some]
      unfold jOut
      by_cases h4 : (joinL (B.map bytesOf)).length > 400
      · rw [if_pos h4]; rfl
      · rw [if_neg h4, if_pos rfl]
        dsimp only
        rw [back_f B h4 k (by omega)]
        simp only [Option.bind_some]
        rw [if_pos trivial, sameBig B k (by omega) (by omega)]
        rfl
    · rw [if_neg hc]
  · have : words_Split.f k a = some (([] : List ByteArray), 40) := by unfold words_Split.f; rw [if_pos (by omega)]
    rw [this]
    rfl
theorem WordsBack (B : List ByteArray) (a : ByteArray) (hB : tot B ≤ 2000000) : ∃ k, bastionlaw02_WordsBack.f k B a = some true := by
  obtain ⟨b, hb⟩ := long_f B
  have hl := tot_len B
  have hj : ∀ k, 5000002 ≤ k → ∀ v, bastionlaw02_WordsBack.j0 k B a v = some true := by
    intro k hk v
    obtain ⟨k, rfl⟩ : ∃ k2, k = k2 + 1 := ⟨k - 1, by omega⟩
    simp only [bastionlaw02_WordsBack.j0]
    cases v with
    | true => rw [if_pos rfl, awakeAt k (by omega)]; rfl
    | false =>
      rw [if_neg (by decide), join_f B (by omega) k (by omega)]
      simp only [Option.bind_some]
      unfold jOut
      by_cases h4 : (joinL (B.map bytesOf)).length > 400
      · rw [if_pos h4, if_neg (by decide)]
        exact backLine a k (by omega)
      · rw [if_neg h4, if_pos rfl]
        dsimp only
        rw [back_f B h4 k (by omega)]
        simp only [Option.bind_some]
        rw [if_pos trivial, sameBig B k (by omega) (by omega)]
        simp only [Option.bind_some]
        rw [if_pos trivial]
        exact backLine a k (by omega)
  refine ⟨5000002, ?_⟩
  unfold bastionlaw02_WordsBack.f
  rw [hb 5000002 (by omega)]
  simp only [Option.bind_some]
  rw [awakeAt 5000002 (by omega), hj 5000002 (by omega)]
  cases b
  · rw [if_neg (by decide)]
    split
    · rfl
    · exact hj 5000002 (by omega) (!true)
  · rfl
end Go.Proofs.YtckfpbkckffjjaaDoor.Pure
