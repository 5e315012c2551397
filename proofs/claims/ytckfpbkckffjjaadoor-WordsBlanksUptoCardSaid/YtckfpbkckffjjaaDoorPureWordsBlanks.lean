/- WordsBlanks, without the program, for words of so many bytes at the most. -/
import Derived.Test.YtckfpbkckffjjaaDoorPureWordsBack
import Derived.Test.YtckfpbkckffjjaaDoorPureLinesA
import Derived.Test.YtckfpbkckffjjaaDoorXx10
namespace Go.Proofs.YtckfpbkckffjjaaDoor.Pure
open Go.RowKit Go.Proofs.YtckfpbkckffjjaaDoor.X Go.Proofs.YtckfpbkckffjjaaDoorW.PrintWords Go.Proofs.YtckfpbkckffjjaaDoorW.PrintLast

theorem lines_f (a : ByteArray) (k : Nat) (h : a.size ≤ 10000) (hk : 500000 ≤ k) : words_Lines.f k a = some (res40 (goL ((splitU 10 [] a.data.toList).map mkB) 0 [])) := by
  have hlen : ((splitU 10 [] a.data.toList).map mkB).length ≤ 10001 := by
    rw [List.length_map, splitU_length]
    have := List.count_le_length (a := (10 : UInt8)) (l := a.data.toList)
    rw [data_length] at this
    omega
  unfold words_Lines.f
  have : strings_Split.f a (⟨#[10]⟩ : ByteArray) = some ((splitU 10 [] a.data.toList).map mkB) := by
    unfold strings_Split.f
    rw [if_pos ⟨rfl, by omega⟩]
    rfl
  rw [this]
  simp only [Option.bind_some]
  exact linesA _ (by omega) _ 0 k [] (List.drop_zero ..) (by omega) (by simp) (by omega)
theorem splitU_app (x : List UInt8) : ∀ (acc l : List UInt8), 10 ∉ x → splitU 10 acc (x ++ l) = splitU 10 (acc ++ x) l := by
  induction x with
  | nil => intro acc l _; rw [List.nil_append, List.append_nil]
  | cons c x ih =>
    intro acc l h
    rw [List.mem_cons, not_or] at h
    rw [List.cons_append]
    simp only [splitU]
    rw [if_neg (fun e => h.1 e.symm), ih _ _ h.2, List.append_assoc]
    rfl
theorem mem_un (l : List UInt8) (h : (10 : Int) ∉ unU8 l) : (10 : UInt8) ∉ l := by
  intro hm
  exact h (List.mem_map.2 ⟨10, hm, rfl⟩)
theorem app_data (a b : ByteArray) : (a ++ b).data.toList = a.data.toList ++ b.data.toList := by
  rw [ByteArray.data_append, Array.toList_append]
theorem mkB_bytes (l : List UInt8) : bytesOf (mkB l) = unU8 l := rfl
theorem mkB_size (l : List UInt8) : (mkB l).size = l.length := rfl
theorem sig_of (a : ByteArray) (h : a.size ≤ 400) : sig a = outW [] (spl (a.size + 1) (bytesOf a)) := by
  unfold sig
  rw [if_pos h]
theorem spl_rem (R : List Int) (h : 10 ∉ R) (m : Nat) (hm : 0 < m) : spl m (35 :: R) = some [] := by
  obtain ⟨m, rfl⟩ : ∃ q, m = q + 1 := ⟨m - 1, by omega⟩
  have hd : (35 :: R).dropWhile blankI = 35 :: R := by rw [List.dropWhile_cons, if_neg (by decide)]
  simp only [spl, hd]
  rw [if_pos trivial, if_neg h]
theorem strs_back (B : List ByteArray) : (B.map bytesOf).map strOfNums = B := by
  induction B with
  | nil => rfl
  | cons b l ih => rw [List.map_cons, List.map_cons, ih, strOfNums_bytesOf]
theorem words_u8 (B : List ByteArray) : ∀ w ∈ B.map bytesOf, ∀ x ∈ w, 0 ≤ x ∧ x ≤ 255 := fun w hw y hy => by
  obtain ⟨b, _, rfl⟩ := List.mem_map.1 hw
  exact bytes_u8 b y hy
/-- With blanks ahead and a remark behind. -/
theorem blanks_split (B : List ByteArray) (a : ByteArray) (h : (joinL (B.map bytesOf)).length + a.size ≤ 300) (ha : 10 ∉ bytesOf a) (k : Nat) (hk : 400000 ≤ k) :
    words_Split.f k ((((⟨#[32, 9]⟩ : ByteArray) ++ strOfNums (joinL (B.map bytesOf))) ++ (⟨#[9, 32, 35]⟩ : ByteArray)) ++ a) = some (B, 0) := by
  have hs := strOfNums_size (joinL (B.map bytesOf))
  have hb : bytesOf ((((⟨#[32, 9]⟩ : ByteArray) ++ strOfNums (joinL (B.map bytesOf))) ++ (⟨#[9, 32, 35]⟩ : ByteArray)) ++ a) = 32 :: 9 :: (joinL (B.map bytesOf) ++ 9 :: 32 :: 35 :: bytesOf a) := by
    simp only [bytesOf_un, app_data, unU8_append]
    rw [show unU8 (strOfNums (joinL (B.map bytesOf))).data.toList = joinL (B.map bytesOf) from bytesOf_strOfNums _ (joinU8 B)]
    simp only [List.append_assoc]
    rfl
  have hsz : ((((⟨#[32, 9]⟩ : ByteArray) ++ strOfNums (joinL (B.map bytesOf))) ++ (⟨#[9, 32, 35]⟩ : ByteArray)) ++ a).size = 5 + (joinL (B.map bytesOf)).length + a.size := by
    rw [← bytesOf_length, hb]
    simp only [List.length_cons, List.length_append, bytesOf_length]
    omega
  rw [split_f _ k (by omega) hk, hb, hsz, spl_blank _ _ _ (by rfl), spl_blank _ _ _ (by rfl)]
  rw [spl_join (B.map bytesOf) _ _ (words_u8 B) (fun c r e => by rw [← (List.cons.inj e).1]; rfl) (fun m hm => by
    rw [spl_blank _ _ _ (by rfl), spl_blank _ _ _ (by rfl)]
    exact spl_rem _ ha m (by omega)) (by simp only [List.length_append, List.length_cons, bytesOf_length]; omega)]
  simp only [outW, List.nil_append, strs_back]
theorem sig_join (B : List ByteArray) (l : List UInt8) (hl : unU8 l = 9 :: (joinL (B.map bytesOf) ++ [32])) (h : (joinL (B.map bytesOf)).length ≤ 300) : sig (mkB l) = (B, 0) := by
  have hlen : l.length = (joinL (B.map bytesOf)).length + 2 := by
    rw [← unU8_length, hl]
    simp
  rw [sig_of _ (by rw [mkB_size]; omega), mkB_bytes, mkB_size, hl, spl_blank _ _ _ (by rfl)]
  rw [spl_join (B.map bytesOf) _ _ (words_u8 B) (fun c r e => by rw [← (List.cons.inj e).1]; rfl) (fun m hm => by
    rw [spl_blank _ _ _ (by rfl)]
    obtain ⟨m, rfl⟩ : ∃ q, m = q + 1 := ⟨m - 1, by omega⟩
    rfl) (by simp only [List.length_append, List.length_cons, List.length_nil]; omega)]
  simp only [outW, List.nil_append, strs_back]
theorem sig_nil : sig (mkB []) = ([], 0) := by
  rw [sig_of _ (by rw [mkB_size]; exact Nat.zero_le _)]
  rfl
theorem sig_rem (a : ByteArray) (h : a.size ≤ 300) (ha : 10 ∉ bytesOf a) : sig (mkB (35 :: a.data.toList)) = ([], 0) := by
  have hsz : (mkB (35 :: a.data.toList)).size = a.size + 1 := by rw [mkB_size, List.length_cons, data_length]
  rw [sig_of _ (by omega), mkB_bytes]
  rw [show unU8 (35 :: a.data.toList) = 35 :: bytesOf a from rfl, spl_rem _ ha _ (by omega)]
  rfl
theorem blanks_lines (B : List ByteArray) (a : ByteArray) (h : (joinL (B.map bytesOf)).length + a.size ≤ 300) (ha : 10 ∉ bytesOf a) (k : Nat) (hk : 500000 ≤ k) :
    words_Lines.f k (((((⟨#[10, 9]⟩ : ByteArray) ++ strOfNums (joinL (B.map bytesOf))) ++ (⟨#[32, 10, 35]⟩ : ByteArray)) ++ a) ++ (⟨#[10]⟩ : ByteArray)) = some (if 0 < B.length then [⟨2, B⟩] else [], 0, 0) := by
  have hs := strOfNums_size (joinL (B.map bytesOf))
  obtain ⟨J, hJ⟩ : ∃ J, J = (strOfNums (joinL (B.map bytesOf))).data.toList := ⟨_, rfl⟩
  have hJu : unU8 J = joinL (B.map bytesOf) := by rw [hJ]; exact bytesOf_strOfNums _ (joinU8 B)
  have hJl : J.length = (joinL (B.map bytesOf)).length := by rw [← hJu, unU8_length]
  have hd : (((((⟨#[10, 9]⟩ : ByteArray) ++ strOfNums (joinL (B.map bytesOf))) ++ (⟨#[32, 10, 35]⟩ : ByteArray)) ++ a) ++ (⟨#[10]⟩ : ByteArray)).data.toList = 10 :: ((9 :: (J ++ [32])) ++ 10 :: ((35 :: a.data.toList) ++ [10])) := by
    simp only [app_data, ← hJ]
    simp
  have hn1 : (10 : UInt8) ∉ (9 :: (J ++ [32])) := by
    refine mem_un _ ?_
    intro hm
    rw [show unU8 (9 :: (J ++ [32])) = 9 :: unU8 (J ++ [32]) from rfl, unU8_append, hJu] at hm
    rcases List.mem_cons.1 hm with e | hm
    · exact absurd e (by decide)
    · rcases List.mem_append.1 hm with hm | hm
      · have := join_print (B.map bytesOf) (words_u8 B) 10 hm
        omega
      · exact absurd (List.mem_singleton.1 hm) (by decide)
  have hn2 : (10 : UInt8) ∉ (35 :: a.data.toList) := by
    intro hm
    rcases List.mem_cons.1 hm with e | hm
    · exact absurd e (by decide)
    · exact mem_un _ ha hm
  have hsz : (((((⟨#[10, 9]⟩ : ByteArray) ++ strOfNums (joinL (B.map bytesOf))) ++ (⟨#[32, 10, 35]⟩ : ByteArray)) ++ a) ++ (⟨#[10]⟩ : ByteArray)).size ≤ 10000 := by
    rw [← data_length, hd]
    simp only [List.length_cons, List.length_append, List.length_nil, data_length]
    omega
  rw [lines_f _ k hsz hk, hd]
  have h1 : splitU 10 [] (10 :: ((9 :: (J ++ [32])) ++ 10 :: ((35 :: a.data.toList) ++ [10]))) = [[], 9 :: (J ++ [32]), 35 :: a.data.toList, []] := by
    simp only [splitU]
    rw [if_pos trivial, splitU_app _ _ _ hn1]
    simp only [splitU, List.nil_append]
    rw [if_pos trivial, splitU_app _ _ _ hn2]
    simp only [splitU, List.nil_append]
    rw [if_pos trivial]
  rw [h1]
  simp only [List.map_cons, List.map_nil, goL, sig_nil]
  rw [sig_join B _ (by rw [show unU8 (9 :: (J ++ [32])) = 9 :: unU8 (J ++ [32]) from rfl, unU8_append, hJu]; rfl) (by omega), sig_rem a (by omega) ha]
  simp only [List.length_nil, Nat.lt_irrefl, if_false, if_true]
  by_cases hB : 0 < B.length
  · rw [if_pos hB, if_pos hB]
    rfl
  · rw [if_neg hB, if_neg hB]
    rfl
theorem scan (B : List ByteArray) (a : ByteArray) (K : Nat) (ha : a.size ≤ 4000000) : ∀ (m i k : Nat), a.size - i ≤ m → i ≤ a.size → K + m + 1 ≤ k → (∀ x ∈ (bytesOf a).take i, x ≠ 10) →
    bastionlaw02_WordsBlanks.l0 k B a i = some true ∨ (10 ∉ bytesOf a ∧ ∃ k2, K ≤ k2 ∧ bastionlaw02_WordsBlanks.l0 k B a i = bastionlaw02_WordsBlanks.l0 (k2 + 1) B a (a.size : Int)) := by
  intro m
  induction m with
  | zero =>
    intro i k hm hi hk hx
    obtain ⟨k, rfl⟩ : ∃ k2, k = k2 + 1 := ⟨k - 1, by omega⟩
    have : i = a.size := by omega
    subst this
    refine Or.inr ⟨fun hm => ?_, k, by omega, rfl⟩
    rw [List.take_of_length_le (by rw [bytesOf_length]; exact Nat.le_refl _)] at hx
    exact hx 10 hm rfl
  | succ m ih =>
    intro i k hm hi hk hx
    obtain ⟨k, rfl⟩ : ∃ k2, k = k2 + 1 := ⟨k - 1, by omega⟩
    by_cases hlt : i < a.size
    case neg =>
      have : i = a.size := by omega
      subst this
      refine Or.inr ⟨fun hm => ?_, k, by omega, rfl⟩
      rw [List.take_of_length_le (by rw [bytesOf_length]; exact Nat.le_refl _)] at hx
      exact hx 10 hm rfl
    have hd := bytes_drop a i hlt
    obtain ⟨_, hb, _⟩ := bt_drop hd
    by_cases h10 : (a[i].toNat : Int) = 10
    · left
      simp only [bastionlaw02_WordsBlanks.l0]
      rw [if_pos (by omega), if_pos (by omega), hb, if_pos h10]
    · have e : bastionlaw02_WordsBlanks.l0 (k + 1) B a i = bastionlaw02_WordsBlanks.l0 k B a ((i + 1 : Nat) : Int) := by
        conv => lhs; simp only [bastionlaw02_WordsBlanks.l0]
        rw [if_pos (by omega), if_pos (by omega), hb, if_neg h10, wr1 i (by omega)]
      rw [e]
      refine ih (i + 1) k (by omega) (by omega) (by omega) ?_
      intro x hxm
      rw [bytes_take a i hlt] at hxm
      rcases List.mem_append.1 hxm with hxm | hxm
      · exact hx x hxm
      · rw [List.mem_singleton] at hxm
        rw [hxm]
        exact h10
theorem WordsBlanks (B : List ByteArray) (a : ByteArray) (hB : tot B ≤ 2000000) (ha : a.size ≤ 4000000) : ∃ k, bastionlaw02_WordsBlanks.f k B a = some true := by
  obtain ⟨b, hb⟩ := long_f B
  have hl := tot_len B
  have hj : ∀ k, 10000002 ≤ k → ∀ v, bastionlaw02_WordsBlanks.j0 k B a v = some true := by
    intro k hk v
    obtain ⟨k, rfl⟩ : ∃ k2, k = k2 + 1 := ⟨k - 1, by omega⟩
    simp only [bastionlaw02_WordsBlanks.j0]
    cases v with
    | true => rw [if_pos rfl, awakeAt k (by omega)]; rfl
    | false =>
      rw [if_neg (by decide)]
      rcases scan B a 6000000 ha a.size 0 k (by omega) (by omega) (by omega) (by simp) with h | ⟨h10, k2, hk2, h⟩
      · exact h
      · rw [show ((0 : Nat) : Int) = 0 from rfl] at h
        rw [h]
        simp only [bastionlaw02_WordsBlanks.l0]
        rw [if_neg (by omega), join_f B (by omega) k2 (by omega)]
        simp only [Option.bind_some]
        obtain ⟨k2, rfl⟩ : ∃ q, k2 = q + 1 := ⟨k2 - 1, by omega⟩
        unfold jOut
        by_cases h4 : (joinL (B.map bytesOf)).length > 400
        · rw [if_pos h4]
          rfl
        · rw [if_neg h4]
          dsimp only
          rw [if_pos rfl, strOfNums_size, wr _ _ (by omega)]
          simp only [bastionlaw02_WordsBlanks.j2]
          by_cases h3 : (joinL (B.map bytesOf)).length + a.size > 300
          · rw [if_pos (decide_eq_true (by omega))]
          · have hs := strOfNums_size (joinL (B.map bytesOf))
            have e1 : (⟨#[32, 9]⟩ : ByteArray).size = 2 := rfl
            have e2 : (⟨#[9, 32, 35]⟩ : ByteArray).size = 3 := rfl
            have e3 : (⟨#[10, 9]⟩ : ByteArray).size = 2 := rfl
            have e4 : (⟨#[32, 10, 35]⟩ : ByteArray).size = 3 := rfl
            rw [if_neg (by rw [decide_eq_true_iff]; omega), if_pos (by omega), if_pos (by simp only [ByteArray.size_append]; omega), if_pos (by simp only [ByteArray.size_append]; omega)]
            rw [blanks_split B a (by omega) h10 k2 (by omega)]
            simp only [Option.bind_some]
            rw [if_pos (by simp only [ByteArray.size_append]; omega), if_pos (by simp only [ByteArray.size_append]; omega), if_pos (by simp only [ByteArray.size_append]; omega)]
            rw [blanks_lines B a (by omega) h10 k2 (by omega)]
            simp only [Option.bind_some]
            by_cases h0 : B.length = 0
            · rw [if_pos (by omega)]
              simp [h0]
            · have hS := sameBig B k2 (by omega) (by omega)
              rw [if_neg (by omega)]
              simp only [hS, Option.bind_some, if_true, if_pos (show 0 < B.length by omega)]
              rw [if_pos (show ((([⟨2, B⟩] : List S40).length : Nat) : Int) = 1 from rfl), if_pos (show (0 : Int) < ((([⟨2, B⟩] : List S40).length : Nat) : Int) from Int.one_pos)]
              rw [show rd_T40 [⟨2, B⟩] 0 = ⟨2, B⟩ from rfl]
              dsimp only
              rw [if_pos rfl, hS]
              rfl
  refine ⟨10000002, ?_⟩
  unfold bastionlaw02_WordsBlanks.f
  rw [hb 10000002 (by omega)]
  simp only [Option.bind_some]
  rw [awakeAt 10000002 (by omega), hj 10000002 (by omega)]
  cases b
  · rw [if_neg (by decide)]
    exact hj 10000002 (by omega) (!true)
  · rfl
end Go.Proofs.YtckfpbkckffjjaaDoor.Pure
