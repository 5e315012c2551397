/- WordsLines, without the program: both readings of the lines are one reading of the pieces between newlines. -/
import Derived.Test.YtckfpbkckffjjaaDoorSpecB
import Derived.Test.YtckfpbkckffjjaaDoorXx8
namespace Go.Proofs.YtckfpbkckffjjaaDoor.Pure
open Go.RowKit Go.Proofs.YtckfpbkckffjjaaDoor.X Go.Proofs.YtckfpbkckffjjaaDoorW.PrintWords Go.Proofs.YtckfpbkckffjjaaDoorW.PrintLast

/-- What both splittings tell of a text. -/
noncomputable def sig (a : ByteArray) : List ByteArray × Int := if a.size ≤ 400 then outW [] (spl (a.size + 1) (bytesOf a)) else ([], 40)
theorem sig_w (a : ByteArray) (k : Nat) (hk : 400000 ≤ k) : words_Split.f k a = some (sig a) := by
  unfold sig
  by_cases h : a.size ≤ 400
  · rw [if_pos h, split_f a k h hk]
  · rw [if_neg h]; unfold words_Split.f; rw [if_pos (by omega)]
theorem sig_r (a : ByteArray) (k : Nat) (hk : 400000 ≤ k) : bastionref02_Split.f k a = some (sig a) := by
  unfold sig
  by_cases h : a.size ≤ 400
  · rw [if_pos h, splitR_f a k h hk]
  · rw [if_neg h]; unfold bastionref02_Split.f; rw [if_pos (by omega)]
theorem sig_len (a : ByteArray) : (sig a).1.length ≤ 401 := by
  unfold sig
  by_cases h : a.size ≤ 400
  · rw [if_pos h]
    cases hs : spl (a.size + 1) (bytesOf a) with
    | none => simp [outW]
    | some ws =>
      have := spl_len _ _ _ hs
      simp [outW]
      omega
  · rw [if_neg h]; simp

/-- The lines, by themselves: the pieces yet to come, how many lines stand behind us, what we have. -/
noncomputable def goL : List ByteArray → Nat → List (Int × List ByteArray) → List (Int × List ByteArray) × Int × Int
  | [], _, out => (out, 0, 0)
  | p :: P, n, out => if (sig p).2 = 0 then (if 0 < (sig p).1.length then goL P (n + 1) (out ++ [(((n + 1 : Nat) : Int), (sig p).1)]) else goL P (n + 1) out) else ([], ((n + 1 : Nat) : Int), (sig p).2)
def mk40 (e : Int × List ByteArray) : S40 := ⟨e.1, e.2⟩
def mk41 (e : Int × List ByteArray) : S41 := ⟨e.1, e.2⟩
def res40 (x : List (Int × List ByteArray) × Int × Int) : List S40 × Int × Int := (x.1.map mk40, x.2.1, x.2.2)
def res41 (x : List (Int × List ByteArray) × Int × Int) : List S41 × Int × Int := (x.1.map mk41, x.2.1, x.2.2)

theorem goL_ok : ∀ (P : List ByteArray) (n : Nat) (out : List (Int × List ByteArray)), (∀ e ∈ out, e.2.length ≤ 401) → (∀ e ∈ (goL P n out).1, e.2.length ≤ 401) ∧ (goL P n out).1.length ≤ out.length + P.length := by
  intro P
  induction P with
  | nil => intro n out h; exact ⟨h, by simp [goL]⟩
  | cons p P ih =>
    intro n out h
    simp only [goL]
    by_cases h0 : (sig p).2 = 0
    · rw [if_pos h0]
      by_cases h1 : 0 < (sig p).1.length
      · rw [if_pos h1]
        obtain ⟨a, b⟩ := ih (n + 1) (out ++ [(((n + 1 : Nat) : Int), (sig p).1)]) (fun e he => by
          rcases List.mem_append.1 he with he | he
          · exact h e he
          · rw [List.mem_singleton] at he; subst he; exact sig_len p)
        exact ⟨a, by rw [List.length_append, List.length_singleton] at b; rw [List.length_cons]; omega⟩
      · rw [if_neg h1]
        obtain ⟨a, b⟩ := ih (n + 1) out h
        exact ⟨a, by rw [List.length_cons]; omega⟩
    · rw [if_neg h0]
      exact ⟨fun e he => by simp at he, by simp⟩

theorem rdOf_at (T : List ByteArray) (i : Nat) (p : ByteArray) (P : List ByteArray) (h : T.drop i = p :: P) : i < T.length ∧ rdOf ByteArray.empty T i = p ∧ T.drop (i + 1) = P := by
  have hlt : i < T.length := by
    by_cases hh : i < T.length
    · exact hh
    · rw [List.drop_eq_nil_of_le (by omega)] at h; cases h
  rw [List.drop_eq_getElem_cons hlt] at h
  have h1 := (List.cons.inj h).1
  refine ⟨hlt, ?_, (List.cons.inj h).2⟩
  unfold rdOf
  rw [Int.toNat_natCast, List.getD_eq_getElem?_getD, List.getElem?_eq_getElem hlt, Option.getD_some, h1]
theorem linesA (T : List ByteArray) (hT : T.length ≤ 1000000) : ∀ (P : List ByteArray) (i k : Nat) (out : List (Int × List ByteArray)), T.drop i = P → i ≤ T.length → out.length ≤ i → 400000 + P.length + 1 ≤ k →
    words_Lines.l0 k (out.map mk40) T (T.length : Int) i = some (res40 (goL P i out)) := by
  intro P
  induction P with
  | nil =>
    intro i k out h hi ho hk
    obtain ⟨k, rfl⟩ : ∃ k2, k = k2 + 1 := ⟨k - 1, by omega⟩
    have : T.length ≤ i := by
      have := congrArg List.length h
      rw [List.length_drop, List.length_nil] at this
      omega
    simp only [words_Lines.l0]
    rw [if_neg (by omega)]
    rfl
  | cons p P ih =>
    intro i k out h hi ho hk
    obtain ⟨k, rfl⟩ : ∃ k2, k = k2 + 1 := ⟨k - 1, by omega⟩
    rw [List.length_cons] at hk
    obtain ⟨hlt, hr, hd⟩ := rdOf_at T i p P h
    simp only [words_Lines.l0]
    rw [if_pos (by omega), if_pos (by omega), if_pos (by omega), hr, sig_w p k (by omega), wr1 i (by omega)]
    simp only [Option.bind_some, goL]
    by_cases h0 : (sig p).2 = 0
    · rw [if_pos h0, if_pos h0]
      by_cases h1 : 0 < (sig p).1.length
      · rw [if_pos (by omega), if_pos (by rw [List.length_map]; omega), if_pos h1]
        rw [← ih (i + 1) k (out ++ [(((i + 1 : Nat) : Int), (sig p).1)]) hd (by omega) (by rw [List.length_append, List.length_singleton]; omega) (by omega), List.map_append]
        rfl
      · rw [if_neg (by omega), if_neg h1]
        exact ih (i + 1) k out hd (by omega) (by omega) (by omega)
    · rw [if_neg h0, if_neg h0]
      rfl

def mkB (l : List UInt8) : ByteArray := ⟨l.toArray⟩
theorem ext_mk (x : ByteArray) (s j : Nat) : x.extract s j = mkB ((x.data.toList.drop s).take (j - s)) := by
  apply ByteArray.ext
  apply Array.ext'
  simp only [mkB, ByteArray.data_extract, Array.toList_extract, List.extract_eq_take_drop]
theorem linesB (x : ByteArray) (hx : x.size ≤ 1000000) : ∀ (m j s n k : Nat) (out : List (Int × List ByteArray)), x.size + 1 - j ≤ m → j ≤ x.size + 1 → s ≤ j → out.length ≤ n → n ≤ j → 400000 + 2 * m + 2 ≤ k →
    bastionref02_Lines.l0 k x (out.map mk41) s ((n + 1 : Nat) : Int) j = some (res41 (goL (if j ≤ x.size then (splitU 10 ((x.data.toList.drop s).take (j - s)) (x.data.toList.drop j)).map mkB else []) n out)) := by
  intro m
  induction m with
  | zero =>
    intro j s n k out hm hj hs ho hn hk
    obtain ⟨k, rfl⟩ : ∃ k2, k = k2 + 1 := ⟨k - 1, by omega⟩
    simp only [bastionref02_Lines.l0]
    rw [if_neg (by omega), if_neg (by omega)]
    rfl
  | succ m ih =>
    intro j s n k out hm hj hs ho hn hk
    obtain ⟨k, rfl⟩ : ∃ k2, k = k2 + 1 := ⟨k - 1, by omega⟩
    simp only [bastionref02_Lines.l0]
    by_cases hje : j ≤ x.size
    case neg =>
      rw [if_neg (by omega), if_neg hje]
      rfl
    rw [if_pos (by omega), if_pos hje]
    -- what the cut at j tells
    have hcut : ∀ (k2 : Nat) (P : List ByteArray), 400000 + 2 * m + 2 ≤ k2 →
        (P = if j + 1 ≤ x.size then (splitU 10 ((x.data.toList.drop (j + 1)).take (j + 1 - (j + 1))) (x.data.toList.drop (j + 1))).map mkB else []) →
        bastionref02_Lines.j1 (k2 + 1) x (out.map mk41) s ((n + 1 : Nat) : Int) j false = some (res41 (goL (mkB ((x.data.toList.drop s).take (j - s)) :: P) n out)) := by
      intro k2 P hk2 hP
      simp only [bastionref02_Lines.j1]
      rw [if_neg (by decide), if_pos (by omega), if_pos (by omega), if_pos (by omega), Int.toNat_natCast, Int.toNat_natCast, ext_mk, sig_r _ k2 (by omega), wr1 j (by omega), wr1 (n + 1) (by omega)]
      simp only [Option.bind_some, goL]
      by_cases h0 : (sig (mkB ((x.data.toList.drop s).take (j - s)))).2 = 0
      · rw [if_pos h0, if_pos h0]
        by_cases h1 : 0 < (sig (mkB ((x.data.toList.drop s).take (j - s)))).1.length
        · rw [if_pos (by omega), if_pos (by rw [List.length_map]; omega), if_pos h1, hP]
          rw [← ih (j + 1) (j + 1) (n + 1) k2 (out ++ [(((n + 1 : Nat) : Int), (sig (mkB ((x.data.toList.drop s).take (j - s)))).1)]) (by omega) (by omega) (by omega) (by rw [List.length_append, List.length_singleton]; omega) (by omega) (by omega), List.map_append]
          rfl
        · rw [if_neg (by omega), if_neg h1, hP]
          exact ih (j + 1) (j + 1) (n + 1) k2 out (by omega) (by omega) (by omega) (by omega) (by omega) (by omega)
      · rw [if_neg h0, if_neg h0]
        rfl
    obtain ⟨k, rfl⟩ : ∃ k2, k = k2 + 1 := ⟨k - 1, by omega⟩
    by_cases hlt : j < x.size
    case neg =>
      rw [if_neg (by omega), hcut k [] (by omega) (by rw [if_neg (by omega)])]
      have : x.data.toList.drop j = [] := List.drop_eq_nil_of_le (by rw [data_length]; omega)
      rw [this]
      rfl
    rw [if_pos (by omega), if_pos (by omega)]
    have hl : j < x.data.toList.length := by rw [data_length]; exact hlt
    have hd := List.drop_eq_getElem_cons hl
    have hb : bt x j = ((x.data.toList[j]).toNat : Int) := by
      unfold bt
      rw [Int.toNat_natCast, dif_pos hlt]
      rfl
    rw [hb, hd]
    simp only [splitU]
    by_cases h10 : x.data.toList[j] = 10
    · rw [if_pos h10, h10, show ((((10 : UInt8).toNat : Nat) : Int) != 10) = false from rfl]
      rw [hcut k _ (by omega) rfl, if_pos (by omega), Nat.sub_self, List.take_zero, List.map_cons]
    · rw [if_neg h10]
      have hne : (((x.data.toList[j]).toNat : Int) != 10) = true := by
        rw [bne_iff_ne]
        intro e
        apply h10
        apply UInt8.toNat_inj.1
        show (x.data.toList[j]).toNat = 10
        omega
      rw [hne]
      simp only [bastionref02_Lines.j1]
      rw [if_pos trivial, wr1 j (by omega), ih (j + 1) s n k out (by omega) (by omega) (by omega) ho (by omega) (by omega), if_pos (by omega)]
      have : (x.data.toList.drop s).take (j + 1 - s) = (x.data.toList.drop s).take (j - s) ++ [x.data.toList[j]] := by
        rw [show j + 1 - s = (j - s) + 1 by omega, List.take_succ_eq_append_getElem (by rw [List.length_drop]; omega)]
        congr 2
        rw [List.getElem_drop]
        congr 1
        omega
      rw [this]

theorem sameLines (R : List (Int × List ByteArray)) (hR : R.length ≤ 1000000) (h : ∀ e ∈ R, e.2.length ≤ 401) : ∀ (m i k : Nat), R.length - i ≤ m → i ≤ R.length → 400000 + m + 1 ≤ k → bastionlaw02_WordsLines.l0 k (R.map mk40) (R.map mk41) i = some true := by
  intro m
  induction m with
  | zero =>
    intro i k hm hi hk
    obtain ⟨k, rfl⟩ : ∃ k2, k = k2 + 1 := ⟨k - 1, by omega⟩
    simp only [bastionlaw02_WordsLines.l0, List.length_map]
    rw [if_neg (by omega), awakeAt k (by omega)]
    rfl
  | succ m ih =>
    intro i k hm hi hk
    obtain ⟨k, rfl⟩ : ∃ k2, k = k2 + 1 := ⟨k - 1, by omega⟩
    simp only [bastionlaw02_WordsLines.l0, List.length_map]
    by_cases hlt : i < R.length
    case neg =>
      rw [if_neg (by omega), awakeAt k (by omega)]
      rfl
    have e1 : rd_T40 (R.map mk40) i = mk40 R[i] := by
      unfold rd_T40
      rw [Int.toNat_natCast, List.getD_eq_getElem?_getD, List.getElem?_map, List.getElem?_eq_getElem hlt]
      rfl
    have e2 : rd_T41 (R.map mk41) i = mk41 R[i] := by
      unfold rd_T41
      rw [Int.toNat_natCast, List.getD_eq_getElem?_getD, List.getElem?_map, List.getElem?_eq_getElem hlt]
      rfl
    rw [if_pos (by omega), if_pos (by omega), if_pos (by omega), e1, e2, if_pos (show (mk40 R[i]).f0 = (mk41 R[i]).f0 from rfl)]
    rw [show (mk40 R[i]).f1 = R[i].2 from rfl, show (mk41 R[i]).f1 = R[i].2 from rfl]
    have hle := h R[i] (List.getElem_mem hlt)
    rw [sameAll R[i].2 k (by omega) (by omega)]
    simp only [Option.bind_some]
    rw [if_pos trivial, wr1 i (by omega)]
    exact ih (i + 1) k (by omega) (by omega) (by omega)

theorem WordsLines : bastionlaw02_WordsLines.Pure := by
  intro a _
  by_cases hbig : (a.size : Int) > 10000
  · refine ⟨100, ?_⟩
    unfold bastionlaw02_WordsLines.f
    rw [if_pos hbig, awakeAt 100 (Nat.le_refl _)]
    rfl
  have hlen : ((splitU 10 [] a.data.toList).map mkB).length ≤ 10001 := by
    rw [List.length_map, splitU_length]
    have := List.count_le_length (a := (10 : UInt8)) (l := a.data.toList)
    rw [data_length] at this
    omega
  have hA : ∀ k, 500000 ≤ k → words_Lines.f k a = some (res40 (goL ((splitU 10 [] a.data.toList).map mkB) 0 [])) := by
    intro k hk
    unfold words_Lines.f
    have : strings_Split.f a (⟨#[10]⟩ : ByteArray) = some ((splitU 10 [] a.data.toList).map mkB) := by
      unfold strings_Split.f
      rw [if_pos ⟨rfl, by omega⟩]
      rfl
    rw [this]
    simp only [Option.bind_some]
    exact linesA _ (by omega) _ 0 k [] (List.drop_zero ..) (by omega) (by simp) (by omega)
  have hB : ∀ k, 500000 ≤ k → bastionref02_Lines.f k a = some (res41 (goL ((splitU 10 [] a.data.toList).map mkB) 0 [])) := by
    intro k hk
    unfold bastionref02_Lines.f
    have := linesB a (by omega) (a.size + 1) 0 0 0 k [] (by omega) (by omega) (by omega) (by simp) (by omega) (by omega)
    rw [if_pos (by omega), Nat.sub_self, List.take_zero, List.drop_zero] at this
    exact this
  obtain ⟨hok, hRl⟩ := goL_ok ((splitU 10 [] a.data.toList).map mkB) 0 [] (fun e he => by simp at he)
  refine ⟨1000000, ?_⟩
  unfold bastionlaw02_WordsLines.f
  rw [if_neg hbig, hA 1000000 (by omega), hB 1000000 (by omega)]
  simp only [Option.bind_some]
  generalize goL ((splitU 10 [] a.data.toList).map mkB) 0 [] = g at hok hRl
  rw [if_pos (show (res40 g).2.2 = (res41 g).2.2 from rfl), if_pos (show (res40 g).2.1 = (res41 g).2.1 from rfl)]
  have hl : (((res40 g).1.length : Int) != ((res41 g).1.length : Int)) = false := by
    simp [res40, res41]
  rw [hl]
  show bastionlaw02_WordsLines.j0 (999999 + 1) _ _ false = _
  simp only [bastionlaw02_WordsLines.j0]
  rw [if_neg (by decide)]
  simp only [List.length_nil] at hRl
  exact sameLines g.1 (by omega) hok g.1.length 0 999999 (by omega) (by omega) (by omega)
end Go.Proofs.YtckfpbkckffjjaaDoor.Pure
