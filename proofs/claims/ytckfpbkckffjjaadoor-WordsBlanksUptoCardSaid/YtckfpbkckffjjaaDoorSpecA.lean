/- words.Split and the reference's Split both compute one plain splitting of a list of bytes. -/
import Derived.Test.YtckfpbkckffjjaaDoorXx6
namespace Go.Proofs.YtckfpbkckffjjaaDoor.Pure
open Go.RowKit Go.Proofs.YtckfpbkckffjjaaDoor.X Go.Proofs.YtckfpbkckffjjaaDoorW.PrintWords Go.Proofs.YtckfpbkckffjjaaDoorW.PrintLast

theorem wr (n d : Nat) (h : n + d < 4611686018427387904) : wrap64 ((n : Int) + (d : Int)) = ((n + d : Nat) : Int) := by
  unfold wrap64
  omega
theorem wr1 (n : Nat) (h : n < 4611686018427387903) : wrap64 ((n : Int) + 1) = ((n + 1 : Nat) : Int) := wr n 1 (by omega)

def blankI (c : Int) : Bool := c == 32 || c == 9
def nbI (c : Int) : Bool := !blankI c
theorem blank_iff (c : Int) : blankI c = true ↔ c = 32 ∨ c = 9 := by simp [blankI]

/-- The splitting, by itself. -/
def spl : Nat → List Int → Option (List (List Int))
  | 0, _ => none
  | n + 1, l =>
    match l.dropWhile blankI with
    | [] => some []
    | c :: t =>
      if c = 35 then (if 10 ∈ t then none else some [])
      else if c = 34 then
        match quotedL [] t with
        | none => none
        | some p => if p.2 = [] ∨ blankI (p.2.headD 0) = true then (spl n p.2).map (p.1 :: ·) else none
      else if ((c :: t).takeWhile nbI).all plainI = true then (spl n ((c :: t).dropWhile nbI)).map ((c :: t).takeWhile nbI :: ·) else none
def outW (xs : List ByteArray) : Option (List (List Int)) → List ByteArray × Int
  | none => ([], 4)
  | some ws => (xs ++ ws.map strOfNums, 0)
theorem outW_map (xs : List ByteArray) (w : List Int) (o : Option (List (List Int))) : outW xs (o.map (w :: ·)) = outW (xs ++ [strOfNums w]) o := by
  cases o with
  | none => rfl
  | some ws => simp [outW]

theorem bt_drop {s : ByteArray} {i : Nat} {c : Int} {r : List Int} (h : (bytesOf s).drop i = c :: r) : i < s.size ∧ bt s i = c ∧ (bytesOf s).drop (i + 1) = r := by
  have hlt : i < (bytesOf s).length := by
    by_cases hh : i < (bytesOf s).length
    · exact hh
    · rw [List.drop_eq_nil_of_le (by omega)] at h; cases h
  have hs : i < s.size := by rw [bytesOf_length] at hlt; exact hlt
  refine ⟨hs, ?_, ?_⟩
  · rw [bytes_drop s i hs] at h
    have := (List.cons.inj h).1
    rw [← this]
    simp [bt, hs]
  · rw [bytes_drop s i hs] at h
    exact (List.cons.inj h).2
theorem bt_zero {s : ByteArray} {c : Int} {r : List Int} (h : bytesOf s = c :: r) : 0 < s.size ∧ bt s 0 = c ∧ (bytesOf s).drop 1 = r := bt_drop (i := 0) (by rw [List.drop_zero]; exact h)
theorem toList_nil {s : ByteArray} : s.toList = [] ↔ bytesOf s = [] := by
  rw [Lib.toList_data]
  simp [bytesOf]
theorem bytes_u8 (s : ByteArray) : ∀ x ∈ bytesOf s, 0 ≤ x ∧ x ≤ 255 := by
  intro x hx
  simp only [bytesOf, List.mem_map] at hx
  obtain ⟨b, _, rfl⟩ := hx
  exact ⟨u8_lo b, u8_hi b⟩
theorem bytesOf_strOfNums (l : List Int) (h : ∀ x ∈ l, 0 ≤ x ∧ x ≤ 255) : bytesOf (strOfNums l) = l := by
  unfold strOfNums bytesOf
  simp only [List.map_map]
  have : ∀ m : List Int, (∀ x ∈ m, 0 ≤ x ∧ x ≤ 255) → m.map ((fun b : UInt8 => (b.toNat : Int)) ∘ fun n : Int => UInt8.ofNat n.toNat) = m := by
    intro m
    induction m with
    | nil => intro _; rfl
    | cons a r ih =>
      intro hm
      have h1 := hm a (List.mem_cons_self ..)
      have h2 := ih (fun x hx => hm x (List.mem_cons_of_mem _ hx))
      rw [List.map_cons, h2]
      congr 1
      show ((UInt8.ofNat a.toNat).toNat : Int) = a
      rw [UInt8.toNat_ofNat_of_lt' (by show a.toNat < 256; omega)]
      omega
  exact this l h
theorem ext_drop (s : ByteArray) (i j : Nat) : s.extract i j = strOfNums (((bytesOf s).drop i).take (j - i)) := by
  have h : s.extract i j = strOfNums (bytesOf (s.extract i j)) := (strOfNums_bytesOf _).symm
  rw [h]
  congr 1
  simp only [bytesOf, ByteArray.data_extract, Array.toList_extract, List.extract_eq_take_drop, List.map_drop, List.map_take]
theorem take_while_take {p : Int → Bool} (l : List Int) : l.take (l.takeWhile p).length = l.takeWhile p := by
  induction l with
  | nil => rfl
  | cons a r ih => by_cases h : p a = true <;> simp [h, ih]
theorem drop_while_drop {p : Int → Bool} (l : List Int) : l.drop (l.takeWhile p).length = l.dropWhile p := by
  induction l with
  | nil => rfl
  | cons a r ih => by_cases h : p a = true <;> simp [h, ih]
theorem plain_f (c : Int) : words_plain.f c = some (plainI c) := by
  unfold words_plain.f plainI
  by_cases h1 : c ≥ 33
  · by_cases h2 : c ≤ 126
    · rw [if_pos h1, if_pos h2, decide_eq_true (show 33 ≤ c from h1), decide_eq_true h2]
      by_cases h3 : c = 34 <;> simp [h3]
    · rw [if_pos h1, if_neg h2, decide_eq_false h2, Bool.false_and, Bool.and_false]
  · rw [if_neg h1, decide_eq_false (show ¬ 33 ≤ c from h1), Bool.false_and]
theorem trim_f (s : ByteArray) : ∃ t, strings_TrimLeft.f s (⟨#[32, 9]⟩ : ByteArray) = some t ∧ bytesOf t = (bytesOf s).dropWhile blankI := by
  refine ⟨_, by unfold strings_TrimLeft.f; exact if_pos ⟨by decide, by decide⟩, ?_⟩
  show unU8 (Lib.trimLeftS s.data.toList [32, 9]) = (unU8 s.data.toList).dropWhile blankI
  unfold Lib.trimLeftS unU8
  induction s.data.toList with
  | nil => rfl
  | cons b r ih =>
    have hb : ∀ n : Fin 256, ([32, 9] : List UInt8).contains (UInt8.ofNat n.val) = blankI (n.val : Int) := by decide +kernel
    have h := hb ⟨b.toNat, b.toNat_lt⟩
    simp only [UInt8.ofNat_toNat] at h
    rw [List.map_cons, List.dropWhile_cons, List.dropWhile_cons, ← h]
    by_cases hc : ([32, 9] : List UInt8).contains b = true
    · rw [if_pos hc, if_pos hc]; exact ih
    · rw [if_neg hc, if_neg hc, List.map_cons]
theorem contains_f (s : ByteArray) : strings_Contains.f s (⟨#[10]⟩ : ByteArray) = some (decide (10 ∈ bytesOf s)) := by
  unfold strings_Contains.f
  rw [if_pos (by decide)]
  congr 1
  have h := Lib.contains_iff_indexByte s.data.toList 10
  show decide (0 ≤ Lib.indexByte s.data.toList 10) = _
  rw [← h]
  show s.data.toList.contains 10 = decide (10 ∈ unU8 s.data.toList)
  unfold unU8
  induction s.data.toList with
  | nil => rfl
  | cons b r ih =>
    have hb : ∀ n : Fin 256, ((10 : UInt8) == UInt8.ofNat n.val) = ((10 : Int) == (n.val : Int)) := by decide +kernel
    have h := hb ⟨b.toNat, b.toNat_lt⟩
    simp only [UInt8.ofNat_toNat] at h
    rw [List.contains_cons, ih, h, List.map_cons]
    by_cases hc : (10 : Int) = (b.toNat : Int)
    · simp [hc]
    · simp [hc]
theorem quoted_drop : ∀ (n : Nat) (acc s w r : List Int), s.length ≤ n → quotedL acc s = some (w, r) → ∃ m, 0 < m ∧ m ≤ s.length ∧ r = s.drop m := by
  intro n
  induction n with
  | zero => intro acc s w r hn h; rw [List.eq_nil_of_length_eq_zero (Nat.le_zero.1 hn), quotedL_nil] at h; cases h
  | succ n ih =>
    intro acc s w r hn h
    cases s with
    | nil => rw [quotedL_nil] at h; cases h
    | cons c s =>
      rw [List.length_cons] at hn
      by_cases h1 : c = 34
      · rw [quotedL_end acc s h1] at h; cases h; exact ⟨1, by omega, by simp, rfl⟩
      · by_cases h2 : c = 92
        · cases s with
          | nil => rw [quotedL_cut acc h2] at h; cases h
          | cons e s =>
            rw [List.length_cons] at hn
            by_cases h3 : e = 120
            · match s with
              | [] => rw [quotedL_x0 acc [] h2 h3 (by simp)] at h; cases h
              | [_] => rw [quotedL_x0 acc _ h2 h3 (by simp)] at h; cases h
              | a :: b :: s =>
                simp only [List.length_cons] at hn
                by_cases h4 : hexI a < 0 ∨ hexI b < 0
                · rw [quotedL_x1 acc s h2 h3 h4] at h; cases h
                · rw [quotedL_x acc s h2 h3 h4] at h
                  obtain ⟨m, hm, hl, e⟩ := ih _ s w r (by omega) h
                  exact ⟨m + 4, by omega, by simp only [List.length_cons]; omega, e⟩
            · rw [quotedL_mark acc s h2 h3] at h
              cases hk : markI e with
              | none => rw [hk] at h; cases h
              | some t =>
                rw [hk] at h
                obtain ⟨m, hm, hl, e⟩ := ih _ s w r (by omega) h
                exact ⟨m + 2, by omega, by simp only [List.length_cons]; omega, e⟩
        · by_cases h3 : c < 32 ∨ c > 126
          · rw [quotedL_bad acc s h1 h2 h3] at h; cases h
          · rw [quotedL_plain acc s h1 h2 h3] at h
            obtain ⟨m, hm, hl, e⟩ := ih _ s w r (by omega) h
            exact ⟨m + 1, by omega, by simp only [List.length_cons]; omega, e⟩
theorem takeWhile_drop {p : Int → Bool} {c : Int} {r l : List Int} (h : l = c :: r) (hp : p c = true) : l.takeWhile p = c :: r.takeWhile p := by rw [h, List.takeWhile_cons, if_pos hp]
theorem takeWhile_stop {p : Int → Bool} {c : Int} {r l : List Int} (h : l = c :: r) (hp : p c = false) : l.takeWhile p = [] := by rw [h, List.takeWhile_cons, if_neg (by rw [hp]; decide)]

/-- words.Split's loop over a bare word. -/
theorem wordA (K : Nat) (xs : List ByteArray) (t : ByteArray) (ht : t.size ≤ 1000000) (hx : xs.length < 8796093022208) : ∀ (m i k : Nat), t.size - i ≤ m → i ≤ t.size → K + 2 * m + 2 ≤ k → ∃ k', K ≤ k' ∧
    words_Split.l1 k xs t i = if (((bytesOf t).drop i).takeWhile nbI).all plainI = true then words_Split.l0 k' (xs ++ [t.extract 0 (i + (((bytesOf t).drop i).takeWhile nbI).length)]) (t.extract (i + (((bytesOf t).drop i).takeWhile nbI).length) t.size) else some ([], 4) := by
  intro m
  induction m with
  | zero =>
    intro i k hm hi hk
    obtain ⟨k, rfl⟩ : ∃ k2, k = k2 + 2 := ⟨k - 2, by omega⟩
    have hn : (bytesOf t).drop i = [] := bytes_end t i (by omega)
    refine ⟨k, by omega, ?_⟩
    rw [hn]
    simp only [words_Split.l1, words_Split.j2]
    rw [if_neg (by omega), if_neg (by decide), if_pos (by omega), if_pos (by omega), if_pos hx]
    simp
  | succ m ih =>
    intro i k hm hi hk
    obtain ⟨k, rfl⟩ : ∃ k2, k = k2 + 2 := ⟨k - 2, by omega⟩
    by_cases hlt : i < t.size
    · have hd := bytes_drop t i hlt
      obtain ⟨c, hc⟩ : ∃ c : Int, (t[i].toNat : Int) = c := ⟨_, rfl⟩
      rw [hc] at hd
      obtain ⟨_, hb, _⟩ := bt_drop hd
      by_cases hnb : nbI c = true
      · have hne : c ≠ 32 ∧ c ≠ 9 := by
          constructor <;> (intro e; subst e; exact absurd hnb (by decide))
        have htw := takeWhile_drop hd hnb
        by_cases hp : plainI c = true
        · obtain ⟨k', hk', e⟩ := ih (i + 1) k (by omega) (by omega) (by omega)
          refine ⟨k', hk', ?_⟩
          simp only [words_Split.l1, words_Split.j2]
          rw [if_pos (by omega), if_pos (by omega), hb, if_neg hne.1, show (c != 9) = true from bne_iff_ne.2 hne.2, if_pos rfl, if_pos (by omega), if_pos (by omega), plain_f]
          show (if plainI c = true then _ else _) = _
          rw [if_pos hp, wr1 i (by omega), e, htw]
          simp only [List.all_cons, hp, Bool.true_and, List.length_cons]
          rw [show i + 1 + (((bytesOf t).drop (i + 1)).takeWhile nbI).length = i + ((((bytesOf t).drop (i + 1)).takeWhile nbI).length + 1) by omega]
        · refine ⟨K, Nat.le_refl _, ?_⟩
          simp only [words_Split.l1, words_Split.j2]
          rw [if_pos (by omega), if_pos (by omega), hb, if_neg hne.1, show (c != 9) = true from bne_iff_ne.2 hne.2, if_pos rfl, if_pos (by omega), if_pos (by omega), plain_f]
          show (if plainI c = true then _ else _) = _
          rw [if_neg hp, htw]
          simp only [List.all_cons, Bool.eq_false_iff.2 hp, Bool.false_and]
          rfl
      · have hbl : c = 32 ∨ c = 9 := (blank_iff c).1 (by unfold nbI at hnb; simpa using hnb)
        have htw := takeWhile_stop hd (Bool.eq_false_iff.2 hnb)
        refine ⟨k, by omega, ?_⟩
        rw [htw]
        simp only [words_Split.l1, words_Split.j2]
        rw [if_pos (by omega), if_pos (by omega), hb]
        rcases hbl with rfl | rfl
        · rw [if_pos rfl, if_neg (by decide), if_pos (by omega), if_pos (by omega), if_pos hx]
          simp
        · rw [if_neg (by decide), if_neg (by decide), if_pos (by omega), if_pos (by omega), if_pos hx]
          simp
    · have hn : (bytesOf t).drop i = [] := bytes_end t i (by omega)
      refine ⟨k, by omega, ?_⟩
      rw [hn]
      simp only [words_Split.l1, words_Split.j2]
      rw [if_neg (by omega), if_neg (by decide), if_pos (by omega), if_pos (by omega), if_pos hx]
      simp

/-- words.Split's loop. -/
theorem splitA : ∀ (n : Nat) (L : List Int) (rest : ByteArray) (xs : List ByteArray) (k : Nat), bytesOf rest = L → L.length < n → xs.length + L.length ≤ 1000000 → 2 * n * n + 4 * n + 4 ≤ k → words_Split.l0 k xs rest = some (outW xs (spl n L)) := by
  intro n
  induction n with
  | zero => intro L rest xs k _ h; omega
  | succ n ih =>
    intro L rest xs k hL hn hxs hk
    obtain ⟨k, rfl⟩ : ∃ k2, k = k2 + 1 := ⟨k - 1, by omega⟩
    have hk2 : 2 * n * n + 4 * n + 4 + 4 * n + 4 ≤ k := by
      have : 2 * (n + 1) * (n + 1) = 2 * n * n + 4 * n + 2 := by rw [Nat.mul_assoc, Nat.mul_assoc]; simp only [Nat.add_mul, Nat.mul_add]; omega
      omega
    obtain ⟨t, ht, hbt⟩ := trim_f rest
    rw [hL] at hbt
    have hlen : t.size ≤ L.length := by
      rw [← bytesOf_length, hbt]
      exact (List.dropWhile_sublist _).length_le
    simp only [words_Split.l0, ht, Option.bind_some, spl]
    cases hd : L.dropWhile blankI with
    | nil =>
      rw [hd] at hbt
      rw [if_pos (toList_nil.2 hbt)]
      simp [outW]
    | cons c r =>
      rw [hd] at hbt
      obtain ⟨hs, hb, hr⟩ := bt_zero hbt
      have hsz : t.size = r.length + 1 := by rw [← bytesOf_length, hbt, List.length_cons]
      rw [if_neg (by rw [toList_nil, hbt]; simp), if_pos (by omega), hb]
      simp only
      by_cases h35 : c = 35
      · rw [if_pos h35, if_pos h35, contains_f, hbt]
        subst h35
        by_cases h10 : 10 ∈ r
        · rw [if_pos h10]
          simp [h10, outW]
        · rw [if_neg h10]
          simp [h10, outW]
      · rw [if_neg h35, if_neg h35]
        by_cases h34 : c = 34
        · rw [if_pos h34, if_pos h34, if_pos (by omega)]
          have hq : words_quoted.f (t.extract 1 t.size) = some (quotedR (quotedL [] r)) := by
            unfold words_quoted.f
            rw [bytesOf_tail, hr, if_pos (by rw [ByteArray.size_extract]; omega)]
          rw [hq]
          simp only [Option.bind_some]
          cases hqq : quotedL [] r with
          | none => simp [quotedR, outW]
          | some p =>
            obtain ⟨w, q⟩ := p
            obtain ⟨m, hm0, hm1, hm⟩ := quoted_drop r.length [] r w q (Nat.le_refl _) hqq
            have hqr : bytesOf (strOfNums q) = q := by
              refine bytesOf_strOfNums q (fun x hx => ?_)
              have : x ∈ bytesOf t := by
                rw [hbt]
                refine List.mem_cons_of_mem _ ?_
                rw [hm] at hx
                exact List.mem_of_mem_drop hx
              exact bytes_u8 t x this
            have hql : q.length ≤ r.length - 1 := by rw [hm, List.length_drop]; omega
            have hrec : ∀ k2, 2 * n * n + 4 * n + 4 ≤ k2 → words_Split.l0 k2 (xs ++ [strOfNums w]) (strOfNums q) = some (outW (xs ++ [strOfNums w]) (spl n q)) := fun k2 hk2 => ih q (strOfNums q) (xs ++ [strOfNums w]) k2 hqr (by omega) (by rw [List.length_append, List.length_singleton]; omega) hk2
            rw [show quotedR (some (w, q)) = (strOfNums w, strOfNums q, true) from rfl]
            dsimp only
            rw [if_pos rfl]
            cases q with
            | nil =>
              rw [if_pos (toList_nil.2 hqr), if_pos (by omega), hrec k (by omega), if_pos (Or.inl rfl), outW_map]
            | cons d q =>
              obtain ⟨hs2, hb2, _⟩ := bt_zero hqr
              rw [if_neg (by rw [toList_nil, hqr]; simp), if_pos (by omega), hb2]
              by_cases h32 : d = 32
              · rw [if_pos h32, if_pos (by omega), hrec k (by omega), if_pos (Or.inr (by rw [h32]; rfl)), outW_map]
              · rw [if_neg h32]
                by_cases h9 : d = 9
                · rw [if_pos h9, if_pos (by omega), hrec k (by omega), if_pos (Or.inr (by rw [h9]; rfl)), outW_map]
                · rw [if_neg h9, if_neg (by simp [blankI, h32, h9])]
                  rfl
        · rw [if_neg h34, if_neg h34]
          obtain ⟨k', hk', e⟩ := wordA (2 * n * n + 4 * n + 4) xs t (by omega) (by omega) t.size 0 k (by omega) (by omega) (by omega)
          rw [show ((0 : Nat) : Int) = 0 from rfl] at e
          rw [e, List.drop_zero, hbt]
          have hnb : nbI c = true := by
            have : blankI c = false := by
              have h := List.head?_dropWhile_not blankI L
              rw [hd] at h
              simpa using h
            unfold nbI; rw [this]; rfl
          by_cases hall : ((c :: r).takeWhile nbI).all plainI = true
          · rw [if_pos hall, if_pos hall, Nat.zero_add, outW_map]
            have hw1 : t.extract 0 ((c :: r).takeWhile nbI).length = strOfNums ((c :: r).takeWhile nbI) := by
              rw [ext_drop, List.drop_zero, hbt, Nat.sub_zero, take_while_take]
            have hw2 : bytesOf (t.extract ((c :: r).takeWhile nbI).length t.size) = (c :: r).dropWhile nbI := by
              rw [bytesOf_tail, hbt, drop_while_drop]
            have hle : ((c :: r).dropWhile nbI).length ≤ r.length := by
              rw [List.dropWhile_cons, if_pos hnb]
              exact (List.dropWhile_sublist _).length_le
            rw [hw1, ih _ _ (xs ++ [strOfNums ((c :: r).takeWhile nbI)]) k' hw2 (by omega) (by rw [List.length_append, List.length_singleton]; omega) hk']
          · rw [if_neg hall, if_neg hall]
            rfl
theorem split_f (a : ByteArray) (k : Nat) (h : a.size ≤ 400) (hk : 400000 ≤ k) : words_Split.f k a = some (outW [] (spl (a.size + 1) (bytesOf a))) := by
  unfold words_Split.f
  rw [if_neg (by omega)]
  refine splitA (a.size + 1) (bytesOf a) a [] k rfl (by rw [bytesOf_length]; omega) (by rw [bytesOf_length]; simp; omega) ?_
  have : 2 * (a.size + 1) * (a.size + 1) ≤ 2 * 401 * 401 := Nat.mul_le_mul (Nat.mul_le_mul (Nat.le_refl _) (by omega)) (by omega)
  omega
end Go.Proofs.YtckfpbkckffjjaaDoor.Pure
