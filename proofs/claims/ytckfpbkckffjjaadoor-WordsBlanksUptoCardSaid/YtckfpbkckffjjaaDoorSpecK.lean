/- words.Join and the reference's Join both compute the plain joining. -/
import Derived.Test.YtckfpbkckffjjaaDoorSpecJ
namespace Go.Proofs.YtckfpbkckffjjaaDoor.Pure
open Go.RowKit Go.Proofs.YtckfpbkckffjjaaDoor.X Go.Proofs.YtckfpbkckffjjaaDoorW.PrintWords Go.Proofs.YtckfpbkckffjjaaDoorW.PrintLast

def ownB (b : ByteArray) : ByteArray := strOfNums (ownL (bytesOf b))
theorem own_u8 (b : ByteArray) : ∀ x ∈ ownL (bytesOf b), 0 ≤ x ∧ x ≤ 255 := fun x hx => by
  have := own_print (bytesOf b) (bytes_u8 b) x hx
  omega
theorem ownB_bytes (b : ByteArray) : bytesOf (ownB b) = ownL (bytesOf b) := bytesOf_strOfNums _ (own_u8 b)
theorem own_len (w : List Int) : (ownL w).length ≤ 4 * w.length + 2 := by
  unfold ownL
  split
  · omega
  · have := escs_len w
    rw [List.length_cons, List.length_append, List.length_singleton]
    omega
theorem joinL_snoc : ∀ (ws : List (List Int)) (w : List Int), joinL (ws ++ [w]) = if ws = [] then ownL w else joinL ws ++ 32 :: ownL w
  | [], w => by simp [joinL]
  | [v], w => by simp [joinL]
  | v :: u :: ws, w => by
    have ih := joinL_snoc (u :: ws) w
    rw [if_neg (by simp)] at ih ⊢
    show ownL v ++ 32 :: joinL (u :: ws ++ [w]) = _
    rw [ih, joinL, List.append_assoc]
    rfl
theorem joinL_le : ∀ (b a : List (List Int)), (joinL a).length ≤ (joinL (a ++ b)).length := by
  intro b
  induction b with
  | nil => intro a; rw [List.append_nil]; exact Nat.le_refl _
  | cons w b ih =>
    intro a
    have h1 := ih (a ++ [w])
    rw [List.append_assoc] at h1
    refine Nat.le_trans ?_ h1
    rw [joinL_snoc]
    split
    · rename_i h; subst h; simp [joinL]
    · rw [List.length_append]; omega
def tot (B : List ByteArray) : Nat := (B.map fun b => b.size + 1).sum
theorem tot_cons (b : ByteArray) (B : List ByteArray) : tot (b :: B) = b.size + 1 + tot B := by simp [tot]
theorem tot_len (B : List ByteArray) : B.length ≤ tot B := by
  induction B with
  | nil => exact Nat.zero_le _
  | cons b B ih => rw [tot_cons, List.length_cons]; omega
theorem tot_mem {B : List ByteArray} {b : ByteArray} (h : b ∈ B) : b.size ≤ tot B := by
  induction B with
  | nil => cases h
  | cons c B ih =>
    rw [tot_cons]
    rcases List.mem_cons.1 h with rfl | h
    · omega
    · have := ih h; omega
theorem join_len : ∀ (B : List ByteArray), (joinL (B.map bytesOf)).length ≤ 4 * tot B
  | [] => by simp [joinL]
  | [b] => by
    have := own_len (bytesOf b)
    rw [bytesOf_length] at this
    rw [tot_cons]
    simp only [List.map_cons, List.map_nil, joinL]
    omega
  | b :: c :: B => by
    have h1 := own_len (bytesOf b)
    have h2 := join_len (c :: B)
    rw [bytesOf_length] at h1
    rw [tot_cons]
    simp only [List.map_cons, joinL] at h2 ⊢
    rw [List.length_append, List.length_cons]
    omega
theorem join_un : ∀ (B : List ByteArray), unU8 (Lib.join ((B.map ownB).map (·.data.toList)) [32]) = joinL (B.map bytesOf)
  | [] => rfl
  | [b] => by
    simp only [List.map_cons, List.map_nil, joinL, Lib.join_one]
    exact ownB_bytes b
  | b :: c :: B => by
    have ih := join_un (c :: B)
    simp only [List.map_cons, joinL] at ih ⊢
    have : ∀ (x y : List UInt8) (r : List (List UInt8)), Lib.join (x :: y :: r) [32] = x ++ 32 :: Lib.join (y :: r) [32] := fun x y r => by
      simp [Lib.join, List.intercalate, List.intersperse]
    rw [this, unU8_append]
    show unU8 (ownB b).data.toList ++ 32 :: unU8 (Lib.join _ [32]) = _
    rw [ih]
    congr 1
    exact ownB_bytes b
/-- What both joinings tell. -/
def jOut (B : List ByteArray) : ByteArray × Int := if (joinL (B.map bytesOf)).length > 400 then (⟨#[]⟩, 40) else (strOfNums (joinL (B.map bytesOf)), 0)
theorem own_f (b : ByteArray) (h : b.size ≤ 4000000) : words_own.f b = some (ownB b) := by unfold words_own.f; rw [if_pos (by omega)]; rfl
theorem ownR_f (b : ByteArray) (h : b.size ≤ 4000000) : bastionref02_Own.f b = some (ownB b) := by unfold bastionref02_Own.f; rw [if_pos (by omega)]; rfl
theorem strOfNums_size (l : List Int) : (strOfNums l).size = l.length := by
  rw [← data_length]
  simp [strOfNums]
theorem joinA (B : List ByteArray) (hB : tot B ≤ 4000000) : ∀ (P : List ByteArray) (i k : Nat), B.drop i = P → i ≤ B.length → P.length + 1 ≤ k →
    words_Join.l0 k ((B.take i).map ownB) B (B.length : Int) i = some (jOut B) := by
  have hBl := tot_len B
  intro P
  induction P with
  | nil =>
    intro i k h hi hk
    obtain ⟨k, rfl⟩ : ∃ k2, k = k2 + 1 := ⟨k - 1, by omega⟩
    have hge : B.length ≤ i := by
      have := congrArg List.length h
      rw [List.length_drop, List.length_nil] at this
      omega
    simp only [words_Join.l0]
    rw [if_neg (by omega), List.take_of_length_le hge]
    have hj := join_un B
    have hjl := join_len B
    have hl : (Lib.join ((B.map ownB).map (·.data.toList)) [32]).length = (joinL (B.map bytesOf)).length := by rw [← hj, unU8_length]
    have hf : strings_Join.f (B.map ownB) (⟨#[32]⟩ : ByteArray) = some (strOfNums (joinL (B.map bytesOf))) := by
      unfold strings_Join.f
      rw [if_pos ⟨by rw [List.length_map]; omega, by show (Lib.join ((B.map ownB).map (·.data.toList)) [32]).length ≤ _; omega⟩, ← hj, strOfNums_un]
    rw [hf]
    simp only [Option.bind_some]
    unfold jOut
    rw [strOfNums_size]
    by_cases h4 : (joinL (B.map bytesOf)).length > 400
    · rw [if_pos (by omega), if_pos h4]
    · rw [if_neg (by omega), if_neg h4]
  | cons p P ih =>
    intro i k h hi hk
    obtain ⟨k, rfl⟩ : ∃ k2, k = k2 + 1 := ⟨k - 1, by omega⟩
    rw [List.length_cons] at hk
    have hlt : i < B.length := by
      by_cases hh : i < B.length
      · exact hh
      · rw [List.drop_eq_nil_of_le (by omega)] at h; cases h
    have hd := List.drop_eq_getElem_cons hlt
    rw [h] at hd
    have hp : B[i] = p := (List.cons.inj hd).1.symm
    have hr : rdOf ByteArray.empty B i = p := by
      unfold rdOf
      rw [Int.toNat_natCast, List.getD_eq_getElem?_getD, List.getElem?_eq_getElem hlt, Option.getD_some, hp]
    have hps : p.size ≤ 4000000 := by
      have := tot_mem (B := B) (b := p) (by rw [← hp]; exact List.getElem_mem hlt)
      omega
    simp only [words_Join.l0]
    rw [if_pos (by omega), if_pos (by omega), if_pos (by omega), hr, own_f p hps, wr1 i (by omega)]
    simp only [Option.bind_some]
    rw [if_pos (by rw [List.length_map, List.length_take]; omega)]
    rw [← ih (i + 1) k (List.cons.inj hd).2.symm (by omega) (by omega), List.take_succ_eq_append_getElem hlt, List.map_append, hp]
    rfl
theorem join_f (B : List ByteArray) (hB : tot B ≤ 4000000) (k : Nat) (hk : 5000000 ≤ k) : words_Join.f k B = some (jOut B) := by
  have := tot_len B
  exact joinA B hB B 0 k (List.drop_zero ..) (by omega) (by omega)
theorem strOfNums_app (a b : List Int) : strOfNums (a ++ b) = strOfNums a ++ strOfNums b := by
  apply ByteArray.ext
  apply Array.ext'
  simp [strOfNums]
theorem joinB (B : List ByteArray) (hB : tot B ≤ 4000000) : ∀ (P : List ByteArray) (i k : Nat), B.drop i = P → i ≤ B.length → P.length + 1 ≤ k → (joinL ((B.take i).map bytesOf)).length ≤ 400 →
    bastionref02_Join.l0 k B (strOfNums (joinL ((B.take i).map bytesOf))) i = some (jOut B) := by
  have hBl := tot_len B
  intro P
  induction P with
  | nil =>
    intro i k h hi hk h4
    obtain ⟨k, rfl⟩ : ∃ k2, k = k2 + 1 := ⟨k - 1, by omega⟩
    have hge : B.length ≤ i := by
      have := congrArg List.length h
      rw [List.length_drop, List.length_nil] at this
      omega
    rw [List.take_of_length_le hge] at h4 ⊢
    simp only [bastionref02_Join.l0]
    rw [if_neg (by omega)]
    unfold jOut
    rw [if_neg (by omega)]
  | cons p P ih =>
    intro i k h hi hk h4
    obtain ⟨k, rfl⟩ : ∃ k2, k = k2 + 1 := ⟨k - 1, by omega⟩
    rw [List.length_cons] at hk
    have hlt : i < B.length := by
      by_cases hh : i < B.length
      · exact hh
      · rw [List.drop_eq_nil_of_le (by omega)] at h; cases h
    have hd := List.drop_eq_getElem_cons hlt
    rw [h] at hd
    have hp : B[i] = p := (List.cons.inj hd).1.symm
    have hr : rdOf ByteArray.empty B i = p := by
      unfold rdOf
      rw [Int.toNat_natCast, List.getD_eq_getElem?_getD, List.getElem?_eq_getElem hlt, Option.getD_some, hp]
    have hps : p.size ≤ 4000000 := by
      have := tot_mem (B := B) (b := p) (by rw [← hp]; exact List.getElem_mem hlt)
      omega
    have hnext : joinL ((B.take (i + 1)).map bytesOf) = if (B.take i).map bytesOf = [] then ownL (bytesOf p) else joinL ((B.take i).map bytesOf) ++ 32 :: ownL (bytesOf p) := by
      rw [List.take_succ_eq_append_getElem hlt, List.map_append, hp]
      exact joinL_snoc _ _
    have hmon : (joinL ((B.take (i + 1)).map bytesOf)).length ≤ (joinL (B.map bytesOf)).length := by
      have := joinL_le ((B.drop (i + 1)).map bytesOf) ((B.take (i + 1)).map bytesOf)
      rw [← List.map_append, List.take_append_drop] at this
      exact this
    have hol := own_len (bytesOf p)
    rw [bytesOf_length] at hol
    have hos : (ownB p).size = (ownL (bytesOf p)).length := strOfNums_size _
    have fin : ∀ s : ByteArray, s = strOfNums (joinL ((B.take (i + 1)).map bytesOf)) → (if (s.size : Int) > 400 then some ((⟨#[]⟩ : ByteArray), 40) else bastionref02_Join.l0 k B s (wrap64 ((i : Int) + 1))) = some (jOut B) := by
      intro s hs
      subst hs
      rw [strOfNums_size]
      by_cases h5 : (joinL ((B.take (i + 1)).map bytesOf)).length > 400
      · rw [if_pos (by omega)]
        unfold jOut
        rw [if_pos (by omega)]
      · rw [if_neg (by omega), wr1 i (by omega)]
        exact ih (i + 1) k (List.cons.inj hd).2.symm (by omega) (by omega) (by omega)
    simp only [bastionref02_Join.l0]
    rw [if_pos (by omega), hr, ownR_f p hps]
    simp only [Option.bind_some]
    have hsz := strOfNums_size (joinL ((B.take i).map bytesOf))
    by_cases hi0 : i = 0
    · rw [if_neg (by omega), if_pos (by omega), if_pos (by omega)]
      refine fin _ ?_
      rw [hnext, if_pos (by rw [hi0]; rfl)]
      subst hi0
      simp only [List.take_zero, List.map_nil, joinL]
      show ByteArray.empty ++ ownB p = _
      rw [ByteArray.empty_append]
      rfl
    · have h32 : (strOfNums (joinL ((B.take i).map bytesOf)) ++ (⟨#[32]⟩ : ByteArray)).size = (joinL ((B.take i).map bytesOf)).length + 1 := by rw [ByteArray.size_append, hsz]; rfl
      rw [if_pos (by omega), if_pos (by omega), if_pos (by omega), if_pos (by omega)]
      refine fin _ ?_
      rw [hnext, if_neg (by
        intro e
        have := congrArg List.length e
        rw [List.length_map, List.length_take, List.length_nil] at this
        omega), strOfNums_app, ByteArray.append_assoc]
      rfl
theorem joinR_f (B : List ByteArray) (hB : tot B ≤ 4000000) (k : Nat) (hk : 5000000 ≤ k) : bastionref02_Join.f k B = some (jOut B) := by
  have := tot_len B
  exact joinB B hB B 0 k (List.drop_zero ..) (by omega) (by omega) (by simp [joinL])
end Go.Proofs.YtckfpbkckffjjaaDoor.Pure
