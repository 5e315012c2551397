/- Joining words and splitting what is joined: plain lists of bytes. -/
import Derived.Test.YtckfpbkckffjjaaDoorSpecB
namespace Go.Proofs.YtckfpbkckffjjaaDoor.Pure
open Go.RowKit Go.Proofs.YtckfpbkckffjjaaDoor.X Go.Proofs.YtckfpbkckffjjaaDoorW.PrintWords Go.Proofs.YtckfpbkckffjjaaDoorW.PrintLast

theorem plainI_iff (c : Int) : plainI c = true ↔ 33 ≤ c ∧ c ≤ 126 ∧ c ≠ 34 := by unfold plainI; simp
theorem plain_nb {c : Int} (h : plainI c = true) : nbI c = true := by
  have := (plainI_iff c).1 h
  unfold nbI blankI
  rw [show (c == 32) = false from beq_eq_false_iff_ne.2 (by omega), show (c == 9) = false from beq_eq_false_iff_ne.2 (by omega)]
  rfl
theorem nb_blank {c : Int} (h : nbI c = true) : blankI c = false := by unfold nbI at h; simpa using h
theorem hex_dig (q : Int) (h0 : 0 ≤ q) (h1 : q < 16) : hexI (digI q) = q := by
  unfold digI hexI
  (repeat' split) <;> omega
/-- The joined text, by itself. -/
def joinL : List (List Int) → List Int
  | [] => []
  | [w] => ownL w
  | w :: v :: ws => ownL w ++ 32 :: joinL (v :: ws)
theorem dig_u8 (q : Int) (h0 : 0 ≤ q) (h1 : q < 16) : 32 ≤ digI q ∧ digI q ≤ 126 := by
  unfold digI
  split <;> omega
/-- What is escaped is printable. -/
theorem esc_print (c : Int) (h0 : 0 ≤ c) (h1 : c ≤ 255) : ∀ x ∈ escI c, 32 ≤ x ∧ x ≤ 126 := by
  intro x hx
  unfold escI at hx
  have d1 := dig_u8 (c / 16) (by omega) (by omega)
  have d2 := dig_u8 (c % 16) (by omega) (by omega)
  (repeat' split at hx) <;> simp only [List.mem_cons, List.mem_nil_iff, or_false] at hx <;> omega
theorem own_print (w : List Int) (h : ∀ x ∈ w, 0 ≤ x ∧ x ≤ 255) : ∀ x ∈ ownL w, 32 ≤ x ∧ x ≤ 126 := by
  intro x hx
  unfold ownL at hx
  split at hx
  · rename_i hp
    rw [plainL_eq, Bool.and_eq_true] at hp
    have := (plainI_iff x).1 (List.all_eq_true.1 hp.2 x hx)
    omega
  · rcases List.mem_cons.1 hx with rfl | hx
    · omega
    · rcases List.mem_append.1 hx with hx | hx
      · obtain ⟨c, hc, hx⟩ := List.mem_flatMap.1 hx
        exact esc_print c (h c hc).1 (h c hc).2 x hx
      · rw [List.mem_singleton] at hx
        omega
theorem join_print : ∀ (ws : List (List Int)), (∀ w ∈ ws, ∀ x ∈ w, 0 ≤ x ∧ x ≤ 255) → ∀ x ∈ joinL ws, 32 ≤ x ∧ x ≤ 126
  | [], _, x, hx => by simp [joinL] at hx
  | [w], h, x, hx => own_print w (h w (List.mem_cons_self ..)) x hx
  | w :: v :: ws, h, x, hx => by
    rw [joinL] at hx
    rcases List.mem_append.1 hx with hx | hx
    · exact own_print w (h w (List.mem_cons_self ..)) x hx
    · rcases List.mem_cons.1 hx with rfl | hx
      · omega
      · exact join_print (v :: ws) (fun u hu => h u (List.mem_cons_of_mem _ hu)) x hx
theorem quoted_esc : ∀ (w acc rest : List Int), (∀ x ∈ w, 0 ≤ x ∧ x ≤ 255) → quotedL acc (w.flatMap escI ++ 34 :: rest) = some (acc ++ w, rest) := by
  intro w
  induction w with
  | nil => intro acc rest _; rw [List.flatMap_nil, List.nil_append, quotedL_end _ _ rfl, List.append_nil]
  | cons c w ih =>
    intro acc rest h
    have hc := h c (List.mem_cons_self ..)
    have hw : ∀ x ∈ w, 0 ≤ x ∧ x ≤ 255 := fun x hx => h x (List.mem_cons_of_mem _ hx)
    have fin : ∀ v : Int, v = c → quotedL (acc ++ [v]) (w.flatMap escI ++ 34 :: rest) = some (acc ++ c :: w, rest) := by
      intro v hv
      rw [ih _ _ hw, hv, List.append_assoc]
      rfl
    rw [List.flatMap_cons, List.append_assoc]
    by_cases c1 : c = 34 ∨ c = 92
    · rw [show escI c = [92, c] by unfold escI; rw [if_pos c1]]
      show quotedL acc (92 :: c :: (w.flatMap escI ++ 34 :: rest)) = _
      rw [quotedL_mark _ _ rfl (by omega)]
      rcases c1 with rfl | rfl
      · exact fin 34 rfl
      · exact fin 92 rfl
    by_cases c2 : c = 10
    · rw [show escI c = [92, 110] by unfold escI; rw [if_neg c1, if_pos c2]]
      show quotedL acc (92 :: 110 :: (w.flatMap escI ++ 34 :: rest)) = _
      rw [quotedL_mark _ _ rfl (by omega)]
      exact fin 10 c2.symm
    by_cases c3 : c = 9
    · rw [show escI c = [92, 116] by unfold escI; rw [if_neg c1, if_neg c2, if_pos c3]]
      show quotedL acc (92 :: 116 :: (w.flatMap escI ++ 34 :: rest)) = _
      rw [quotedL_mark _ _ rfl (by omega)]
      exact fin 9 c3.symm
    by_cases c4 : 32 ≤ c ∧ c ≤ 126
    · rw [show escI c = [c] by unfold escI; rw [if_neg c1, if_neg c2, if_neg c3, if_pos c4]]
      show quotedL acc (c :: (w.flatMap escI ++ 34 :: rest)) = _
      rw [quotedL_plain _ _ (by omega) (by omega) (by omega)]
      exact fin c rfl
    · rw [show escI c = [92, 120, digI (c / 16), digI (c % 16)] by unfold escI; rw [if_neg c1, if_neg c2, if_neg c3, if_neg c4]]
      show quotedL acc (92 :: 120 :: digI (c / 16) :: digI (c % 16) :: (w.flatMap escI ++ 34 :: rest)) = _
      have e1 := hex_dig (c / 16) (by omega) (by omega)
      have e2 := hex_dig (c % 16) (by omega) (by omega)
      rw [quotedL_x _ _ rfl rfl (by rw [e1, e2]; omega), e1, e2]
      exact fin _ (by omega)
theorem takeWhile_all {p : Int → Bool} : ∀ (w rest : List Int), (∀ x ∈ w, p x = true) → (∀ c r, rest = c :: r → p c = false) → (w ++ rest).takeWhile p = w ∧ (w ++ rest).dropWhile p = rest := by
  intro w
  induction w with
  | nil =>
    intro rest _ h
    cases rest with
    | nil => exact ⟨rfl, rfl⟩
    | cons c r =>
      have := h c r rfl
      rw [List.nil_append, List.takeWhile_cons, List.dropWhile_cons, this]
      exact ⟨rfl, rfl⟩
  | cons c w ih =>
    intro rest h hr
    obtain ⟨a, b⟩ := ih rest (fun x hx => h x (List.mem_cons_of_mem _ hx)) hr
    rw [List.cons_append, List.takeWhile_cons, List.dropWhile_cons, if_pos (h c (List.mem_cons_self ..)), if_pos (h c (List.mem_cons_self ..)), a, b]
    exact ⟨rfl, rfl⟩
/-- One word off what is joined. -/
theorem spl_own (n : Nat) (w rest : List Int) (h : ∀ x ∈ w, 0 ≤ x ∧ x ≤ 255) (hr : ∀ c r, rest = c :: r → blankI c = true) : spl (n + 1) (ownL w ++ rest) = (spl n rest).map (w :: ·) := by
  by_cases hp : plainL w = true
  · rw [show ownL w = w by unfold ownL; rw [if_pos hp]]
    rw [plainL_eq, Bool.and_eq_true] at hp
    cases w with
    | nil => exact absurd hp.1 (by decide)
    | cons c w =>
      have hall := List.all_eq_true.1 hp.2
      have h35 : c ≠ 35 := by have := hp.1; simpa [plainL0] using this
      have hc := hall c (List.mem_cons_self ..)
      have hci := (plainI_iff c).1 hc
      obtain ⟨e1, e2⟩ := takeWhile_all (p := nbI) (c :: w) rest (fun x hx => plain_nb (hall x hx)) (fun d r e => by unfold nbI; rw [hr d r e]; rfl)
      have hdw : (c :: w ++ rest).dropWhile blankI = c :: (w ++ rest) := by
        rw [List.cons_append, List.dropWhile_cons, if_neg (by rw [nb_blank (plain_nb hc)]; decide)]
      simp only [spl, hdw]
      rw [if_neg h35, if_neg hci.2.2]
      rw [List.cons_append] at e1 e2
      rw [e1, e2, if_pos hp.2]
  · rw [show ownL w = 34 :: (w.flatMap escI ++ [34]) by unfold ownL; rw [if_neg hp]]
    have hdw : (34 :: (w.flatMap escI ++ [34]) ++ rest).dropWhile blankI = 34 :: (w.flatMap escI ++ 34 :: rest) := by
      rw [List.cons_append, List.dropWhile_cons, if_neg (by decide), List.append_assoc]
      rfl
    simp only [spl, hdw]
    rw [if_neg (by decide), if_pos trivial, quoted_esc w [] rest h]
    simp only [List.nil_append]
    cases rest with
    | nil => rw [if_pos (Or.inl rfl)]
    | cons c r => rw [if_pos (show c :: r = [] ∨ blankI ((c :: r).headD 0) = true from Or.inr (hr c r rfl))]
theorem spl_blank (n : Nat) (c : Int) (l : List Int) (h : blankI c = true) : spl n (c :: l) = spl n l := by
  cases n with
  | zero => rfl
  | succ n => simp only [spl, List.dropWhile_cons, if_pos h]
theorem spl_nil (n : Nat) : spl (n + 1) [] = some [] := rfl
/-- What is joined is split as it was, whatever blanks, or a remark, stand behind. -/
theorem spl_join : ∀ (ws : List (List Int)) (n : Nat) (rest : List Int), (∀ w ∈ ws, ∀ x ∈ w, 0 ≤ x ∧ x ≤ 255) → (∀ c r, rest = c :: r → blankI c = true) → (∀ m, rest.length < m → spl m rest = some []) → (joinL ws ++ rest).length < n → spl n (joinL ws ++ rest) = some ws
  | [], n, rest, _, _, hs, hn => by
    rw [joinL, List.nil_append] at hn ⊢
    exact hs n hn
  | [w], n, rest, h, hr, hs, hn => by
    rw [joinL] at hn ⊢
    obtain ⟨n, rfl⟩ : ∃ m, n = m + 1 := ⟨n - 1, by omega⟩
    have hpos : 0 < (ownL w).length := by
      unfold ownL
      split
      · rename_i hp
        cases w with
        | nil => exact absurd hp (by decide)
        | cons c r => simp
      · simp
    rw [spl_own n w rest (h w (List.mem_cons_self ..)) hr, hs n (by rw [List.length_append] at hn; omega)]
    rfl
  | w :: v :: ws, n, rest, h, hr, hs, hn => by
    rw [joinL] at hn ⊢
    obtain ⟨n, rfl⟩ : ∃ m, n = m + 1 := ⟨n - 1, by omega⟩
    rw [List.append_assoc] at hn ⊢
    rw [spl_own n w _ (h w (List.mem_cons_self ..)) (fun c r e => by rw [List.cons_append] at e; rw [← (List.cons.inj e).1]; rfl), List.cons_append, spl_blank _ _ _ (by rfl)]
    rw [spl_join (v :: ws) n rest (fun u hu => h u (List.mem_cons_of_mem _ hu)) hr hs (by rw [List.cons_append] at hn; simp only [List.length_append, List.length_cons] at hn ⊢; omega)]
    rfl
end Go.Proofs.YtckfpbkckffjjaaDoor.Pure
