/- Labels of matrix rows: both makings and both readings of a label are one plain making and one plain reading of bytes. -/
import Derived.Test.YtifgdhmbjlfnhaaDoorBaseP
import Derived.Test.YtifgdhmbjlfnhaaDoorMx11
namespace Go.Proofs.YtifgdhmbjlfnhaaDoor.Pure
open Go.RowKit Go.Proofs.YtifgdhmbjlfnhaaDoor.M Go.Proofs.YtifgdhmbjlfnhaaDoorW.PrintWords Go.Proofs.YtifgdhmbjlfnhaaDoorW.PrintLast

def IsB (l : List Int) : Prop := ∀ x ∈ l, 0 ≤ x ∧ x ≤ 255
theorem isB_nil : IsB [] := fun x h => by cases h
theorem isB_cons {x : Int} {l : List Int} (h : 0 ≤ x ∧ x ≤ 255) (hl : IsB l) : IsB (x :: l) := fun y hy => by
  rcases List.mem_cons.1 hy with rfl | hy
  · exact h
  · exact hl y hy
theorem isB_app {a b : List Int} (ha : IsB a) (hb : IsB b) : IsB (a ++ b) := fun y hy => by
  rcases List.mem_append.1 hy with hy | hy
  · exact ha y hy
  · exact hb y hy
theorem isB_snoc {a : List Int} {x : Int} (ha : IsB a) (h : 0 ≤ x ∧ x ≤ 255) : IsB (a ++ [x]) := isB_app ha (isB_cons h isB_nil)
theorem isB_head {x : Int} {l : List Int} (h : IsB (x :: l)) : 0 ≤ x ∧ x ≤ 255 := h x (List.mem_cons_self ..)
theorem isB_tail {x : Int} {l : List Int} (h : IsB (x :: l)) : IsB l := fun y hy => h y (List.mem_cons_of_mem _ hy)
def markL (c : Int) (l : List Int) : List Int := l.flatMap fun x => if x = 92 ∨ x = c then [92, x] else [x]
theorem markL_nil (c : Int) : markL c [] = [] := rfl
theorem markL_cons (c x : Int) (l : List Int) : markL c (x :: l) = (if x = 92 ∨ x = c then [92, x] else [x]) ++ markL c l := by unfold markL; rw [List.flatMap_cons]
theorem markL_app (c : Int) (a b : List Int) : markL c (a ++ b) = markL c a ++ markL c b := by unfold markL; rw [List.flatMap_append]
theorem markL_len (c : Int) (l : List Int) : (markL c l).length ≤ 2 * l.length := by
  induction l with
  | nil => simp [markL]
  | cons x l ih =>
    rw [markL_cons, List.length_append, List.length_cons]
    split <;> simp <;> omega
theorem len_markL (c : Int) (l : List Int) : l.length ≤ (markL c l).length := by
  induction l with
  | nil => simp
  | cons x l ih =>
    rw [markL_cons, List.length_append, List.length_cons]
    split <;> simp <;> omega
theorem markL_B {c : Int} {l : List Int} (h : IsB l) : IsB (markL c l) := by
  induction l with
  | nil => exact isB_nil
  | cons x l ih =>
    rw [markL_cons]
    refine isB_app ?_ (ih (isB_tail h))
    split
    · exact isB_cons (by omega) (isB_cons (isB_head h) isB_nil)
    · exact isB_cons (isB_head h) isB_nil
theorem repl_mark (c : Int) (hc : c ≠ 92) : ∀ l : List Int, replL c [92, c] (replL 92 [92, 92] l) = markL c l
  | [] => rfl
  | x :: l => by
    have ih := repl_mark c hc l
    have h92 : ¬ (92 : Int) = c := fun e => hc e.symm
    rw [markL_cons]
    by_cases h1 : x = 92
    · rw [replL, if_pos h1, if_pos (Or.inl h1)]
      show replL c [92, c] (92 :: 92 :: replL 92 [92, 92] l) = _
      rw [replL, if_neg h92, replL, if_neg h92, ih, h1]
      rfl
    · rw [replL, if_neg h1, replL]
      by_cases h2 : x = c
      · rw [if_pos h2, if_pos (Or.inr h2), ih, h2]
      · rw [if_neg h2, if_neg (by omega), ih]
        rfl
theorem repl_len (l : List Int) : (replL 92 [92, 92] l).length ≤ 2 * l.length := by
  induction l with
  | nil => simp [replL]
  | cons x l ih =>
    rw [replL]
    split <;> simp <;> omega
theorem repl_B {l : List Int} (h : IsB l) : IsB (replL 92 [92, 92] l) := by
  induction l with
  | nil => exact isB_nil
  | cons x l ih =>
    rw [replL]
    split
    · exact isB_cons (by omega) (isB_cons (by omega) (ih (isB_tail h)))
    · exact isB_cons (isB_head h) (ih (isB_tail h))
def markB (c : Int) (b : ByteArray) : ByteArray := strOfNums (markL c (bytesOf b))
theorem markB_size (c : Int) (b : ByteArray) : (markB c b).size ≤ 2 * b.size := by
  unfold markB
  rw [strOfNums_size]
  have := markL_len c (bytesOf b)
  rw [bytesOf_length] at this
  exact this
theorem markedA (b s : ByteArray) (c : Int) (hs : s.size = 1) (hc : bt s 0 = c) (hb2 : bytesOf ((⟨#[92]⟩ : ByteArray) ++ s) = [92, c]) (h92 : c ≠ 92) (h : b.size ≤ 4000000) : matrix_marked.f b s = some (markB c b) := by
  have hl := repl_len (bytesOf b)
  rw [bytesOf_length] at hl
  have hsz : ((⟨#[92]⟩ : ByteArray) ++ s).size = 2 := by rw [ByteArray.size_append, hs]; rfl
  unfold matrix_marked.f strings_ReplaceAll.f
  rw [if_pos ⟨rfl, by show b.size * (2 + 1) ≤ _; omega⟩]
  simp only [Option.bind_some]
  rw [if_pos (by omega), show bt (⟨#[92]⟩ : ByteArray) 0 = 92 from rfl, show bytesOf (⟨#[92, 92]⟩ : ByteArray) = [92, 92] from rfl, strOfNums_size, hsz, if_pos ⟨hs, by omega⟩]
  rw [hc, hb2, bytesOf_strOfNums _ (repl_B (bytes_u8 b)), repl_mark c h92]
  rfl
theorem marked58 (b : ByteArray) (h : b.size ≤ 4000000) : matrix_marked.f b (⟨#[58]⟩ : ByteArray) = some (markB 58 b) := markedA b _ 58 rfl rfl rfl (by decide) h
theorem marked44 (b : ByteArray) (h : b.size ≤ 4000000) : matrix_marked.f b (⟨#[44]⟩ : ByteArray) = some (markB 44 b) := markedA b _ 44 rfl rfl rfl (by decide) h
theorem markedGo (x : ByteArray) (hx : x.size ≤ 4000000) (c : Int) : ∀ (m i k : Nat) (acc : List Int), x.size - i ≤ m → i ≤ x.size → m + 1 ≤ k → acc.length + 2 * m ≤ 100000000 →
    bastionref14_marked.l0 k x c acc i = some (strOfNums (acc ++ markL c ((bytesOf x).drop i))) := by
  intro m
  induction m with
  | zero =>
    intro i k acc hm hi hk ha
    obtain ⟨k, rfl⟩ : ∃ k2, k = k2 + 1 := ⟨k - 1, by omega⟩
    simp only [bastionref14_marked.l0]
    rw [if_neg (by omega), bytes_end x i (by omega), markL_nil, List.append_nil]
  | succ m ih =>
    intro i k acc hm hi hk ha
    obtain ⟨k, rfl⟩ : ∃ k2, k = k2 + 1 := ⟨k - 1, by omega⟩
    simp only [bastionref14_marked.l0]
    by_cases hlt : i < x.size
    case neg => rw [if_neg (by omega), bytes_end x i (by omega), markL_nil, List.append_nil]
    have hd := bytes_drop x i hlt
    obtain ⟨_, hb, _⟩ := bt_drop hd
    rw [if_pos (by omega), if_pos (by omega), hb, hd, markL_cons, wr1 i (by omega)]
    generalize (x[i].toNat : Int) = y
    have two : (if acc.length < 140737488355328 then (some (acc ++ [92] : List Int)).bind fun z => if z.length < 140737488355328 then bastionref14_marked.l0 k x c (z ++ [y]) ((i + 1 : Nat) : Int) else none else none) = some (strOfNums (acc ++ ([92, y] ++ markL c ((bytesOf x).drop (i + 1))))) := by
      rw [if_pos (by omega)]
      simp only [Option.bind_some]
      rw [if_pos (by rw [List.length_append, List.length_singleton]; omega), ih (i + 1) k _ (by omega) (by omega) (by omega) (by simp only [List.length_append, List.length_singleton]; omega)]
      simp only [List.append_assoc]
      rfl
    by_cases h1 : y = 92
    · rw [if_pos h1, if_pos (show y = 92 ∨ y = c from Or.inl h1)]
      exact two
    · rw [if_neg h1]
      by_cases h2 : y = c
      · rw [if_pos h2, if_pos (show y = 92 ∨ y = c from Or.inr h2)]
        exact two
      · rw [if_neg h2, if_neg (show ¬ (y = 92 ∨ y = c) by omega), if_pos (by omega), ih (i + 1) k _ (by omega) (by omega) (by omega) (by simp only [List.length_append, List.length_singleton]; omega), List.append_assoc]
theorem markedR (x : ByteArray) (c : Int) (k : Nat) (hx : x.size ≤ 4000000) (hk : 4000001 ≤ k) : bastionref14_marked.f k x c = some (markB c x) := by
  have := markedGo x hx c x.size 0 k [] (by omega) (by omega) (by omega) (by simp; omega)
  rw [List.drop_zero, List.nil_append] at this
  exact this
/-! ### the label -/
def tlC : List (List Int) → List Int
  | [] => []
  | w :: ws => 44 :: (markL 44 w ++ tlC ws)
def lab : List (List Int) → List Int
  | [] => []
  | w :: ws => 58 :: (markL 44 w ++ tlC ws)
def tlI (i : Nat) (ws : List (List Int)) : List Int := if i = 0 then lab ws else tlC ws
theorem tlI_nil (i : Nat) : tlI i [] = [] := by unfold tlI; split <;> rfl
theorem tlI_cons (i : Nat) (w : List Int) (ws : List (List Int)) : tlI i (w :: ws) = (if i = 0 then 58 else 44) :: (markL 44 w ++ tlI (i + 1) ws) := by
  unfold tlI
  rw [if_neg (show ¬ i + 1 = 0 by omega)]
  split <;> rfl
def labelL (a : List Int) (ws : List (List Int)) : List Int := markL 58 a ++ lab ws
theorem rd_at (B : List ByteArray) (i : Nat) (p : ByteArray) (P : List ByteArray) (h : B.drop i = p :: P) : i < B.length ∧ rdOf ByteArray.empty B i = p ∧ B.drop (i + 1) = P := by
  have hlt : i < B.length := by
    by_cases hh : i < B.length
    · exact hh
    · rw [List.drop_eq_nil_of_le (by omega)] at h; cases h
  rw [List.drop_eq_getElem_cons hlt] at h
  refine ⟨hlt, ?_, (List.cons.inj h).2⟩
  unfold rdOf
  rw [Int.toNat_natCast, List.getD_eq_getElem?_getD, List.getElem?_eq_getElem hlt, Option.getD_some, (List.cons.inj h).1]
theorem cat58 (acc m : List Int) : strOfNums acc ++ ((⟨#[58]⟩ : ByteArray) ++ strOfNums m) = strOfNums (acc ++ 58 :: m) := by
  rw [show (58 :: m : List Int) = [58] ++ m from rfl, strOfNums_app, strOfNums_app]
  rfl
theorem cat44 (acc m : List Int) : strOfNums acc ++ ((⟨#[44]⟩ : ByteArray) ++ strOfNums m) = strOfNums (acc ++ 44 :: m) := by
  rw [show (44 :: m : List Int) = [44] ++ m from rfl, strOfNums_app, strOfNums_app]
  rfl
theorem labA (B : List ByteArray) (hB : B.length ≤ 4000000) : ∀ (P : List ByteArray) (i k : Nat) (acc : List Int), B.drop i = P → i ≤ B.length → P.length + 1 ≤ k → tot P ≤ 4000000 → acc.length + 4 * tot P ≤ 100000000 →
    matrix_Label.l0 k (strOfNums acc) B (B.length : Int) i = some (strOfNums (acc ++ tlI i (P.map bytesOf))) := by
  intro P
  induction P with
  | nil =>
    intro i k acc h hi hk ht ha
    obtain ⟨k, rfl⟩ : ∃ k2, k = k2 + 1 := ⟨k - 1, by omega⟩
    have : B.length ≤ i := by
      have := congrArg List.length h
      rw [List.length_drop, List.length_nil] at this
      omega
    simp only [matrix_Label.l0]
    rw [if_neg (by omega), List.map_nil, tlI_nil, List.append_nil]
  | cons p P ih =>
    intro i k acc h hi hk ht ha
    obtain ⟨k, rfl⟩ : ∃ k2, k = k2 + 1 := ⟨k - 1, by omega⟩
    rw [List.length_cons] at hk
    rw [tot_cons] at ht ha
    obtain ⟨hlt, hr, hd⟩ := rd_at B i p P h
    have hm := markB_size 44 p
    have hms : (markB 44 p).size = (markL 44 (bytesOf p)).length := strOfNums_size _
    have h58 : ((⟨#[58]⟩ : ByteArray) ++ markB 44 p).size = 1 + (markB 44 p).size := ByteArray.size_append
    have h44 : ((⟨#[44]⟩ : ByteArray) ++ markB 44 p).size = 1 + (markB 44 p).size := ByteArray.size_append
    have has := strOfNums_size acc
    simp only [matrix_Label.l0]
    rw [if_pos (by omega), if_pos (by omega), if_pos (by omega), hr, marked44 p (by omega), wr1 i (by omega), List.map_cons, tlI_cons]
    simp only [Option.bind_some]
    by_cases h0 : i = 0
    · rw [if_pos (by omega), if_pos h0, if_pos (by omega), if_pos (by omega)]
      rw [show strOfNums acc ++ ((⟨#[58]⟩ : ByteArray) ++ markB 44 p) = strOfNums (acc ++ 58 :: markL 44 (bytesOf p)) from cat58 _ _]
      rw [ih (i + 1) k _ hd (by omega) (by omega) (by omega) (by rw [List.length_append, List.length_cons]; omega), List.append_assoc]
      rfl
    · rw [if_neg (by omega), if_neg h0, if_pos (by omega), if_pos (by omega)]
      rw [show strOfNums acc ++ ((⟨#[44]⟩ : ByteArray) ++ markB 44 p) = strOfNums (acc ++ 44 :: markL 44 (bytesOf p)) from cat44 _ _]
      rw [ih (i + 1) k _ hd (by omega) (by omega) (by omega) (by rw [List.length_append, List.length_cons]; omega), List.append_assoc]
      rfl
def labelB (a : ByteArray) (B : List ByteArray) : ByteArray := strOfNums (labelL (bytesOf a) (B.map bytesOf))
theorem label_f (a : ByteArray) (B : List ByteArray) (k : Nat) (ha : a.size ≤ 4000000) (hB : tot B ≤ 4000000) (hk : 5000000 ≤ k) : matrix_Label.f k a B = some (labelB a B) := by
  have hl := tot_len B
  have hm := markL_len 58 (bytesOf a)
  rw [bytesOf_length] at hm
  unfold matrix_Label.f
  rw [marked58 a ha]
  simp only [Option.bind_some]
  exact labA B (by omega) B 0 k _ (List.drop_zero ..) (by omega) (by omega) hB (by omega)
theorem labR (B : List ByteArray) (hB : B.length ≤ 4000000) : ∀ (P : List ByteArray) (i k : Nat) (acc : List Int), B.drop i = P → i ≤ B.length → 4000001 + P.length + 1 ≤ k → tot P ≤ 4000000 → acc.length + 4 * tot P ≤ 100000000 →
    bastionref14_Label.l0 k B (strOfNums acc) i = some (strOfNums (acc ++ tlI i (P.map bytesOf))) := by
  intro P
  induction P with
  | nil =>
    intro i k acc h hi hk ht ha
    obtain ⟨k, rfl⟩ : ∃ k2, k = k2 + 1 := ⟨k - 1, by omega⟩
    have : B.length ≤ i := by
      have := congrArg List.length h
      rw [List.length_drop, List.length_nil] at this
      omega
    simp only [bastionref14_Label.l0]
    rw [if_neg (by omega), List.map_nil, tlI_nil, List.append_nil]
  | cons p P ih =>
    intro i k acc h hi hk ht ha
    obtain ⟨k, rfl⟩ : ∃ k2, k = k2 + 1 := ⟨k - 1, by omega⟩
    rw [List.length_cons] at hk
    rw [tot_cons] at ht ha
    obtain ⟨hlt, hr, hd⟩ := rd_at B i p P h
    have hm := markB_size 44 p
    have hms : (markB 44 p).size = (markL 44 (bytesOf p)).length := strOfNums_size _
    have h58 : (strOfNums acc ++ (⟨#[58]⟩ : ByteArray)).size = (strOfNums acc).size + 1 := ByteArray.size_append
    have h44 : (strOfNums acc ++ (⟨#[44]⟩ : ByteArray)).size = (strOfNums acc).size + 1 := ByteArray.size_append
    have has := strOfNums_size acc
    simp only [bastionref14_Label.l0]
    rw [if_pos (by omega), hr, markedR p 44 k (by omega) (by omega), wr1 i (by omega), List.map_cons, tlI_cons]
    simp only [Option.bind_some]
    by_cases h0 : i = 0
    · rw [if_pos (by omega), if_pos h0, if_pos (by omega), if_pos (by omega), if_pos (by omega), ByteArray.append_assoc]
      rw [show strOfNums acc ++ ((⟨#[58]⟩ : ByteArray) ++ markB 44 p) = strOfNums (acc ++ 58 :: markL 44 (bytesOf p)) from cat58 _ _]
      rw [ih (i + 1) k _ hd (by omega) (by omega) (by omega) (by rw [List.length_append, List.length_cons]; omega), List.append_assoc]
      rfl
    · rw [if_neg (by omega), if_neg h0, if_pos (by omega), if_pos (by omega), if_pos (by omega), ByteArray.append_assoc]
      rw [show strOfNums acc ++ ((⟨#[44]⟩ : ByteArray) ++ markB 44 p) = strOfNums (acc ++ 44 :: markL 44 (bytesOf p)) from cat44 _ _]
      rw [ih (i + 1) k _ hd (by omega) (by omega) (by omega) (by rw [List.length_append, List.length_cons]; omega), List.append_assoc]
      rfl
theorem labelR_f (a : ByteArray) (B : List ByteArray) (k : Nat) (ha : a.size ≤ 4000000) (hB : tot B ≤ 4000000) (hk : 10000000 ≤ k) : bastionref14_Label.f k a B = some (labelB a B) := by
  have hl := tot_len B
  have hm := markL_len 58 (bytesOf a)
  rw [bytesOf_length] at hm
  unfold bastionref14_Label.f
  rw [markedR a 58 k ha (by omega)]
  simp only [Option.bind_some]
  exact labR B (by omega) B 0 k _ (List.drop_zero ..) (by omega) (by omega) hB (by omega)
end Go.Proofs.YtifgdhmbjlfnhaaDoor.Pure
