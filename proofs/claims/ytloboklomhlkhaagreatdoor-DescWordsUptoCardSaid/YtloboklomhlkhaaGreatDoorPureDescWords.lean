/- Names and paths: the program's and the document's answers are one plain property of bytes. -/
import Derived.Test.YtloboklomhlkhaaGreatDoorBaseQ
namespace Go.Proofs.YtloboklomhlkhaaGreatDoor.Pure
open Go.RowKit Go.Proofs.YtloboklomhlkhaaGreatDoor.D Go.Proofs.YtloboklomhlkhaaGreatDoorW.PrintWords Go.Proofs.YtloboklomhlkhaaGreatDoorW.PrintLast

theorem bt_u {s : ByteArray} {i : Nat} {c : UInt8} {r : List UInt8} (h : s.data.toList.drop i = c :: r) : i < s.size ∧ bt s i = (c.toNat : Int) ∧ s.data.toList.drop (i + 1) = r := by
  have h2 : (bytesOf s).drop i = (c.toNat : Int) :: r.map fun b => (b.toNat : Int) := by unfold bytesOf; rw [← List.map_drop, h]; rfl
  obtain ⟨h3, h4, _⟩ := bt_drop h2
  refine ⟨h3, h4, ?_⟩
  rw [← List.tail_drop, h]; rfl
theorem drop_end {s : ByteArray} {i : Nat} (h : s.data.toList.drop i = []) : s.size ≤ i := by
  rw [List.drop_eq_nil_iff] at h
  rw [← data_length]; exact h
def smallP (x : Int) : Prop := 97 ≤ x ∧ x ≤ 122
def digP (x : Int) : Prop := 48 ≤ x ∧ x ≤ 57
def nameP (x : Int) : Prop := smallP x ∨ digP x ∨ x = 45 ∨ x = 95
def pathP (x : Int) : Prop := nameP x ∨ (65 ≤ x ∧ x ≤ 90) ∨ x = 46
instance (x : Int) : Decidable (smallP x) := by unfold smallP; infer_instance
instance (x : Int) : Decidable (digP x) := by unfold digP; infer_instance
instance (x : Int) : Decidable (nameP x) := by unfold nameP; infer_instance
instance (x : Int) : Decidable (pathP x) := by unfold pathP; infer_instance
def nameC (c : UInt8) : Bool := decide (nameP (c.toNat : Int))
def pathC (c : UInt8) : Bool := decide (pathP (c.toNat : Int))
theorem small_f (x : Int) : bastionref12_small.f x = some (decide (smallP x)) := by
  unfold bastionref12_small.f smallP
  by_cases h : x ≥ 97
  · rw [if_pos h]; congr 1; exact decide_eq_decide.2 ⟨fun h2 => ⟨h, h2⟩, fun h2 => h2.2⟩
  · rw [if_neg h]; congr 1; exact (decide_eq_false (by omega)).symm
theorem digit_f (x : Int) : bastionref12_digit.f x = some (decide (digP x)) := by
  unfold bastionref12_digit.f digP
  by_cases h : x ≥ 48
  · rw [if_pos h]; congr 1; exact decide_eq_decide.2 ⟨fun h2 => ⟨h, h2⟩, fun h2 => h2.2⟩
  · rw [if_neg h]; congr 1; exact (decide_eq_false (by omega)).symm
def nameSet : List UInt8 := [97, 98, 99, 100, 101, 102, 103, 104, 105, 106, 107, 108, 109, 110, 111, 112, 113, 114, 115, 116, 117, 118, 119, 120, 121, 122, 48, 49, 50, 51, 52, 53, 54, 55, 56, 57, 45, 95]
theorem nameSet_fin : ∀ n : Fin 256, nameSet.contains (UInt8.ofNat n.val) = decide (nameP (n.val : Int)) := by decide +kernel
theorem nameSet_c (c : UInt8) : nameSet.contains c = nameC c := by
  have h := nameSet_fin ⟨c.toNat, c.toNat_lt⟩
  simp only [UInt8.ofNat_toNat] at h
  exact h
theorem dropWhile_all {p : UInt8 → Bool} : ∀ l : List UInt8, l.dropWhile p = [] ↔ l.all p = true
  | [] => by simp
  | c :: l => by
    rw [List.dropWhile_cons, List.all_cons]
    by_cases h : p c = true
    · rw [if_pos h, dropWhile_all l, h]; simp
    · rw [if_neg h]; simp [h]
theorem dropWhile_head {p : UInt8 → Bool} : ∀ l : List UInt8, (l.dropWhile p).all p = true → l.dropWhile p = []
  | [], _ => rfl
  | c :: l, h => by
    rw [List.dropWhile_cons] at h ⊢
    by_cases hc : p c = true
    · rw [if_pos hc] at h ⊢; exact dropWhile_head l h
    · rw [if_neg hc] at h; simp [hc] at h
theorem trim_nil (l cs : List UInt8) : Lib.trimS l cs = [] ↔ l.all (cs.contains ·) = true := by
  unfold Lib.trimS Lib.trimLeftS Lib.trimRightS
  rw [dropWhile_all, List.all_reverse]
  constructor
  · intro h
    have := dropWhile_head _ h
    rw [dropWhile_all, List.all_reverse] at this
    exact this
  · intro h
    rw [(dropWhile_all l.reverse).2 (by rw [List.all_reverse]; exact h)]
    rfl
/-- Is it a name? -/
def nameL (l : List UInt8) : Bool := match l with
  | [] => false
  | c :: r => decide ((c :: r).length ≤ 24) && decide (smallP (c.toNat : Int)) && (c :: r).all nameC
theorem nameL_cons (c : UInt8) (r : List UInt8) : nameL (c :: r) = (decide ((c :: r).length ≤ 24) && decide (smallP (c.toNat : Int)) && (c :: r).all nameC) := rfl
theorem toList_u (s : ByteArray) : s.toList = s.data.toList := Lib.toList_data s
theorem size_u (s : ByteArray) : s.size = s.data.toList.length := (data_length s).symm
theorem desc_name (s : ByteArray) : desc_Name.f s = some (nameL s.data.toList) := by
  unfold desc_Name.f
  rw [toList_u]
  cases hl : s.data.toList with
  | nil => rw [if_pos rfl]; rfl
  | cons c r =>
    have hsz : s.size = (c :: r).length := by rw [size_u, hl]
    obtain ⟨h1, h2, _⟩ := bt_u (s := s) (i := 0) (c := c) (r := r) (by rw [List.drop_zero]; exact hl)
    rw [show ((0 : Nat) : Int) = 0 from rfl] at h2
    rw [if_neg (by simp), if_pos (show 0 < (s.size : Int) by omega), h2]
    rw [nameL_cons]
    by_cases h24 : (s.size : Int) > 24
    · rw [if_pos h24, decide_eq_false (by omega)]; rfl
    rw [if_neg h24, decide_eq_true (show (c :: r).length ≤ 24 by omega)]
    by_cases ha : (c.toNat : Int) < 97
    · rw [if_pos ha, decide_eq_false (show ¬ smallP (c.toNat : Int) by simp only [smallP]; omega)]; rfl
    rw [if_neg ha]
    by_cases hb : (c.toNat : Int) > 122
    · rw [if_pos hb, decide_eq_false (show ¬ smallP (c.toNat : Int) by simp only [smallP]; omega)]; rfl
    rw [if_neg hb, decide_eq_true (show smallP (c.toNat : Int) by simp only [smallP]; omega)]
    unfold strings_Trim.f
    rw [if_pos ⟨by omega, by decide, by decide⟩]
    simp only [Option.bind_some, Bool.true_and]
    congr 1
    rw [toList_u, hl]
    show ((Lib.trimS (c :: r) nameSet) == []) = _
    rw [show (c :: r).all nameC = (c :: r).all (nameSet.contains ·) by congr 1; funext x; exact (nameSet_c x).symm]
    by_cases hq : (c :: r).all (nameSet.contains ·) = true
    · rw [hq, (trim_nil _ _).2 hq]; rfl
    · rw [Bool.eq_false_iff.2 hq]
      cases ht : Lib.trimS (c :: r) nameSet with
      | nil => exact absurd ((trim_nil _ _).1 ht) hq
      | cons x y => rfl
theorem ref_name_l (s : ByteArray) (hs : s.size ≤ 24) : ∀ m i k, m = s.size - i → i ≤ s.size → m < k → bastionref12_Name.l0 k s (i : Int) = some ((s.data.toList.drop i).all nameC) := by
  intro m
  induction m with
  | zero =>
    intro i k hm hi hk
    obtain ⟨k, rfl⟩ : ∃ k2, k = k2 + 1 := ⟨k - 1, by omega⟩
    simp only [bastionref12_Name.l0]
    rw [if_neg (by omega), List.drop_eq_nil_of_le (by rw [← size_u]; omega)]
    rfl
  | succ m ih =>
    intro i k hm hi hk
    obtain ⟨k, rfl⟩ : ∃ k2, k = k2 + 1 := ⟨k - 1, by omega⟩
    cases hd : s.data.toList.drop i with
    | nil => have := drop_end hd; omega
    | cons c r =>
      obtain ⟨h1, h2, h3⟩ := bt_u hd
      have hn := ih (i + 1) k (by omega) (by omega) (by omega)
      rw [h3] at hn
      simp only [bastionref12_Name.l0]
      rw [if_pos (by omega), if_pos (by omega), h2, small_f, digit_f, wr1 i (by omega), hn]
      simp only [Option.bind_some, decide_eq_true_eq]
      rw [List.all_cons]
      by_cases hc : nameP (c.toNat : Int)
      · rw [show nameC c = true from decide_eq_true hc, Bool.true_and]
        repeat' split
        all_goals first | rfl | (exfalso; simp only [nameP, smallP, digP] at *; omega)
      · rw [show nameC c = false from decide_eq_false hc, Bool.false_and]
        repeat' split
        all_goals first | rfl | (exfalso; simp only [nameP, smallP, digP] at *; omega)
theorem ref_name (s : ByteArray) (k : Nat) (hk : 100 ≤ k) : bastionref12_Name.f k s = some (nameL s.data.toList) := by
  obtain ⟨k, rfl⟩ : ∃ k2, k = k2 + 2 := ⟨k - 2, by omega⟩
  unfold bastionref12_Name.f
  rw [toList_u]
  simp only [bastionref12_Name.j0]
  cases hl : s.data.toList with
  | nil => rw [if_pos rfl]; rfl
  | cons c r =>
    have hsz : s.size = (c :: r).length := by rw [size_u, hl]
    obtain ⟨h1, h2, _⟩ := bt_u (s := s) (i := 0) (c := c) (r := r) (by rw [List.drop_zero]; exact hl)
    rw [show ((0 : Nat) : Int) = 0 from rfl] at h2
    rw [if_neg (by simp), if_pos (show 0 < (s.size : Int) by omega), h2, small_f]
    rw [nameL_cons]
    by_cases h24 : (s.size : Int) > 24
    · rw [if_pos h24, decide_eq_false (by omega)]; rfl
    rw [if_neg h24, decide_eq_true (show (c :: r).length ≤ 24 by omega)]
    simp only [Option.bind_some, Bool.true_and]
    by_cases ha : smallP (c.toNat : Int)
    · rw [decide_eq_true ha]
      have h := ref_name_l s (by omega) (s.size - 0) 0 (k + 1) rfl (by omega) (by omega)
      rw [List.drop_zero, hl] at h
      exact h
    · rw [decide_eq_false ha]; rfl
/-! paths -/
def specialB (p : List UInt8) : Bool := p == [] || p == [46] || p == [46, 46]
def goodB (p : List UInt8) : Bool := !specialB p && p.all pathC
def pathL (l : List UInt8) : Bool := decide (l.length ≤ 48) && (splitU 47 [] l).all goodB
set_option maxHeartbeats 2000000 in
theorem path_chars (x0 : ByteArray) (p : ByteArray) (xs : List ByteArray) (n j : Int) : ∀ m i k, m = p.size - i → i ≤ p.size → p.size < 4611686018427387903 → ∃ k', k' + m + 1 = k + m + 1 ∧
    desc_Path.l1 (k + m + 1) x0 p xs n j (p.size : Int) (i : Int) = if (p.data.toList.drop i).all pathC = true then desc_Path.l0 k' x0 xs n (wrap64 (j + 1)) else some false := by
  intro m
  induction m with
  | zero =>
    intro i k hm hi hs
    refine ⟨k, rfl, ?_⟩
    simp only [Nat.add_zero, desc_Path.l1]
    rw [if_neg (by omega), List.drop_eq_nil_of_le (by rw [← size_u]; omega)]
    rfl
  | succ m ih =>
    intro i k hm hi hs
    cases hd : p.data.toList.drop i with
    | nil => have := drop_end hd; omega
    | cons c r =>
      obtain ⟨h1, h2, h3⟩ := bt_u hd
      obtain ⟨k', hk', hn⟩ := ih (i + 1) k (by omega) (by omega) hs
      refine ⟨k', by omega, ?_⟩
      rw [h3] at hn
      rw [show k + (m + 1) + 1 = (k + m + 1) + 1 by omega]
      generalize k + m + 1 = K at hn ⊢
      simp only [desc_Path.l1]
      rw [if_pos (by omega), if_pos (by omega), if_pos (by omega), h2, wr1 i (by omega), hn]
      rw [List.all_cons]
      by_cases hc : pathP (c.toNat : Int)
      · rw [show pathC c = true from decide_eq_true hc, Bool.true_and]
        unfold pathP nameP smallP digP at hc
        generalize (if r.all pathC = true then _ else some false : Option Bool) = q
        repeat' split
        all_goals first | rfl | (exfalso; omega)
      · rw [show pathC c = false from decide_eq_false hc, Bool.false_and, show (if (false = true) then desc_Path.l0 k' x0 xs n (wrap64 (j + 1)) else some false : Option Bool) = some false from if_neg (by decide)]
        unfold pathP nameP smallP digP at hc
        generalize (if r.all pathC = true then _ else some false : Option Bool) = q
        repeat' split
        all_goals first | rfl | (exfalso; omega)
def wgt (xs : List ByteArray) : Nat := (xs.map fun b => b.size + 3).sum
theorem wgt_cons (b : ByteArray) (xs : List ByteArray) : wgt (b :: xs) = b.size + 3 + wgt xs := by simp [wgt]
theorem wgt_nil : wgt [] = 0 := rfl
theorem path_parts (x0 : ByteArray) (xs : List ByteArray) (hl : xs.length < 4611686018427387903) (hb : ∀ b ∈ xs, b.size < 4611686018427387903) : ∀ m i k, m = xs.length - i → i ≤ xs.length → wgt (xs.drop i) < k →
    desc_Path.l0 k x0 xs (xs.length : Int) (i : Int) = some ((xs.drop i).all (fun b => goodB b.data.toList) && decide (x0.size ≤ 48)) := by
  intro m
  induction m with
  | zero =>
    intro i k hm hi hk
    obtain ⟨k, rfl⟩ : ∃ k2, k = k2 + 1 := ⟨k - 1, by omega⟩
    simp only [desc_Path.l0]
    rw [if_neg (by omega), List.drop_eq_nil_of_le (by omega)]
    congr 1
    exact decide_eq_decide.2 (by omega)
  | succ m ih =>
    intro i k hm hi hk
    have hlt : i < xs.length := by omega
    have hd : xs.drop i = xs[i] :: xs.drop (i + 1) := List.drop_eq_getElem_cons hlt
    have hrd : rdOf ByteArray.empty xs (i : Int) = xs[i] := by
      unfold rdOf
      rw [show (i : Int).toNat = i from rfl, List.getD_eq_getElem?_getD, List.getElem?_eq_getElem hlt]; rfl
    generalize hp : xs[i] = p at *
    have hps := hb p (by rw [← hp]; exact List.getElem_mem hlt)
    rw [hd, wgt_cons] at hk
    obtain ⟨k, rfl⟩ : ∃ k2, k = k2 + p.size + 1 + 1 + 1 := ⟨k - p.size - 3, by omega⟩
    simp only [desc_Path.l0]
    rw [if_pos (by omega), if_pos (by omega), if_pos (by omega), hrd, hd, List.all_cons, toList_u]
    have hj : ∀ b : Bool, desc_Path.j1 (k + p.size + 1 + 1) x0 p xs (xs.length : Int) (i : Int) b = if b = true then some false else desc_Path.l1 (k + p.size + 1) x0 p xs (xs.length : Int) (i : Int) (p.size : Int) 0 := fun b => by simp only [desc_Path.j1]
    simp only [hj]
    obtain ⟨k', hk', h1⟩ := path_chars x0 p xs (xs.length : Int) (i : Int) p.size 0 k (by omega) (by omega) hps
    obtain rfl : k' = k := by omega
    rw [List.drop_zero, wr1 i (by omega)] at h1
    rw [show ((0 : Nat) : Int) = 0 from rfl] at h1
    rw [h1, ih (i + 1) k' (by omega) (by omega) (by omega)]
    unfold goodB specialB
    by_cases e1 : p.data.toList = []
    · rw [if_pos e1, e1]; rfl
    rw [if_neg e1]
    by_cases e2 : p.data.toList = [46]
    · rw [if_pos e2, e2]; rfl
    rw [if_neg e2, beq_eq_false_iff_ne.2 e1, beq_eq_false_iff_ne.2 e2]
    by_cases e3 : p.data.toList = [46, 46]
    · rw [e3]; rfl
    rw [beq_eq_false_iff_ne.2 e3, if_neg (by decide)]
    by_cases ha : p.data.toList.all pathC = true
    · rw [if_pos ha, ha]; simp
    · rw [if_neg ha, Bool.eq_false_iff.2 ha]; simp
theorem size_mk (l : List UInt8) : (⟨l.toArray⟩ : ByteArray).size = l.length := by show l.toArray.size = _; simp
theorem wgt_split (c : UInt8) : ∀ (l acc : List UInt8), wgt ((splitU c acc l).map fun l => (⟨l.toArray⟩ : ByteArray)) ≤ acc.length + 3 * l.length + 3
  | [], acc => by rw [splitU, List.map_cons, wgt_cons, size_mk, List.map_nil, wgt_nil]; simp
  | x :: l, acc => by
    rw [splitU]
    split
    · rw [List.map_cons, wgt_cons]
      have := wgt_split c l []
      rw [size_mk]
      simp at this ⊢
      omega
    · have := wgt_split c l (acc ++ [x])
      simp at this ⊢
      omega
theorem split_mem (c : UInt8) : ∀ (l acc : List UInt8), ∀ p ∈ splitU c acc l, p.length ≤ acc.length + l.length
  | [], acc, p, h => by simp [splitU] at h; subst h; simp
  | x :: l, acc, p, h => by
    rw [splitU] at h
    split at h
    · rcases List.mem_cons.1 h with rfl | h
      · simp
      · have := split_mem c l [] p h
        simp at this ⊢
        omega
    · have := split_mem c l (acc ++ [x]) p h
      simp at this ⊢
      omega
theorem desc_path (s : ByteArray) (hs : s.size ≤ 4000000) (k : Nat) (hk : 12000100 ≤ k) : desc_Path.f k s = some (pathL s.data.toList) := by
  unfold desc_Path.f strings_Split.f
  rw [if_pos ⟨rfl, by omega⟩]
  simp only [Option.bind_some]
  rw [show (⟨#[47]⟩ : ByteArray).data.toList.headD 0 = 47 from rfl]
  have hw := wgt_split 47 s.data.toList []
  have hl := splitU_length 47 s.data.toList []
  have hc : s.data.toList.count 47 ≤ s.data.toList.length := List.count_le_length
  rw [← size_u] at hw hc
  have h := path_parts s ((splitU 47 [] s.data.toList).map fun l => (⟨l.toArray⟩ : ByteArray)) (by rw [List.length_map, hl]; omega) (fun b hb => by
    obtain ⟨p, hp, rfl⟩ := List.mem_map.1 hb
    have := split_mem 47 s.data.toList [] p hp
    rw [← size_u] at this
    rw [size_mk]
    simp at this
    omega) _ 0 k rfl (by omega) (by rw [List.drop_zero]; simp at hw; omega)
  rw [show ((0 : Nat) : Int) = 0 from rfl] at h
  rw [h, List.drop_zero, List.all_map]
  congr 1
  unfold pathL
  rw [Bool.and_comm, ← size_u]
  rfl
/-- the document's reading of a path, from a part that was begun -/
def goP : List UInt8 → List UInt8 → Bool
  | acc, [] => !specialB acc
  | acc, c :: r => if c = 47 then !specialB acc && goP [] r else pathC c && goP (acc ++ [c]) r
theorem goP_split : ∀ (l acc : List UInt8), acc.all pathC = true → goP acc l = (splitU 47 acc l).all goodB
  | [], acc, h => by simp [goP, splitU, goodB, h]
  | c :: r, acc, h => by
    rw [goP, splitU]
    by_cases hc : c = 47
    · rw [if_pos hc, if_pos hc, List.all_cons, goP_split r [] rfl]; simp [goodB, h]
    · rw [if_neg hc, if_neg hc]
      by_cases hp : pathC c = true
      · rw [hp, Bool.true_and]
        exact goP_split r (acc ++ [c]) (by rw [List.all_append, h]; simp [hp])
      · rw [Bool.eq_false_iff.2 hp, Bool.false_and]
        symm
        have : ∀ (r a : List UInt8), a.all pathC = false → (splitU 47 a r).all goodB = false := by
          intro r
          induction r with
          | nil => intro a ha; simp [splitU, goodB, ha]
          | cons x r ih =>
            intro a ha
            rw [splitU]
            split
            · rw [List.all_cons]; simp [goodB, ha]
            · exact ih _ (by rw [List.all_append, ha, Bool.false_and])
        exact this r _ (by rw [List.all_append]; simp [hp])
theorem u47 (c : UInt8) : ((c.toNat : Int) == 47) = decide (c = 47) := by
  rw [Bool.eq_iff_iff]
  simp only [beq_iff_eq, decide_eq_true_eq]
  constructor
  · intro h; exact UInt8.toNat_inj.1 (by rw [show (47 : UInt8).toNat = 47 from rfl]; omega)
  · intro h; subst h; rfl
set_option maxHeartbeats 2000000 in
theorem ref_path_l (s : ByteArray) (hs : s.size ≤ 48) : ∀ m i k (acc : List UInt8), m = s.size - i → i ≤ s.size → acc.length ≤ i → 2 * m + 2 < k →
    bastionref12_Path.l0 k s ⟨acc.toArray⟩ (i : Int) = some (goP acc (s.data.toList.drop i)) := by
  intro m
  induction m with
  | zero =>
    intro i k acc hm hi ha hk
    obtain ⟨k, rfl⟩ : ∃ k2, k = k2 + 3 := ⟨k - 3, by omega⟩
    simp only [bastionref12_Path.l0]
    rw [if_pos (by omega), if_pos (by omega), List.drop_eq_nil_of_le (by rw [← size_u]; omega)]
    simp only [bastionref12_Path.j1, if_true]
    rw [toList_u]
    unfold goP specialB
    rw [wr1 i (by omega)]
    by_cases e1 : acc = []
    · rw [if_pos e1, e1]; rfl
    rw [if_neg e1, beq_eq_false_iff_ne.2 e1]
    by_cases e2 : acc = [46]
    · rw [if_pos e2, e2]; rfl
    rw [if_neg e2, beq_eq_false_iff_ne.2 e2]
    by_cases e3 : acc = [46, 46]
    · rw [if_pos e3, e3]; rfl
    rw [if_neg e3, beq_eq_false_iff_ne.2 e3]
    simp only [bastionref12_Path.l0]
    rw [if_neg (by omega)]
    rfl
  | succ m ih =>
    intro i k acc hm hi ha hk
    obtain ⟨k, rfl⟩ : ∃ k2, k = k2 + 2 := ⟨k - 2, by omega⟩
    cases hd : s.data.toList.drop i with
    | nil => have := drop_end hd; omega
    | cons c r =>
      obtain ⟨h1, h2, h3⟩ := bt_u hd
      have hext : s.extract i (i + 1) = ⟨#[c]⟩ := by
        apply ByteArray.ext
        apply Array.ext'
        rw [ByteArray.data_extract, Array.toList_extract, List.extract_eq_take_drop, hd]
        simp
      have happ : (⟨acc.toArray⟩ : ByteArray) ++ ⟨#[c]⟩ = ⟨(acc ++ [c]).toArray⟩ := by
        apply ByteArray.ext
        apply Array.ext'
        simp
      have hz : (⟨acc.toArray⟩ : ByteArray).size + (⟨#[c]⟩ : ByteArray).size ≤ 9223372036854775807 := by
        rw [size_mk]
        show acc.length + 1 ≤ _
        omega
      have hn1 := ih (i + 1) k [] (by omega) (by omega) (by simp) (by omega)
      have hn2 := ih (i + 1) k (acc ++ [c]) (by omega) (by omega) (by simp; omega) (by omega)
      rw [h3] at hn1 hn2
      simp only [bastionref12_Path.l0]
      rw [if_pos (by omega), if_neg (by omega), if_pos (by omega), if_pos (by omega), h2, u47]
      simp only [bastionref12_Path.j1]
      rw [wr1 i (by omega), h2, small_f, digit_f, show ((i : Int)).toNat = i from rfl, show (((i + 1 : Nat) : Int)).toNat = i + 1 from rfl, hext, happ, if_pos hz]
      rw [show (⟨([] : List UInt8).toArray⟩ : ByteArray) = ⟨#[]⟩ from rfl] at hn1
      rw [hn1, hn2, toList_u]
      simp only [Option.bind_some, decide_eq_true_eq]
      rw [goP]
      by_cases h47 : c = 47
      · rw [if_pos h47, if_pos h47]
        unfold specialB
        by_cases e1 : acc = []
        · rw [if_pos e1, e1]; rfl
        rw [if_neg e1, beq_eq_false_iff_ne.2 e1]
        by_cases e2 : acc = [46]
        · rw [if_pos e2, e2]; rfl
        rw [if_neg e2, beq_eq_false_iff_ne.2 e2]
        by_cases e3 : acc = [46, 46]
        · rw [if_pos e3, e3]; rfl
        rw [if_neg e3, beq_eq_false_iff_ne.2 e3]
        simp
      rw [if_neg h47, if_neg h47]
      simp only [if_pos (show (i : Int) ≤ ((i + 1 : Nat) : Int) by omega), if_pos (show ((i + 1 : Nat) : Int) ≤ (s.size : Int) by omega), if_pos (show (0 : Int) ≤ (i : Int) by omega), if_pos (show (i : Int) < (s.size : Int) by omega)]
      by_cases hc : pathP (c.toNat : Int)
      · rw [show pathC c = true from decide_eq_true hc, Bool.true_and]
        repeat' split
        all_goals first | rfl | (exfalso; simp only [pathP, nameP, smallP, digP] at *; omega)
      · rw [show pathC c = false from decide_eq_false hc, Bool.false_and]
        repeat' split
        all_goals first | rfl | (exfalso; simp only [pathP, nameP, smallP, digP] at *; omega)
theorem ref_path (s : ByteArray) (k : Nat) (hk : 200 ≤ k) : bastionref12_Path.f k s = some (pathL s.data.toList) := by
  unfold bastionref12_Path.f pathL
  by_cases h : (s.size : Int) > 48
  · rw [if_pos h, decide_eq_false (by rw [← size_u]; omega)]; rfl
  rw [if_neg h, decide_eq_true (by rw [← size_u]; omega), Bool.true_and]
  have := ref_path_l s (by omega) (s.size - 0) 0 k [] rfl (by omega) (by simp) (by omega)
  rw [List.drop_zero, goP_split _ _ rfl] at this
  exact this
theorem DescWords (s : ByteArray) (hs : s.size ≤ 4000000) : ∃ k, bastionlaw12_DescWords.f k s = some true := by
  refine ⟨12000100, ?_⟩
  unfold bastionlaw12_DescWords.f
  rw [desc_name, ref_name s _ (by omega), desc_path s hs _ (by omega), ref_path s _ (by omega)]
  simp only [Option.bind_some]
  rw [if_pos (by simp), if_pos (by simp)]
  rfl
end Go.Proofs.YtloboklomhlkhaaGreatDoor.Pure
