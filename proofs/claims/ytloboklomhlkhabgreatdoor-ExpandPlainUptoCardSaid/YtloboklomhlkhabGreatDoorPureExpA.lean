/- The run of a name's bytes: expand.run, without the program. (under way) -/
import Derived.Test.YtloboklomhlkhabGreatDoorBaseQ
namespace Go.Proofs.YtloboklomhlkhabGreatDoor.Pure
open Go.RowKit Go.Proofs.YtloboklomhlkhabGreatDoor.E Go.Proofs.YtloboklomhlkhabGreatDoorW.PrintWords Go.Proofs.YtloboklomhlkhabGreatDoorW.PrintLast
def letterI (x : Int) : Bool := decide (97 ≤ x) && decide (x ≤ 122)
def markI (x : Int) : Bool := letterI x || (decide (48 ≤ x) && decide (x ≤ 57)) || decide (x = 45) || decide (x = 95)
def marksL : List Int → Nat
  | [] => 0
  | x :: l => if markI x = true then marksL l + 1 else 0
def runL : List Int → Nat
  | [] => 0
  | x :: l => if letterI x = true then marksL l + 1 else 0
theorem marksL_le : ∀ l : List Int, marksL l ≤ l.length
  | [] => Nat.le_refl _
  | x :: l => by
    unfold marksL
    have := marksL_le l
    split
    · rw [List.length_cons]; omega
    · omega
theorem runL_le (l : List Int) : runL l ≤ l.length := by
  cases l with
  | nil => exact Nat.le_refl _
  | cons x l =>
    have h := marksL_le l
    show (if letterI x = true then marksL l + 1 else 0) ≤ l.length + 1
    split <;> omega
theorem mark_if (x : Int) (a b : Option Int) : (if x ≥ 97 then (if x ≤ 122 then a else (if x ≥ 48 then (if x ≤ 57 then a else (if x = 45 then a else (if x = 95 then a else b))) else (if x = 45 then a else (if x = 95 then a else b)))) else (if x ≥ 48 then (if x ≤ 57 then a else (if x = 45 then a else (if x = 95 then a else b))) else (if x = 45 then a else (if x = 95 then a else b)))) = if markI x = true then a else b := by
  by_cases h1 : 97 ≤ x <;> by_cases h2 : x ≤ 122 <;> by_cases h3 : 48 ≤ x <;> by_cases h4 : x ≤ 57 <;> by_cases h5 : x = 45 <;> by_cases h6 : x = 95 <;> simp [markI, letterI, h1, h2, h3, h4, h5, h6]
theorem runGo (s : ByteArray) (hs : s.size ≤ 4000000) : ∀ (m i : Nat), s.size - i ≤ m → i ≤ s.size → ∃ K, K ≤ m + 1 ∧ expand_run.l0 K s i = some ((i + marksL ((bytesOf s).drop i) : Nat) : Int) := by
  intro m
  induction m with
  | zero =>
    intro i hm hi
    refine ⟨1, by omega, ?_⟩
    simp only [expand_run.l0]
    rw [if_neg (by omega), List.drop_eq_nil_of_le (by rw [bytesOf_length]; omega)]
    rfl
  | succ m ih =>
    intro i hm hi
    cases hd : (bytesOf s).drop i with
    | nil =>
      have h1 := List.drop_eq_nil_iff.1 hd
      rw [bytesOf_length] at h1
      refine ⟨1, by omega, ?_⟩
      simp only [expand_run.l0]
      rw [if_neg (by omega)]
      rfl
    | cons x l =>
      obtain ⟨hlt, hx, hd'⟩ := bt_drop hd
      obtain ⟨K, hKm, hK⟩ := ih (i + 1) (by omega) (by omega)
      rw [hd'] at hK
      refine ⟨K + 1, by omega, ?_⟩
      simp only [expand_run.l0]
      rw [if_pos (by omega), if_pos (by omega), hx, mark_if, wr1 i (by omega), hK]
      by_cases hmk : markI x = true
      · rw [if_pos hmk, marksL, if_pos hmk]
        congr 2
        omega
      · rw [if_neg hmk, marksL, if_neg hmk, Nat.add_zero]
theorem run_f (s : ByteArray) (hs : s.size ≤ 4000000) : ∃ K, K ≤ s.size + 2 ∧ expand_run.f K s = some ((runL (bytesOf s) : Nat) : Int) := by
  cases hb : bytesOf s with
  | nil =>
    refine ⟨1, by omega, ?_⟩
    unfold expand_run.f
    rw [if_pos (toList_nil.2 hb)]
    rfl
  | cons x l =>
    obtain ⟨hlt, hx, hd⟩ := bt_zero hb
    have hne : ¬ s.toList = [] := fun h => by rw [toList_nil.1 h] at hb; cases hb
    obtain ⟨K, hKm, hK⟩ := runGo s hs s.size 1 (by omega) (by omega)
    rw [hd] at hK
    refine ⟨K + 1, by omega, ?_⟩
    unfold expand_run.f
    rw [if_neg hne, if_pos (by omega), hx]
    show _ = some (((if letterI x = true then marksL l + 1 else 0 : Nat)) : Int)
    by_cases h1 : x < 97
    · rw [if_pos h1, if_neg (by unfold letterI; simp; omega)]
      rfl
    · rw [if_neg h1]
      by_cases h2 : x > 122
      · rw [decide_eq_true h2, if_neg (by unfold letterI; simp; omega)]
        rfl
      · rw [decide_eq_false h2, if_pos (by unfold letterI; simp; omega)]
        simp only [expand_run.j0]
        rw [if_neg (by decide)]
        rw [show ((1 : Nat) : Int) = 1 from rfl] at hK
        rw [hK]
        congr 2
        omega
theorem hasP (s : ByteArray) (c : UInt8) : strings_HasPrefix.f s ⟨#[c]⟩ = some (match bytesOf s with | [] => false | x :: _ => x == (c.toNat : Int)) := by
  unfold strings_HasPrefix.f stringslite_HasPrefix.f
  have hz : (⟨#[c]⟩ : ByteArray).size = 1 := rfl
  rw [hz]
  cases hb : bytesOf s with
  | nil =>
    have h0 : s.size = 0 := by rw [← bytesOf_length, hb]; rfl
    rw [if_neg (by omega)]
    rfl
  | cons x l =>
    obtain ⟨hlt, hx, hd⟩ := bt_zero hb
    rw [if_pos (show (s.size : Int) ≥ ((1 : Nat) : Int) by omega), if_pos (show (0 : Int) ≤ ((1 : Nat) : Int) by decide), if_pos (show ((1 : Nat) : Int) ≤ (s.size : Int) by omega)]
    simp only [Option.bind_some]
    congr 1
    have h1 : s.extract 0 1 = strOfNums [x] := by
      rw [ext_drop, List.drop_zero, hb]
      rfl
    have hu := bytes_u8 s x (by rw [hb]; exact List.mem_cons_self ..)
    show ((s.extract 0 1).toList == (⟨#[c]⟩ : ByteArray).toList) = (x == (c.toNat : Int))
    rw [h1, Lib.toList_data, Lib.toList_data]
    have hc := c.toNat_lt
    by_cases hxc : x = (c.toNat : Int)
    · subst hxc
      simp [strOfNums]
    · rw [beq_eq_false_iff_ne.2 hxc, beq_eq_false_iff_ne]
      intro he
      have := congrArg (List.map UInt8.toNat) he
      simp [strOfNums] at this
      omega
def headIs (c : Int) : List Int → Bool
  | [] => false
  | x :: _ => x == c
theorem hasP' (s : ByteArray) (c : UInt8) : strings_HasPrefix.f s ⟨#[c]⟩ = some (headIs (c.toNat : Int) (bytesOf s)) := by
  rw [hasP]
  cases bytesOf s <;> rfl
def nameAt (br : Bool) (l : List Int) : Option (List Int × Nat) :=
  if runL l = 0 ∨ 24 < runL l then none else if br = true ∧ headIs 125 (l.drop (runL l)) = false then none else some (l.take (runL l), runL l + if br = true then 2 else 0)
def nameL (l : List Int) : Option (List Int × Nat) := if headIs 123 l = true then nameAt true (l.drop 1) else nameAt false l
def outN : Option (List Int × Nat) → ByteArray × Int × Bool
  | none => (⟨#[]⟩, 0, false)
  | some p => (strOfNums p.1, (p.2 : Int), true)
theorem name_j (br : Bool) (s : ByteArray) (hs : s.size ≤ 4000000) : ∃ K, K ≤ s.size + 3 ∧ expand_name.j0 K s (if br = true then 2 else 0) = some (outN (nameAt br (bytesOf s))) := by
  obtain ⟨K, hKm, hK⟩ := run_f s hs
  have hle := runL_le (bytesOf s)
  rw [bytesOf_length] at hle
  refine ⟨K + 1, by omega, ?_⟩
  simp only [expand_name.j0]
  rw [hK]
  simp only [Option.bind_some]
  have he : s.extract (runL (bytesOf s)) s.size = strOfNums ((bytesOf s).drop (runL (bytesOf s))) := (strOfNums_drop s _).symm
  have hx : s.extract 0 (runL (bytesOf s)) = strOfNums ((bytesOf s).take (runL (bytesOf s))) := by rw [ext_drop, List.drop_zero, Nat.sub_zero]
  have hbk : bytesOf (strOfNums ((bytesOf s).drop (runL (bytesOf s)))) = (bytesOf s).drop (runL (bytesOf s)) := bytesOf_strOfNums _ (fun x hx => bytes_u8 s x (List.mem_of_mem_drop hx))
  unfold nameAt
  generalize hn : runL (bytesOf s) = n at *
  by_cases h0 : n = 0
  · subst h0
    rw [if_pos (show ((0 : Nat) : Int) = 0 from rfl), if_pos (.inl rfl)]
    rfl
  rw [if_neg (show ¬ (n : Int) = 0 by omega)]
  by_cases h24 : 24 < n
  · rw [if_pos (show (n : Int) > 24 by omega), if_pos (.inr h24)]
    rfl
  rw [if_neg (show ¬ (n : Int) > 24 by omega), if_neg (show ¬ (n = 0 ∨ 24 < n) by omega)]
  cases br with
  | true =>
    simp only [if_true]
    rw [if_pos (show (2 : Int) > 0 by decide), if_pos (show (0 : Int) ≤ (n : Int) by omega), if_pos (show (n : Int) ≤ (s.size : Int) by omega), Int.toNat_natCast, he, show (⟨#[125]⟩ : ByteArray) = ⟨#[(125 : UInt8)]⟩ from rfl, hasP', hbk]
    simp only [Option.bind_some]
    cases hh : headIs 125 ((bytesOf s).drop n) with
    | true =>
      rw [show headIs (((125 : UInt8).toNat : Nat) : Int) ((bytesOf s).drop n) = true from hh, if_pos rfl, if_neg (by simp), hx]
      have hw : wrap64 ((n : Int) + 2) = ((n + 2 : Nat) : Int) := wr n 2 (by omega)
      rw [hw]
      rfl
    | false =>
      rw [show headIs (((125 : UInt8).toNat : Nat) : Int) ((bytesOf s).drop n) = false from hh, if_neg (by decide), if_pos ⟨trivial, rfl⟩]
      rfl
  | false =>
    simp only [Bool.false_eq_true, if_false]
    rw [if_neg (show ¬ (0 : Int) > 0 by decide), if_pos (show (0 : Int) ≤ (n : Int) by omega), if_pos (show (n : Int) ≤ (s.size : Int) by omega), Int.toNat_natCast, hx, if_neg (by simp)]
    have hw : wrap64 ((n : Int) + 0) = ((n + 0 : Nat) : Int) := wr n 0 (by omega)
    rw [hw]
    rfl
theorem name_f (s : ByteArray) (hs : s.size ≤ 4000000) : ∃ K, K ≤ s.size + 3 ∧ expand_name.f K s = some (outN (nameL (bytesOf s))) := by
  unfold nameL
  by_cases h : headIs 123 (bytesOf s) = true
  · have h1 : 1 ≤ s.size := by
      cases hb : bytesOf s with
      | nil => rw [hb] at h; cases h
      | cons x l => exact (bt_zero hb).1
    obtain ⟨K, hKm, hK⟩ := name_j true (s.extract 1 s.size) (by rw [ByteArray.size_extract]; omega)
    rw [ByteArray.size_extract] at hKm
    rw [bytesOf_tail] at hK
    refine ⟨K, by omega, ?_⟩
    unfold expand_name.f
    rw [show (⟨#[123]⟩ : ByteArray) = ⟨#[(123 : UInt8)]⟩ from rfl, hasP']
    simp only [Option.bind_some]
    rw [show headIs (((123 : UInt8).toNat : Nat) : Int) (bytesOf s) = true from h, if_pos rfl, if_pos (by omega), if_pos h]
    exact hK
  · have h' : headIs 123 (bytesOf s) = false := Bool.eq_false_iff.2 h
    obtain ⟨K, hKm, hK⟩ := name_j false s hs
    refine ⟨K, by omega, ?_⟩
    unfold expand_name.f
    rw [show (⟨#[123]⟩ : ByteArray) = ⟨#[(123 : UInt8)]⟩ from rfl, hasP']
    simp only [Option.bind_some]
    rw [show headIs (((123 : UInt8).toNat : Nat) : Int) (bytesOf s) = false from h', if_neg (by decide), h', if_neg (by decide)]
    exact hK
end Go.Proofs.YtloboklomhlkhabGreatDoor.Pure
