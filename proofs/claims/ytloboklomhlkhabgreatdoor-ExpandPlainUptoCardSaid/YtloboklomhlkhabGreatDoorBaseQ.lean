/- Plain lemmas on bytes, words and rounds. -/
import Derived.Test.YtloboklomhlkhabGreatDoorEx4
namespace Go.Proofs.YtloboklomhlkhabGreatDoor.Pure
open Go.RowKit Go.Proofs.YtloboklomhlkhabGreatDoor.E Go.Proofs.YtloboklomhlkhabGreatDoorW.PrintWords Go.Proofs.YtloboklomhlkhabGreatDoorW.PrintLast

theorem wr (n d : Nat) (h : n + d < 4611686018427387904) : wrap64 ((n : Int) + (d : Int)) = ((n + d : Nat) : Int) := by
  unfold wrap64
  omega
theorem wr1 (n : Nat) (h : n < 4611686018427387903) : wrap64 ((n : Int) + 1) = ((n + 1 : Nat) : Int) := wr n 1 (by omega)

theorem bt_drop {s : ByteArray} {i : Nat} {c : Int} {r : List Int} (h : (bytesOf s).drop i = c :: r) : i < s.size ∧ bt s i = c ∧ (bytesOf s).drop (i + 1) = r := by
  have hlt : i < (bytesOf s).length := by
    by_cases hh : i < (bytesOf s).length
    · exact hh
    · rw [List.drop_eq_nil_of_le (by omega)] at h; cases h
  have hs : i < s.size := by rw [bytesOf_length] at hlt; exact hlt
  refine ⟨hs, ?_, ?_⟩
  · rw [bytes_drop s i hs] at h
    have := (List.cons.inj h).1
    rw [← this]
    simp [bt, hs]
  · rw [bytes_drop s i hs] at h
    exact (List.cons.inj h).2
theorem bt_zero {s : ByteArray} {c : Int} {r : List Int} (h : bytesOf s = c :: r) : 0 < s.size ∧ bt s 0 = c ∧ (bytesOf s).drop 1 = r := bt_drop (i := 0) (by rw [List.drop_zero]; exact h)
theorem toList_nil {s : ByteArray} : s.toList = [] ↔ bytesOf s = [] := by
  rw [Lib.toList_data]
  simp [bytesOf]
theorem bytes_u8 (s : ByteArray) : ∀ x ∈ bytesOf s, 0 ≤ x ∧ x ≤ 255 := by
  intro x hx
  simp only [bytesOf, List.mem_map] at hx
  obtain ⟨b, _, rfl⟩ := hx
  exact ⟨u8_lo b, u8_hi b⟩
theorem bytesOf_strOfNums (l : List Int) (h : ∀ x ∈ l, 0 ≤ x ∧ x ≤ 255) : bytesOf (strOfNums l) = l := by
  unfold strOfNums bytesOf
  simp only [List.map_map]
  have : ∀ m : List Int, (∀ x ∈ m, 0 ≤ x ∧ x ≤ 255) → m.map ((fun b : UInt8 => (b.toNat : Int)) ∘ fun n : Int => UInt8.ofNat n.toNat) = m := by
    intro m
    induction m with
    | nil => intro _; rfl
    | cons a r ih =>
      intro hm
      have h1 := hm a (List.mem_cons_self ..)
      have h2 := ih (fun x hx => hm x (List.mem_cons_of_mem _ hx))
      rw [List.map_cons, h2]
      congr 1
      show ((UInt8.ofNat a.toNat).toNat : Int) = a
      rw [UInt8.toNat_ofNat_of_lt' (by show a.toNat < 256; omega)]
      omega
  exact this l h
theorem ext_drop (s : ByteArray) (i j : Nat) : s.extract i j = strOfNums (((bytesOf s).drop i).take (j - i)) := by
  have h : s.extract i j = strOfNums (bytesOf (s.extract i j)) := (strOfNums_bytesOf _).symm
  rw [h]
  congr 1
  simp only [bytesOf, ByteArray.data_extract, Array.toList_extract, List.extract_eq_take_drop, List.map_drop, List.map_take]
theorem strOfNums_size (l : List Int) : (strOfNums l).size = l.length := by
  rw [← data_length]
  simp [strOfNums]
theorem strOfNums_app (a b : List Int) : strOfNums (a ++ b) = strOfNums a ++ strOfNums b := by
  apply ByteArray.ext
  apply Array.ext'
  simp [strOfNums]
end Go.Proofs.YtloboklomhlkhabGreatDoor.Pure
