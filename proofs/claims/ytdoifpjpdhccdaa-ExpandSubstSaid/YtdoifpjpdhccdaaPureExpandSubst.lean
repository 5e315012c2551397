/- ExpandSubst: the plain law. (under way) -/
import Derived.Test.YtdoifpjpdhccdaaPureExpC
namespace Go.Proofs.Ytdoifpjpdhccdaa.Pure
open Go.RowKit Go.Proofs.Ytdoifpjpdhccdaa.E Go.Proofs.YtdoifpjpdhccdaaW.PrintWords Go.Proofs.YtdoifpjpdhccdaaW.PrintLast
theorem wr_sz (n a b : Nat) (h1 : n < 20000) (h2 : a ≤ 140737488355328) (h3 : b ≤ 140737488355328) : wrap64 ((wrap64 ((wrap64 ((n : Int) + 100)) + (a : Int))) + (b : Int)) = ((n + 100 + a + b : Nat) : Int) := by
  rw [show ((n : Int) + 100) = (n : Int) + ((100 : Nat) : Int) from rfl, wr n 100 (by omega), wr (n + 100) a (by omega), wr (n + 100 + a) b (by omega)]
set_option maxRecDepth 100000 in
theorem large_vars (vars : List S32) (hs : ∀ j : Nat, j < vars.length → (rd_T32 vars j).f0.size ≤ 140737488355328 ∧ (rd_T32 vars j).f1.size ≤ 140737488355328) (hl : vars.length ≤ 4000000000000000000) : ∀ (d i n : Nat), vars.length - i ≤ d → i ≤ vars.length →
    ∃ K b, bastionlaw13_large.l1 K vars n i = some b ∧ (b = false → n + 100 * (vars.length - i) < 20000 ∧ ∀ j : Nat, i ≤ j → j < vars.length → (rd_T32 vars j).f1.size < 20000) := by
  have hend : ∀ n : Nat, ∃ K b, bastionlaw13_large.l1 K vars n (vars.length : Nat) = some b ∧ (b = false → n + 100 * (vars.length - vars.length) < 20000 ∧ ∀ j : Nat, vars.length ≤ j → j < vars.length → (rd_T32 vars j).f1.size < 20000) := by
    intro n
    refine ⟨1, decide ((n : Int) ≥ 20000), ?_, fun h => ⟨?_, fun j h1 h2 => by omega⟩⟩
    · rw [bastionlaw13_large.l1]
      rw [if_neg (by omega)]
    · have := of_decide_eq_false h
      omega
  intro d
  induction d with
  | zero =>
    intro i n hd hi
    obtain rfl : i = vars.length := by omega
    exact hend n
  | succ d ih =>
    intro i n hd hi
    by_cases he : i = vars.length
    · subst he; exact hend n
    by_cases hn : n < 20000
    · obtain ⟨h1, h2⟩ := hs i (by omega)
      obtain ⟨K, b, hK, hb⟩ := ih (i + 1) (n + 100 + (rd_T32 vars i).f0.size + (rd_T32 vars i).f1.size) (by omega) (by omega)
      refine ⟨K + 1, b, ?_, fun hbf => ?_⟩
      · rw [bastionlaw13_large.l1]
        rw [if_pos (by omega), if_pos (by omega), if_pos (by omega), wr_sz n _ _ hn h1 h2, wr1 i (by omega)]
        exact hK
      · obtain ⟨h3, h4⟩ := hb hbf
        refine ⟨by omega, fun j hj1 hj2 => ?_⟩
        by_cases hj : j = i
        · subst hj; omega
        · exact h4 j (by omega) hj2
    · refine ⟨1, true, ?_, fun h => by cases h⟩
      rw [bastionlaw13_large.l1]
      rw [if_pos (by omega), if_neg (by omega), decide_eq_true (by omega)]
set_option maxRecDepth 100000 in
theorem large_f (t : ByteArray) (ht : t.size ≤ 140737488355328) (vars : List S32) (hs : ∀ j : Nat, j < vars.length → (rd_T32 vars j).f0.size ≤ 140737488355328 ∧ (rd_T32 vars j).f1.size ≤ 140737488355328) (hl : vars.length ≤ 4000000000000000000) :
    ∃ K b, bastionlaw13_large.f K [(⟨(⟨#[]⟩ : ByteArray), t⟩ : S25)] vars = some b ∧ (b = false → t.size < 20000 ∧ vars.length ≤ 200 ∧ ∀ j : Nat, j < vars.length → (rd_T32 vars j).f1.size < 20000) := by
  obtain ⟨K, b, hK, hb⟩ := large_vars vars hs hl vars.length 0 (100 + t.size) (by omega) (by omega)
  refine ⟨K + 1 + 1 + 1, b, ?_, fun h => ?_⟩
  · unfold bastionlaw13_large.f
    have h25 : rd_T25 [(⟨(⟨#[]⟩ : ByteArray), t⟩ : S25)] 0 = ⟨⟨#[]⟩, t⟩ := rfl
    have h0 : wrap64 ((wrap64 ((wrap64 ((0 : Int) + 100)) + ((0 : Nat) : Int))) + (t.size : Int)) = ((100 + t.size : Nat) : Int) := by
      have := wr_sz 0 0 t.size (by omega) (by omega) ht
      rw [show ((0 : Nat) : Int) = (0 : Int) from rfl] at this
      rw [show ((0 : Nat) : Int) = (0 : Int) from rfl, this, Nat.zero_add, Nat.add_zero]
    rw [bastionlaw13_large.l0]
    rw [if_pos (by rw [List.length_singleton]; decide), if_pos (by decide), if_pos (by decide), h25]
    dsimp only
    rw [show (⟨#[]⟩ : ByteArray).size = 0 from rfl, h0, show wrap64 ((0 : Int) + 1) = 1 from wr1 0 (by omega)]
    rw [bastionlaw13_large.l0]
    rw [if_neg (by rw [List.length_singleton]; decide)]
    rw [bastionlaw13_large.j1]
    exact hK
  · obtain ⟨h1, h2⟩ := hb h
    exact ⟨by omega, by omega, fun j hj => h2 j (by omega) hj⟩
theorem lookR_size (vars : List S32) (id : ByteArray) : ∀ n : Nat, (∀ j : Nat, j < n → (rd_T32 vars j).f1.size < 20000) → (lookR vars id n).1.size ≤ 20000
  | 0, _ => by rw [lookR]; exact Nat.zero_le _
  | n + 1, h => by
    rw [lookR]
    split
    · have := h n (by omega)
      exact Nat.le_of_lt this
    · exact lookR_size vars id n (fun j hj => h j (by omega))
theorem ExpandSubst (t : ByteArray) (ht : t.size ≤ 140737488355328) (vars : List S32) (hs : ∀ j : Nat, j < vars.length → (rd_T32 vars j).f0.size ≤ 140737488355328 ∧ (rd_T32 vars j).f1.size ≤ 140737488355328) (hl : vars.length ≤ 4000000000000000000) :
    ∃ k, bastionlaw13_ExpandSubst.f k t vars = some true := by
  obtain ⟨K, b, hK, hb⟩ := large_f t ht vars hs hl
  cases b with
  | true =>
    refine ⟨K, ?_⟩
    unfold bastionlaw13_ExpandSubst.f
    rw [hK]
    rfl
  | false =>
    obtain ⟨h1, h2, h3⟩ := hb rfl
    have hv : ∀ id, (lookR vars id vars.length).1.size ≤ 20000 := fun id => lookR_size vars id _ h3
    obtain ⟨n, r, hn, hA⟩ := substA vars hv (t.size + 1) t [] (by omega) (by omega) (by rw [List.length_nil]; omega)
    obtain ⟨K2, hB⟩ := substB t (by omega) vars (by omega) hv n 0 [] r (by omega) (by rw [List.length_nil]; omega) (by rw [List.drop_zero]; exact hn)
    refine ⟨K + K2, ?_⟩
    unfold bastionlaw13_ExpandSubst.f
    rw [at_rounds (g := fun k => bastionlaw13_large.f k _ vars) (fun k => bastionlaw13_large.mono _ _ k) (Nat.le_add_right K K2) hK]
    have hB' : bastionref13_Subst.f K2 t vars = some r := hB
    simp only [Option.bind_some]
    rw [if_neg (by decide), at_rounds (g := fun k => bastionref13_Subst.f k t vars) (fun k => bastionref13_Subst.mono _ _ k) (Nat.le_add_left K2 K) hB']
    have hA' : expand_Subst.f t vars = some r := by
      unfold expand_Subst.f
      rw [if_pos (by omega)]
      exact hA
    rw [hA']
    simp only [Option.bind_some]
    rw [if_pos trivial, beq_self_eq_true]
end Go.Proofs.Ytdoifpjpdhccdaa.Pure
