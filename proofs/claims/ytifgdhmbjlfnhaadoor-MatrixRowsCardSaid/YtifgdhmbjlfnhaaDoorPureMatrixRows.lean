/- MatrixRows, without the program. -/
import Derived.Test.YtifgdhmbjlfnhaaDoorBaseQ
namespace Go.Proofs.YtifgdhmbjlfnhaaDoor.Pure
open Go.RowKit Go.Proofs.YtifgdhmbjlfnhaaDoor.M Go.Proofs.YtifgdhmbjlfnhaaDoorW.PrintWords Go.Proofs.YtifgdhmbjlfnhaaDoorW.PrintLast
theorem awake0 : bastionlaw14_awake.f 100 = some true := by decide +kernel
theorem awakeAt (k : Nat) (hk : 100 ≤ k) : bastionlaw14_awake.f k = some true := at_rounds (g := fun k => bastionlaw14_awake.f k) (fun k => bastionlaw14_awake.mono k) hk awake0
theorem rdA (B : List S42) (i : Nat) (p : S42) (P : List S42) (h : B.drop i = p :: P) : i < B.length ∧ rd_T42 B i = p ∧ B.drop (i + 1) = P := by
  have hi : i < B.length := by
    rcases Nat.lt_or_ge i B.length with h1 | h1
    · exact h1
    · rw [List.drop_eq_nil_of_le h1] at h; cases h
  rw [List.drop_eq_getElem_cons hi] at h
  injection h with h1 h2
  refine ⟨hi, ?_, h2⟩
  unfold rd_T42
  rw [Int.toNat_natCast, List.getD_eq_getElem?_getD, List.getElem?_eq_getElem hi, Option.getD_some, h1]
def prodL : List Nat → Nat
  | [] => 1
  | n :: l => n * prodL l
theorem prodL_pos : ∀ l : List Nat, (∀ n ∈ l, 0 < n) → 0 < prodL l
  | [], _ => Nat.one_pos
  | n :: l, h => Nat.mul_pos (h n (List.mem_cons_self ..)) (prodL_pos l (fun m hm => h m (List.mem_cons_of_mem _ hm)))
theorem sum_same {α : Type} (c : Nat) : ∀ v : List α, (v.map fun _ => c).sum = v.length * c
  | [] => by simp
  | x :: v => by rw [List.map_cons, List.sum_cons, sum_same c v, List.length_cons, Nat.succ_mul, Nat.add_comm]
theorem allRows_len : ∀ vs : List (List ByteArray), (allRows vs).length = prodL (vs.map List.length)
  | [] => rfl
  | v :: vs => by
    rw [allRows, List.map_cons, prodL, ← allRows_len vs, List.length_flatMap]
    simp only [List.length_map]
    exact sum_same _ v
theorem prodL_mem : ∀ (l : List Nat), (∀ n ∈ l, 0 < n) → ∀ n ∈ l, n ≤ prodL l
  | m :: l, h, n, hn => by
    have hp := prodL_pos l (fun q hq => h q (List.mem_cons_of_mem _ hq))
    have hm := h m (List.mem_cons_self ..)
    rw [prodL]
    rcases List.mem_cons.1 hn with rfl | hn
    · exact Nat.le_mul_of_pos_right _ hp
    · exact Nat.le_trans (prodL_mem l (fun q hq => h q (List.mem_cons_of_mem _ hq)) n hn) (Nat.le_mul_of_pos_left _ hm)
theorem chk_prod : ∀ (l : List S49) (seen : List (List UInt8)) (n : Nat), 1 ≤ n → chkL l seen n = 0 → (∀ x ∈ l, 0 < x.f1.length) ∧ n * prodL (l.map (·.f1.length)) ≤ 24
  | [], seen, n, h1, h => by
    rw [chkL] at h
    split at h
    · omega
    · refine ⟨fun x hx => (by cases hx), ?_⟩
      show n * 1 ≤ 24
      omega
  | x :: l, seen, n, h1, h => by
    rw [chkL] at h
    split at h
    · omega
    · split at h
      · omega
      · rename_i h2 h3
        by_cases h4 : n ≤ 24
        · rw [if_pos (by omega)] at h
          have hm : (n : Int) * min (x.f1.length : Int) 25 = ((n * min x.f1.length 25 : Nat) : Int) := by
            rw [Int.natCast_mul]
            congr 1
            omega
          rw [hm] at h
          have hpos : 0 < n * min x.f1.length 25 := Nat.mul_pos h1 (by omega)
          obtain ⟨ha, hb⟩ := chk_prod l _ _ hpos h
          have hp := prodL_pos (l.map (·.f1.length)) (fun m hm => by obtain ⟨y, hy, rfl⟩ := List.mem_map.1 hm; exact ha y hy)
          have hle : n * min x.f1.length 25 ≤ 24 := Nat.le_trans (Nat.le_mul_of_pos_right _ hp) hb
          have hx : min x.f1.length 25 = x.f1.length := by
            rcases Nat.lt_or_ge x.f1.length 25 with h5 | h5
            · omega
            · rw [Nat.min_eq_right h5] at hle
              omega
          rw [hx] at hb
          refine ⟨fun y hy => ?_, ?_⟩
          · rcases List.mem_cons.1 hy with rfl | hy
            · omega
            · exact ha y hy
          · rw [List.map_cons, prodL, ← Nat.mul_assoc]
            exact hb
        · rw [if_neg (by omega)] at h
          obtain ⟨_, hb⟩ := chk_prod l _ _ h1 h
          have hp : 0 < prodL (l.map (·.f1.length)) := by
            rcases Nat.eq_zero_or_pos (prodL (l.map (·.f1.length))) with h0 | h0
            · obtain ⟨ha, _⟩ := chk_prod l _ _ h1 h
              exact prodL_pos _ (fun m hm => by obtain ⟨y, hy, rfl⟩ := List.mem_map.1 hm; exact ha y hy)
            · exact h0
          have := Nat.le_trans (Nat.le_mul_of_pos_right n hp) hb
          omega
theorem allRows_mem : ∀ (vs : List (List ByteArray)) (r : List ByteArray), r ∈ allRows vs → r.length = vs.length
  | [], r, h => by
    rw [allRows, List.mem_singleton] at h
    subst h
    rfl
  | v :: vs, r, h => by
    rw [allRows] at h
    obtain ⟨x, hx, h⟩ := List.mem_flatMap.1 h
    obtain ⟨q, hq, rfl⟩ := List.mem_map.1 h
    rw [List.length_cons, List.length_cons, allRows_mem vs q hq]
def toG (x : S42) : S49 := ⟨x.f0, x.f1⟩
theorem givenGo (l : List S42) (hb : ∀ x ∈ l, x.f1.length ≤ 8796093021952) : ∀ (P : List S42) (i : Nat) (acc : List S49), l.drop i = P → i ≤ l.length → i + P.length ≤ 4000000 → acc.length + P.length ≤ 4000000 → ∃ K, bastionlaw14_given.l0 K l acc i = some (acc ++ P.map toG) := by
  intro P
  induction P with
  | nil =>
    intro i acc hP hi hn h
    have hle : l.length ≤ i := List.drop_eq_nil_iff.1 hP
    refine ⟨1, ?_⟩
    simp only [bastionlaw14_given.l0]
    rw [if_neg (by omega), List.map_nil, List.append_nil]
  | cons x P ih =>
    intro i acc hP hi hn h
    rw [List.length_cons] at h hn
    obtain ⟨hlt, hx, hP'⟩ := rdA l i x P hP
    have hx2 := hb x (List.mem_of_mem_drop (by rw [hP]; exact List.mem_cons_self ..))
    obtain ⟨K, hK⟩ := ih (i + 1) (acc ++ [⟨x.f0, x.f1⟩]) hP' (by omega) (by omega) (by rw [List.length_append, List.length_singleton]; omega)
    refine ⟨K + 1, ?_⟩
    simp only [bastionlaw14_given.l0]
    rw [if_pos (by omega), if_pos (by omega), hx]
    simp only [Option.bind_some]
    rw [if_pos (by rw [List.length_nil]; omega), if_pos (by omega), wr1 i (by omega), List.nil_append, hK, List.map_cons, List.append_assoc, List.singleton_append]
    rfl
theorem given_f (l : List S42) (hl : l.length ≤ 3000) (hb : ∀ x ∈ l, x.f1.length ≤ 8796093021952) : ∃ K, bastionlaw14_given.f K l = some (l.map toG) := by
  obtain ⟨K, hK⟩ := givenGo l hb l 0 [] rfl (Nat.zero_le _) (by omega) (by rw [List.length_nil]; omega)
  exact ⟨K, hK⟩
theorem largeGo (l : List S42) (hb : ∀ i : Nat, i < l.length → (rd_T42 l i).f0.size ≤ 140737488351232 ∧ (rd_T42 l i).f1.length ≤ 140737488351232 ∧ ∀ j : Nat, (rdOf ByteArray.empty (rd_T42 l i).f1 j).size ≤ 140737488351232) : ∀ (m i N : Nat), 100 - i ≤ m → i ≤ 100 → l.length ≤ N → N ≤ 140737488351232 + i * (102 * 140737488351232) → ∃ K b, bastionlaw14_large.l0 K l N i = some b ∧ (b = false → l.length ≤ 3000) := by
  have hend : ∀ N : Nat, l.length ≤ N → decide ((N : Int) > 3000) = false → l.length ≤ 3000 := fun N hN h => by
    have := of_decide_eq_false h
    omega
  intro m
  induction m with
  | zero =>
    intro i N hm hi hN hN2
    refine ⟨2, decide ((N : Int) > 3000), ?_, hend N hN⟩
    have hd : decide ((i : Int) < 100) = false := decide_eq_false (by omega)
    simp only [bastionlaw14_large.l0, bastionlaw14_large.j1]
    split
    · rw [hd, if_neg (by decide)]
    · rw [if_neg (by decide)]
  | succ m ih =>
    intro i N hm hi hN hN2
    by_cases h100 : i < 100 ∧ i < l.length
    case neg =>
      refine ⟨2, decide ((N : Int) > 3000), ?_, hend N hN⟩
      simp only [bastionlaw14_large.l0, bastionlaw14_large.j1]
      split
      · rw [show decide ((i : Int) < 100) = false from decide_eq_false (by omega), if_neg (by decide)]
      · rw [if_neg (by decide)]
    obtain ⟨h1, h2⟩ := h100
    obtain ⟨b0, b1, b2⟩ := hb i h2
    have hin : ∀ (n j y : Nat), 100 - j ≤ n → j ≤ 100 → l.length ≤ y → y ≤ 140737488351232 + i * (102 * 140737488351232) + 2 * 140737488351232 + j * 140737488351232 → ∃ K b, bastionlaw14_large.l1 K l y i j = some b ∧ (b = false → l.length ≤ 3000) := by
      intro n
      induction n with
      | zero =>
        intro j y hn hj hy hy2
        obtain ⟨K, b, hK, hf⟩ := ih (i + 1) y (by omega) (by omega) hy (by
          have : j = 100 := by omega
          subst this
          omega)
        refine ⟨K + 1, b, ?_, hf⟩
        simp only [bastionlaw14_large.l1]
        rw [if_pos (by omega), if_pos (by omega), if_neg (show ¬ ((j : Int) < 100) by omega), wr1 i (by omega), ite_self]
        exact hK
      | succ n ihn =>
        intro j y hn hj hy hy2
        by_cases hc : j < (rd_T42 l i).f1.length ∧ j < 100
        · have hs := b2 j
          generalize hz : (rdOf ByteArray.empty ((rd_T42 l i).f1) j).size = z at hs
          obtain ⟨K, b, hK, hf⟩ := ihn (j + 1) (y + z) (by omega) (by omega) (by omega) (by omega)
          refine ⟨K + 1, b, ?_, hf⟩
          simp only [bastionlaw14_large.l1]
          rw [if_pos (by omega), if_pos (by omega), if_pos (by omega), if_pos (by omega), if_pos (by omega), wr1 j (by omega), hz, wr y z (by omega)]
          exact hK
        · obtain ⟨K, b, hK, hf⟩ := ih (i + 1) y (by omega) (by omega) hy (by omega)
          refine ⟨K + 1, b, ?_, hf⟩
          simp only [bastionlaw14_large.l1]
          rw [if_pos (by omega), if_pos (by omega), wr1 i (by omega)]
          by_cases hj1 : (j : Int) < ((rd_T42 l i).f1.length : Int)
          · rw [if_pos hj1, if_neg (by omega)]
            exact hK
          · rw [if_neg hj1]
            exact hK
    generalize hz1 : (rd_T42 l i).f1.length = z1 at b1
    generalize hz0 : (rd_T42 l i).f0.size = z0 at b0
    obtain ⟨K, b, hK, hf⟩ := hin 100 0 (N + z1 + z0) (by omega) (by omega) (by omega) (by omega)
    refine ⟨K + 1 + 1, b, ?_, hf⟩
    simp only [bastionlaw14_large.l0]
    rw [if_pos (by omega)]
    simp only [bastionlaw14_large.j1]
    rw [show decide ((i : Int) < 100) = true from decide_eq_true (by omega), if_pos rfl, if_pos (by omega), if_pos (by omega), hz1, hz0, wr N z1 (by omega), wr (N + z1) z0 (by omega)]
    exact hK
theorem longGo (l : List ByteArray) : ∀ (m i : Nat) (x3 : Int), 1000 - i ≤ m → i ≤ 1000 → ∃ K b, bastionlaw14_long.l0 K l x3 i = some b := by
  intro m
  induction m with
  | zero =>
    intro i x3 hm hi
    refine ⟨1, decide (x3 > 3000), ?_⟩
    rw [bastionlaw14_long.l0]
    rw [if_neg (show ¬ ((i : Int) < 1000) by omega), ite_self]
  | succ m ih =>
    intro i x3 hm hi
    by_cases h1 : i < l.length
    · by_cases h2 : i < 1000
      · obtain ⟨K, b, hK⟩ := ih (i + 1) (wrap64 (x3 + ((rdOf ByteArray.empty l i).size : Int))) (by omega) (by omega)
        refine ⟨K + 1, b, ?_⟩
        rw [bastionlaw14_long.l0]
        rw [if_pos (by omega), if_pos (by omega), if_pos (by omega), wr1 i (by omega)]
        exact hK
      · refine ⟨1, decide (x3 > 3000), ?_⟩
        rw [bastionlaw14_long.l0]
        rw [if_neg (show ¬ ((i : Int) < 1000) by omega), ite_self]
    · refine ⟨1, decide (x3 > 3000), ?_⟩
      rw [bastionlaw14_long.l0]
      rw [if_neg (by omega)]
theorem rowsR_V : ∀ (l : List S42) (rows : List (List ByteArray)), rowsR l rows = rowsV (l.map (·.f1)) rows
  | [], _ => rfl
  | x :: l, rows => by rw [rowsR, rowsR_V l, List.map_cons, rowsV]; rfl
theorem rowsOk_of : ∀ (l : List S42) (rows : List (List ByteArray)), (∀ x ∈ l, 0 < x.f1.length) → 0 < rows.length → rows.length * prodL (l.map (·.f1.length)) ≤ 24 → rowsOk l rows = true
  | [], _, _, _, _ => rfl
  | x :: l, rows, h, hr, hp => by
    rw [List.map_cons, prodL, ← Nat.mul_assoc] at hp
    have hpos := prodL_pos (l.map (·.f1.length)) (fun m hm => by obtain ⟨y, hy, rfl⟩ := List.mem_map.1 hm; exact h y (List.mem_cons_of_mem _ hy))
    have hx := h x (List.mem_cons_self ..)
    have h1 : rows.length * x.f1.length ≤ 24 := Nat.le_trans (Nat.le_mul_of_pos_right _ hpos) hp
    have h2 : rows.length ≤ 24 := Nat.le_trans (Nat.le_mul_of_pos_right _ hx) h1
    have h3 : x.f1.length ≤ 24 := Nat.le_trans (Nat.le_mul_of_pos_left _ hr) h1
    rw [rowsOk, decide_eq_true ⟨by omega, by omega, by omega⟩, Bool.true_and]
    exact rowsOk_of l _ (fun y hy => h y (List.mem_cons_of_mem _ hy)) (by rw [rowStep_len]; exact Nat.mul_pos hr hx) (by rw [rowStep_len]; exact hp)
section
variable (l : List S42) (hl : l.length ≤ 3000)
include hl
theorem chk_in (n : Int) (i : Nat) (hi : i < l.length) : ∀ (d k : Nat), i - k ≤ d → (∃ q, k ≤ q ∧ q < i ∧ (rd_T42 l q).f0.toList = (rd_T42 l i).f0.toList) → ∃ K, K ≤ d + 1 ∧ bastionref14_Check.l1 K l n i k = some 6 := by
  intro d
  induction d with
  | zero =>
    intro k hd ⟨q, h1, h2, _⟩
    omega
  | succ d ih =>
    intro k hd ⟨q, h1, h2, h3⟩
    by_cases hk : (rd_T42 l k).f0.toList = (rd_T42 l i).f0.toList
    · refine ⟨1, by omega, ?_⟩
      simp only [bastionref14_Check.l1]
      rw [if_pos (by omega), if_pos (by omega), if_pos (by omega), if_pos (by omega), if_pos (by omega), if_pos hk]
    · have hqk : q ≠ k := fun e => hk (by rw [← e]; exact h3)
      obtain ⟨K, hK1, hK⟩ := ih (k + 1) (by omega) ⟨q, by omega, h2, h3⟩
      refine ⟨K + 1, by omega, ?_⟩
      simp only [bastionref14_Check.l1]
      rw [if_pos (by omega), if_pos (by omega), if_pos (by omega), if_pos (by omega), if_pos (by omega), if_neg hk, wr1 k (by omega)]
      exact hK
theorem chk_out (n : Int) (i : Nat) (hi : i < l.length) (hno : ∀ q, q < i → (rd_T42 l q).f0.toList ≠ (rd_T42 l i).f0.toList) (r : Int) (K0 : Nat)
    (h : (if (((rd_T42 l i).f1).length : Int) = 0 then (some 1) else (bastionref14_Check.l0 K0 l (mn (wrap64 (n * (mn (((rd_T42 l i).f1).length : Int) 25))) 25) ((i + 1 : Nat) : Int))) = some r) : ∀ (d k : Nat), i - k ≤ d → k ≤ i → ∃ K, K ≤ K0 + d + 1 ∧ bastionref14_Check.l1 K l n i k = some r := by
  intro d
  induction d with
  | zero =>
    intro k hd hk
    obtain rfl : k = i := by omega
    refine ⟨K0 + 1, by omega, ?_⟩
    simp only [bastionref14_Check.l1]
    rw [if_neg (by omega), if_pos (by omega), if_pos (by omega), wr1 k (by omega)]
    exact h
  | succ d ih =>
    intro k hd hk
    by_cases hki : k = i
    · subst hki
      refine ⟨K0 + 1, by omega, ?_⟩
      simp only [bastionref14_Check.l1]
      rw [if_neg (by omega), if_pos (by omega), if_pos (by omega), wr1 k (by omega)]
      exact h
    · obtain ⟨K, hK1, hK⟩ := ih (k + 1) (by omega) (by omega)
      refine ⟨K + 1, by omega, ?_⟩
      simp only [bastionref14_Check.l1]
      rw [if_pos (by omega), if_pos (by omega), if_pos (by omega), if_pos (by omega), if_pos (by omega), if_neg (hno k (by omega)), wr1 k (by omega)]
      exact hK
theorem chk_go : ∀ (P : List S42) (i nc : Nat) (seen : List (List UInt8)), l.drop i = P → i ≤ l.length → 1 ≤ nc → (∀ s, s ∈ seen ↔ ∃ q, q < i ∧ (rd_T42 l q).f0.toList = s) →
    ∃ K, K ≤ P.length * (l.length + 2) + 1 ∧ bastionref14_Check.l0 K l ((min nc 25 : Nat) : Int) i = some (chkL (P.map toG) seen nc) := by
  intro P
  induction P with
  | nil =>
    intro i nc seen hP hi hn hs
    have hle : l.length ≤ i := List.drop_eq_nil_iff.1 hP
    refine ⟨1, by omega, ?_⟩
    simp only [bastionref14_Check.l0]
    rw [if_neg (by omega), List.map_nil, chkL]
    by_cases h : 24 < nc
    · rw [if_pos (by omega), if_pos (by omega)]
    · rw [if_neg (by omega), if_neg (by omega)]
  | cons x P ih =>
    intro i nc seen hP hi hn hs
    obtain ⟨hlt, hx, hP'⟩ := rdA l i x P hP
    have hmem : x.f0.data.toList ∈ seen ↔ ∃ q, q < i ∧ (rd_T42 l q).f0.toList = (rd_T42 l i).f0.toList := by
      rw [hs, hx, Lib.toList_data x.f0]
    rw [List.map_cons, chkL]
    have hcnt : (x :: P).length * (l.length + 2) + 1 = (P.length * (l.length + 2) + 1) + (l.length + 2) := by
      rw [List.length_cons, Nat.succ_mul]; omega
    rw [hcnt]
    by_cases hin : x.f0.data.toList ∈ seen
    · obtain ⟨q, hq1, hq2⟩ := hmem.1 hin
      obtain ⟨K, hK1, hK⟩ := chk_in l hl ((min nc 25 : Nat) : Int) i hlt i 0 (by omega) ⟨q, by omega, hq1, hq2⟩
      refine ⟨K + 1, by omega, ?_⟩
      simp only [bastionref14_Check.l0]
      rw [if_pos (by omega), if_pos (show (toG x).f0.data.toList ∈ seen from hin)]
      exact hK
    · rw [if_neg (show ¬ (toG x).f0.data.toList ∈ seen from hin)]
      have hno : ∀ q, q < i → (rd_T42 l q).f0.toList ≠ (rd_T42 l i).f0.toList := fun q hq he => hin (hmem.2 ⟨q, hq, he⟩)
      by_cases h0 : x.f1.length = 0
      · obtain ⟨K, hK1, hK⟩ := chk_out l hl ((min nc 25 : Nat) : Int) i hlt hno 1 0 (by rw [hx, if_pos (by omega)]) i 0 (by omega) (by omega)
        refine ⟨K + 1, by omega, ?_⟩
        simp only [bastionref14_Check.l0]
        rw [if_pos (by omega), if_pos (show (toG x).f1.length = 0 from h0)]
        exact hK
      · rw [if_neg (show ¬ (toG x).f1.length = 0 from h0)]
        obtain ⟨nc2, hnc2⟩ : ∃ q : Nat, q = if nc ≤ 24 then nc * min x.f1.length 25 else nc := ⟨_, rfl⟩
        have hnp : 0 < nc * min x.f1.length 25 := Nat.mul_pos hn (by omega)
        have hnc : (if (nc : Int) ≤ 24 then (nc : Int) * min ((toG x).f1.length : Int) 25 else (nc : Int)) = (nc2 : Int) := by
          rw [hnc2]
          by_cases h24 : nc ≤ 24
          · rw [if_pos (by omega), if_pos h24, Int.natCast_mul]
            congr 1
            show min (x.f1.length : Int) 25 = _
            omega
          · rw [if_neg (by omega), if_neg h24]
        rw [hnc]
        obtain ⟨K0, hK01, hK0⟩ := ih (i + 1) nc2 (x.f0.data.toList :: seen) hP' (by omega) (by rw [hnc2]; split <;> omega) (fun s => by
          rw [List.mem_cons, hs]
          constructor
          · rintro (rfl | ⟨q, hq1, hq2⟩)
            · exact ⟨i, by omega, by rw [hx, Lib.toList_data]⟩
            · exact ⟨q, by omega, hq2⟩
          · rintro ⟨q, hq1, hq2⟩
            by_cases hqi : q = i
            · left
              rw [← hq2, hqi, hx, Lib.toList_data]
            · exact .inr ⟨q, by omega, hq2⟩)
        have hmul : mn (wrap64 (((min nc 25 : Nat) : Int) * (mn (x.f1.length : Int) 25))) 25 = ((min nc2 25 : Nat) : Int) := by
          have hm1 : mn (x.f1.length : Int) 25 = ((min x.f1.length 25 : Nat) : Int) := by unfold mn; split <;> omega
          rw [hm1, ← Int.natCast_mul]
          have hle : min nc 25 * min x.f1.length 25 ≤ 25 * 25 := Nat.mul_le_mul (Nat.min_le_right _ _) (Nat.min_le_right _ _)
          have hw : wrap64 ((min nc 25 * min x.f1.length 25 : Nat) : Int) = ((min nc 25 * min x.f1.length 25 : Nat) : Int) := by
            generalize min nc 25 * min x.f1.length 25 = z at *
            unfold wrap64
            omega
          rw [hw]
          have hge : min nc 25 ≤ min nc 25 * min x.f1.length 25 := Nat.le_mul_of_pos_right _ (by omega)
          have h3 : min (min nc 25 * min x.f1.length 25) 25 = min nc2 25 := by
            rw [hnc2]
            by_cases h24 : nc ≤ 24
            · rw [if_pos h24, Nat.min_eq_left (show nc ≤ 25 by omega)]
            · rw [if_neg h24]
              rw [Nat.min_eq_right (show 25 ≤ nc by omega)] at hge ⊢
              omega
          rw [← h3]
          generalize min nc 25 * min x.f1.length 25 = z
          unfold mn
          split <;> omega
        obtain ⟨K, hK1, hK⟩ := chk_out l hl ((min nc 25 : Nat) : Int) i hlt hno _ K0 (by rw [hx, if_neg (by omega), hmul]; exact hK0) i 0 (by omega) (by omega)
        refine ⟨K + 1, by omega, ?_⟩
        simp only [bastionref14_Check.l0]
        rw [if_pos (by omega)]
        exact hK
theorem chk_f : bastionref14_Check.f 10000000 l = some (chkL (l.map toG) [] 1) := by
  obtain ⟨K, hK1, hK⟩ := chk_go l hl l 0 1 [] rfl (Nat.zero_le _) (Nat.le_refl _) (fun s => ⟨fun h => (by cases h), fun ⟨q, hq, _⟩ => by omega⟩)
  have hle : l.length * (l.length + 2) ≤ 3000 * 3002 := Nat.mul_le_mul hl (by omega)
  exact at_rounds (g := fun k => bastionref14_Check.f k l) (fun k => bastionref14_Check.mono l k) (show K ≤ 10000000 by omega) hK
end
theorem same_self (p : List (List ByteArray)) (hp : p.length ≤ 4000000) (hr : ∀ i : Nat, (rd_L1 p i).length ≤ 4000000) : ∀ (m i : Nat), p.length - i ≤ m → i ≤ p.length → ∃ K, bastionref14_Same.l0 K p p i = some true := by
  intro m
  induction m with
  | zero =>
    intro i hm hi
    refine ⟨1, ?_⟩
    simp only [bastionref14_Same.l0]
    rw [if_neg (by omega)]
  | succ m ih =>
    intro i hm hi
    by_cases hil : i = p.length
    · refine ⟨1, ?_⟩
      simp only [bastionref14_Same.l0]
      rw [if_neg (by omega)]
    obtain ⟨K0, hK0⟩ := ih (i + 1) (by omega) (by omega)
    have hrow := hr i
    have hin : ∀ (n j : Nat), (rd_L1 p i).length - j ≤ n → j ≤ (rd_L1 p i).length → ∃ K, bastionref14_Same.l1 K p p i j = some true := by
      intro n
      induction n with
      | zero =>
        intro j hn hj
        refine ⟨K0 + 1, ?_⟩
        simp only [bastionref14_Same.l1]
        rw [if_pos (by omega), if_pos (by omega), if_neg (by omega), wr1 i (by omega)]
        exact hK0
      | succ n ihn =>
        intro j hn hj
        by_cases hjl : j = (rd_L1 p i).length
        · refine ⟨K0 + 1, ?_⟩
          simp only [bastionref14_Same.l1]
          rw [if_pos (by omega), if_pos (by omega), if_neg (by omega), wr1 i (by omega)]
          exact hK0
        · obtain ⟨K, hK⟩ := ihn (j + 1) (by omega) (by omega)
          refine ⟨K + 1, ?_⟩
          simp only [bastionref14_Same.l1]
          rw [if_pos (by omega), if_pos (by omega), if_pos (by omega), if_pos (by omega), if_pos (by omega), if_pos (by omega), if_pos trivial, wr1 j (by omega)]
          exact hK
    obtain ⟨K, hK⟩ := hin (rd_L1 p i).length 0 (by omega) (by omega)
    refine ⟨K + 1, ?_⟩
    simp only [bastionref14_Same.l0]
    rw [if_pos (by omega), if_pos (by omega), if_pos (by omega), if_pos trivial]
    exact hK
def varAt (l : List S42) (row : List ByteArray) (i : Nat) : S39 := ⟨(rd_T42 l i).f0, rdOf ByteArray.empty row i⟩
theorem rdG (l : List S42) (i : Nat) (hi : i < l.length) : (rd_T49 (l.map toG) i).f0 = (rd_T42 l i).f0 := by
  unfold rd_T49 rd_T42
  rw [Int.toNat_natCast, List.getD_eq_getElem?_getD, List.getD_eq_getElem?_getD, List.getElem?_map, List.getElem?_eq_getElem hi]
  rfl
theorem varsA (l : List S42) (hl : l.length ≤ 3000) (row : List ByteArray) (n : Nat) (hn : n = min l.length row.length) : ∀ (m i : Nat) (acc : List S39), n - i ≤ m → i ≤ n → acc.length = i → ∃ K, matrix_Vars.l0 K (l.map toG) row acc n i = some (acc ++ (List.range' i (n - i)).map (varAt l row)) := by
  intro m
  induction m with
  | zero =>
    intro i acc hm hi ha
    refine ⟨1, ?_⟩
    simp only [matrix_Vars.l0]
    rw [if_neg (by omega), show n - i = 0 by omega, List.range'_zero, List.map_nil, List.append_nil]
  | succ m ih =>
    intro i acc hm hi ha
    by_cases hin : i = n
    · refine ⟨1, ?_⟩
      simp only [matrix_Vars.l0]
      rw [if_neg (by omega), show n - i = 0 by omega, List.range'_zero, List.map_nil, List.append_nil]
    · obtain ⟨K, hK⟩ := ih (i + 1) (acc ++ [varAt l row i]) (by omega) (by omega) (by rw [List.length_append, List.length_singleton, ha])
      refine ⟨K + 1, ?_⟩
      simp only [matrix_Vars.l0]
      rw [if_pos (by omega), if_pos (by omega), if_pos (by rw [List.length_map]; omega), if_pos (by omega), if_pos (by omega), wr1 i (by omega), rdG l i (by omega)]
      rw [show n - i = (n - (i + 1)) + 1 by omega, List.range'_succ, List.map_cons]
      rw [List.append_assoc, List.singleton_append] at hK
      exact hK
theorem varsB (l : List S42) (hl : l.length ≤ 3000) (row : List ByteArray) (n : Nat) (hn : n = min l.length row.length) : ∀ (m i : Nat) (acc : List S39), n - i ≤ m → i ≤ n → acc.length = i → ∃ K, bastionref14_Vars.l0 K l row acc i = some (acc ++ (List.range' i (n - i)).map (varAt l row)) := by
  have hend : ∀ acc : List S39, bastionref14_Vars.l0 1 l row acc n = some acc := fun acc => by
    simp only [bastionref14_Vars.l0]
    by_cases h : n < l.length
    · rw [if_pos (by omega), if_neg (by omega)]
    · rw [if_neg (by omega)]
  intro m
  induction m with
  | zero =>
    intro i acc hm hi ha
    obtain rfl : i = n := by omega
    refine ⟨1, ?_⟩
    rw [hend, Nat.sub_self, List.range'_zero, List.map_nil, List.append_nil]
  | succ m ih =>
    intro i acc hm hi ha
    by_cases hin : i = n
    · subst hin
      refine ⟨1, ?_⟩
      rw [hend, Nat.sub_self, List.range'_zero, List.map_nil, List.append_nil]
    · obtain ⟨K, hK⟩ := ih (i + 1) (acc ++ [varAt l row i]) (by omega) (by omega) (by rw [List.length_append, List.length_singleton, ha])
      refine ⟨K + 1, ?_⟩
      simp only [bastionref14_Vars.l0]
      rw [if_pos (by omega), if_pos (by omega), if_pos (by omega), if_pos (by omega), wr1 i (by omega)]
      rw [show n - i = (n - (i + 1)) + 1 by omega, List.range'_succ, List.map_cons]
      rw [List.append_assoc, List.singleton_append] at hK
      exact hK
theorem rd_in (l : List S42) (i : Nat) (hi : i < l.length) : rd_T42 l i ∈ l := by
  unfold rd_T42
  rw [Int.toNat_natCast, List.getD_eq_getElem?_getD, List.getElem?_eq_getElem hi]
  exact List.getElem_mem hi
theorem MatrixRows (l : List S42) (row : List ByteArray) (hl : l.length ≤ 140737488351232) (hx : ∀ x ∈ l, x.f0.size ≤ 140737488351232 ∧ x.f1.length ≤ 8796093021952 ∧ ∀ s ∈ x.f1, s.size ≤ 140737488351232) : ∃ k, bastionlaw14_MatrixRows.Good k l row := by
  obtain ⟨K1, b, hb, hb3⟩ := largeGo l (fun i hi => by
    obtain ⟨h1, h2, h3⟩ := hx _ (rd_in l i hi)
    refine ⟨h1, by omega, fun j => ?_⟩
    unfold rdOf
    rw [Int.toNat_natCast, List.getD_eq_getElem?_getD]
    cases hj : (rd_T42 l i).f1[j]? with
    | none => exact Nat.zero_le _
    | some s => exact h3 s (List.mem_of_getElem? hj)) 100 0 l.length (by omega) (by omega) (by omega) (by omega)
  obtain ⟨K2, b2, hb2⟩ := longGo row 1000 0 row.length (by omega) (by omega)
  cases b with
  | true =>
    exact ⟨K1 + 100, awakeAt _ (by omega), .inl (at_rounds (g := fun k => bastionlaw14_large.f k l) (fun k => bastionlaw14_large.mono l k) (show K1 ≤ K1 + 100 by omega) hb)⟩
  | false =>
  have hl3 := hb3 rfl
  cases b2 with
  | true =>
    exact ⟨K1 + K2 + 100, awakeAt _ (by omega), .inr ⟨at_rounds (g := fun k => bastionlaw14_large.f k l) (fun k => bastionlaw14_large.mono l k) (show K1 ≤ K1 + K2 + 100 by omega) hb, .inl (at_rounds (g := fun k => bastionlaw14_long.f k row) (fun k => bastionlaw14_long.mono row k) (show K2 ≤ K1 + K2 + 100 by omega) hb2)⟩⟩
  | false =>
  obtain ⟨K3, hg⟩ := given_f l hl3 (fun x h => (hx x h).2.1)
  have hLf : (l.map toG).map (·.f1) = l.map (·.f1) := by rw [List.map_map]; rfl
  have hLn : (l.map toG).map (·.f1.length) = l.map (·.f1.length) := by rw [List.map_map]; rfl
  have hcheck : matrix_check.f (l.map toG) = some (chkL (l.map toG) [] 1) := by
    unfold matrix_check.f
    rw [if_pos ⟨by rw [List.length_map]; omega, List.all_eq_true.2 (fun x hm => by
      obtain ⟨y, hy, rfl⟩ := List.mem_map.1 hm
      have := (hx y hy).1
      exact decide_eq_true (by show y.f0.size ≤ _; omega))⟩]
  have hrows : ∃ rows e, matrix_Rows.f (l.map toG) = some (rows, e) ∧ bastionref14_Rows.f l = some (rows, e) ∧ rows.length ≤ 1000000 ∧ ∀ r ∈ rows, r.length ≤ 3000 := by
    by_cases he : chkL (l.map toG) [] 1 = 0
    · obtain ⟨h1, h2⟩ := chk_prod (l.map toG) [] 1 (by omega) he
      rw [hLn] at h2
      have h1' : ∀ x ∈ l, 0 < x.f1.length := fun x hm => h1 (toG x) (List.mem_map.2 ⟨x, hm, rfl⟩)
      have hlen : (allRows (l.map (·.f1))).length ≤ 24 := by
        rw [allRows_len, List.map_map]
        show prodL (l.map (·.f1.length)) ≤ 24
        omega
      refine ⟨allRows (l.map (·.f1)), 0, ?_, ?_, by omega, fun r hr => by rw [allRows_mem _ r hr, List.length_map]; exact hl3⟩
      · unfold matrix_Rows.f
        rw [hcheck, he]
        simp only [Option.bind_some]
        rw [hLf, if_pos ⟨by rw [List.length_map]; omega, fun _ => ⟨fun v hv => by
          obtain ⟨y, hy, rfl⟩ := List.mem_map.1 hv
          have h5 := prodL_mem (l.map (·.f1.length)) (fun n hn => by obtain ⟨z, hz, rfl⟩ := List.mem_map.1 hn; exact h1' z hz) y.f1.length (List.mem_map.2 ⟨y, hy, rfl⟩)
          exact ⟨h1' y hy, by omega⟩, by omega⟩⟩, if_pos trivial]
      · unfold bastionref14_Rows.f
        rw [chk_f l hl3, he]
        simp only [Option.bind_some]
        rw [if_pos ⟨by omega, fun _ => rowsOk_of l [[]] h1' (by decide) (by rw [List.length_singleton]; exact h2)⟩, if_pos trivial, rowsR_V, rowsV_nil]
    · refine ⟨[], chkL (l.map toG) [] 1, ?_, ?_, by simp, fun r hr => by cases hr⟩
      · unfold matrix_Rows.f
        rw [hcheck]
        simp only [Option.bind_some]
        rw [if_pos ⟨by rw [List.length_map]; omega, fun h => absurd h he⟩, if_neg he]
      · unfold bastionref14_Rows.f
        rw [chk_f l hl3]
        simp only [Option.bind_some]
        rw [if_pos ⟨by omega, fun h => absurd h he⟩, if_neg he]
  obtain ⟨rows, e, hR1, hR2, hrl, hrr⟩ := hrows
  have hget : ∀ i : Nat, (rows.getD i []).length ≤ 3000 := fun i => by
    rw [List.getD_eq_getElem?_getD]
    cases hj : rows[i]? with
    | none => exact Nat.zero_le _
    | some s => exact hrr s (List.mem_of_getElem? hj)
  obtain ⟨K4, hS⟩ := same_self rows (by omega) (fun i => by
    have := hget i
    unfold rd_L1
    rw [Int.toNat_natCast]
    omega) rows.length 0 (by omega) (by omega)
  obtain ⟨n, hn⟩ : ∃ n, n = min l.length row.length := ⟨_, rfl⟩
  obtain ⟨K5, hA⟩ := varsA l hl3 row n hn n 0 [] (by omega) (by omega) rfl
  obtain ⟨K6, hB⟩ := varsB l hl3 row n hn n 0 [] (by omega) (by omega) rfl
  have hmn : mn ((l.map toG).length : Int) (row.length : Int) = (n : Int) := by
    rw [List.length_map, hn]
    unfold mn
    split <;> omega
  have hSf : bastionref14_Same.f K4 rows rows = some true := by
    unfold bastionref14_Same.f
    rw [if_pos rfl]
    exact hS
  have hAf : matrix_Vars.f K5 (l.map toG) row = some ((List.range' 0 (n - 0)).map (varAt l row)) := by
    unfold matrix_Vars.f
    rw [hmn]
    exact hA
  have hBf : bastionref14_Vars.f K6 l row = some ((List.range' 0 (n - 0)).map (varAt l row)) := hB
  obtain ⟨Q, q1, q2, q3, q4, q5, q6, q7⟩ : ∃ Q, K1 ≤ Q ∧ K2 ≤ Q ∧ K3 ≤ Q ∧ K4 ≤ Q ∧ K5 ≤ Q ∧ K6 ≤ Q ∧ 100 ≤ Q := ⟨K1 + K2 + K3 + K4 + K5 + K6 + 100, by omega, by omega, by omega, by omega, by omega, by omega, by omega⟩
  refine ⟨Q, awakeAt Q q7, .inr ⟨at_rounds (g := fun k => bastionlaw14_large.f k l) (fun k => bastionlaw14_large.mono l k) q1 hb, .inr ⟨at_rounds (g := fun k => bastionlaw14_long.f k row) (fun k => bastionlaw14_long.mono row k) q2 hb2, l.map toG, rows, e, _,
    at_rounds (g := fun k => bastionlaw14_given.f k l) (fun k => bastionlaw14_given.mono l k) q3 hg, hR1, hR2,
    at_rounds (g := fun k => bastionref14_Same.f k rows rows) (fun k => bastionref14_Same.mono rows rows k) q4 hSf,
    at_rounds (g := fun k => matrix_Vars.f k (l.map toG) row) (fun k => matrix_Vars.mono (l.map toG) row k) q5 hAf,
    at_rounds (g := fun k => bastionref14_Vars.f k l row) (fun k => bastionref14_Vars.mono l row k) q6 hBf, hrl, fun i => by have := hget i; omega, by rw [List.length_map, List.length_range']; omega⟩⟩⟩
end Go.Proofs.YtifgdhmbjlfnhaaDoor.Pure
