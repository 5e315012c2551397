/- MatrixCounts, without the program. -/
import Derived.Test.YtifgdhmbjlfnhaaDoorPureMatrixLabels
import Derived.Test.YtifgdhmbjlfnhaaDoorMx9
namespace Go.Proofs.YtifgdhmbjlfnhaaDoor.Pure
open Go.RowKit Go.Proofs.YtifgdhmbjlfnhaaDoor.M Go.Proofs.YtifgdhmbjlfnhaaDoorW.PrintWords Go.Proofs.YtifgdhmbjlfnhaaDoorW.PrintLast

def totA (l : List S42) : Nat := (l.map fun x => x.f0.size + 1 + tot x.f1 + 1).sum
theorem totA_cons (x : S42) (l : List S42) : totA (x :: l) = x.f0.size + 1 + tot x.f1 + 1 + totA l := by simp [totA]
theorem totA_len : ∀ l : List S42, 2 * l.length ≤ totA l
  | [] => Nat.zero_le _
  | x :: l => by rw [totA_cons, List.length_cons]; have := totA_len l; omega
theorem totA_mem : ∀ {l : List S42} {x : S42}, x ∈ l → x.f0.size + 1 + tot x.f1 ≤ totA l
  | y :: l, x, h => by
    rw [totA_cons]
    rcases List.mem_cons.1 h with rfl | h
    · omega
    · have := totA_mem h; omega
theorem rdA (B : List S42) (i : Nat) (p : S42) (P : List S42) (h : B.drop i = p :: P) : i < B.length ∧ rd_T42 B i = p ∧ B.drop (i + 1) = P := by
  have hi : i < B.length := by
    rcases Nat.lt_or_ge i B.length with h1 | h1
    · exact h1
    · rw [List.drop_eq_nil_of_le h1] at h; cases h
  rw [List.drop_eq_getElem_cons hi] at h
  injection h with h1 h2
  refine ⟨hi, ?_, h2⟩
  unfold rd_T42
  rw [Int.toNat_natCast, List.getD_eq_getElem?_getD, List.getElem?_eq_getElem hi, Option.getD_some, h1]
theorem tot_one {B : List ByteArray} {b : ByteArray} (h : b ∈ B) : b.size + 1 ≤ tot B := by
  induction B with
  | nil => cases h
  | cons c B ih =>
    rw [tot_cons]
    rcases List.mem_cons.1 h with rfl | h
    · omega
    · have := ih h; omega
theorem toList_inj {s t : ByteArray} (h : s.toList = t.toList) : s = t := by
  rw [Lib.toList_data, Lib.toList_data] at h
  cases s
  cases t
  congr 1
  exact Array.ext' h
def prodL : List Nat → Nat
  | [] => 1
  | n :: l => n * prodL l
theorem prodL_pos : ∀ l : List Nat, (∀ n ∈ l, 0 < n) → 0 < prodL l
  | [], _ => Nat.one_pos
  | n :: l, h => Nat.mul_pos (h n (List.mem_cons_self ..)) (prodL_pos l (fun m hm => h m (List.mem_cons_of_mem _ hm)))
theorem sum_same {α : Type} (c : Nat) : ∀ v : List α, (v.map fun _ => c).sum = v.length * c
  | [] => by simp
  | x :: v => by rw [List.map_cons, List.sum_cons, sum_same c v, List.length_cons, Nat.succ_mul, Nat.add_comm]
theorem allRows_len : ∀ vs : List (List ByteArray), (allRows vs).length = prodL (vs.map List.length)
  | [] => rfl
  | v :: vs => by
    rw [allRows, List.map_cons, prodL, ← allRows_len vs, List.length_flatMap]
    simp only [List.length_map]
    exact sum_same _ v
theorem prodL_mem : ∀ (l : List Nat), (∀ n ∈ l, 0 < n) → ∀ n ∈ l, n ≤ prodL l
  | m :: l, h, n, hn => by
    have hp := prodL_pos l (fun q hq => h q (List.mem_cons_of_mem _ hq))
    have hm := h m (List.mem_cons_self ..)
    rw [prodL]
    rcases List.mem_cons.1 hn with rfl | hn
    · exact Nat.le_mul_of_pos_right _ hp
    · exact Nat.le_trans (prodL_mem l (fun q hq => h q (List.mem_cons_of_mem _ hq)) n hn) (Nat.le_mul_of_pos_left _ hm)
theorem allRows_mem : ∀ (vs : List (List ByteArray)) (r : List ByteArray), r ∈ allRows vs → r.length = vs.length ∧ tot r ≤ (vs.map tot).sum
  | [], r, h => by
    rw [allRows, List.mem_singleton] at h
    subst h
    exact ⟨rfl, Nat.le_refl _⟩
  | v :: vs, r, h => by
    rw [allRows] at h
    obtain ⟨x, hx, h⟩ := List.mem_flatMap.1 h
    obtain ⟨q, hq, rfl⟩ := List.mem_map.1 h
    obtain ⟨h1, h2⟩ := allRows_mem vs q hq
    refine ⟨by rw [List.length_cons, List.length_cons, h1], ?_⟩
    rw [tot_cons, List.map_cons, List.sum_cons]
    have : x.size + 1 ≤ tot v := tot_one hx
    omega
theorem allRows_nodup : ∀ vs : List (List ByteArray), (∀ v ∈ vs, v.Nodup) → (allRows vs).Nodup
  | [], _ => by rw [allRows]; simp
  | v :: vs, h => by
    rw [allRows]
    have ih := allRows_nodup vs (fun w hw => h w (List.mem_cons_of_mem _ hw))
    have hv := h v (List.mem_cons_self ..)
    clear h
    induction v with
    | nil => simp
    | cons x v ihv =>
      rw [List.flatMap_cons, List.nodup_append]
      rw [List.nodup_cons] at hv
      refine ⟨?_, ihv hv.2, ?_⟩
      · exact List.Pairwise.map _ (fun a b hab h => hab (by injection h)) ih
      · intro a ha b hb hab
        subst hab
        obtain ⟨p, _, rfl⟩ := List.mem_map.1 ha
        obtain ⟨y, hy, h⟩ := List.mem_flatMap.1 hb
        obtain ⟨q, _, h⟩ := List.mem_map.1 h
        injection h with h1 _
        exact hv.1 (h1 ▸ hy)
theorem chk_prod : ∀ (l : List S49) (seen : List (List UInt8)) (n : Nat), 1 ≤ n → chkL l seen n = 0 → (∀ x ∈ l, 0 < x.f1.length) ∧ n * prodL (l.map (·.f1.length)) ≤ 24
  | [], seen, n, h1, h => by
    rw [chkL] at h
    split at h
    · omega
    · refine ⟨fun x hx => (by cases hx), ?_⟩
      show n * 1 ≤ 24
      omega
  | x :: l, seen, n, h1, h => by
    rw [chkL] at h
    split at h
    · omega
    · split at h
      · omega
      · rename_i h2 h3
        by_cases h4 : n ≤ 24
        · rw [if_pos (by omega)] at h
          have hm : (n : Int) * min (x.f1.length : Int) 25 = ((n * min x.f1.length 25 : Nat) : Int) := by
            rw [Int.natCast_mul]
            congr 1
            omega
          rw [hm] at h
          have hpos : 0 < n * min x.f1.length 25 := Nat.mul_pos h1 (by omega)
          obtain ⟨ha, hb⟩ := chk_prod l _ _ hpos h
          have hp := prodL_pos (l.map (·.f1.length)) (fun m hm => by obtain ⟨y, hy, rfl⟩ := List.mem_map.1 hm; exact ha y hy)
          have hle : n * min x.f1.length 25 ≤ 24 := Nat.le_trans (Nat.le_mul_of_pos_right _ hp) hb
          have hx : min x.f1.length 25 = x.f1.length := by
            rcases Nat.lt_or_ge x.f1.length 25 with h5 | h5
            · omega
            · rw [Nat.min_eq_right h5] at hle
              omega
          rw [hx] at hb
          refine ⟨fun y hy => ?_, ?_⟩
          · rcases List.mem_cons.1 hy with rfl | hy
            · omega
            · exact ha y hy
          · rw [List.map_cons, prodL, ← Nat.mul_assoc]
            exact hb
        · rw [if_neg (by omega)] at h
          obtain ⟨_, hb⟩ := chk_prod l _ _ h1 h
          have hp : 0 < prodL (l.map (·.f1.length)) := by
            rcases Nat.eq_zero_or_pos (prodL (l.map (·.f1.length))) with h0 | h0
            · obtain ⟨ha, _⟩ := chk_prod l _ _ h1 h
              exact prodL_pos _ (fun m hm => by obtain ⟨y, hy, rfl⟩ := List.mem_map.1 hm; exact ha y hy)
            · exact h0
          have := Nat.le_trans (Nat.le_mul_of_pos_right n hp) hb
          omega
theorem rdO (v : List ByteArray) (j : Nat) : rdOf ByteArray.empty v (j : Int) = v.getD j ByteArray.empty := by
  unfold rdOf
  rw [Int.toNat_natCast]
theorem nodup_succ {v : List ByteArray} {k : Nat} (hk : k < v.length) (h : (v.take k).Nodup) (h1 : ∀ j, j < k → v.getD j ByteArray.empty ≠ v.getD k ByteArray.empty) : (v.take (k + 1)).Nodup := by
  rw [List.take_succ_eq_append_getElem hk, List.nodup_append]
  refine ⟨h, by simp, ?_⟩
  intro a ha b hb hab
  rw [List.mem_singleton] at hb
  subst hb hab
  obtain ⟨j, hj, he⟩ := List.mem_iff_getElem.1 ha
  rw [List.length_take] at hj
  rw [List.getElem_take] at he
  refine h1 j (by omega) ?_
  rw [List.getD_eq_getElem?_getD, List.getD_eq_getElem?_getD, List.getElem?_eq_getElem (by omega), List.getElem?_eq_getElem hk, Option.getD_some, Option.getD_some]
  exact he
section
variable (l : List S42) (a : ByteArray) (rows : List (List ByteArray))
theorem c2 (x7 : Int) (i : Nat) (x : S42) (hi : i < l.length) (hx : rd_T42 l i = x) (kk : Nat) (hk : kk < x.f1.length) (hb : x.f1.length ≤ 4000000) (E0 : Prop)
    (next : ∀ ap : Bool, (ap = true → (x.f1.take (kk + 1)).Nodup ∧ E0) → ∃ K, bastionlaw14_MatrixCounts.l1 K l a rows x7 ap i ((kk + 1 : Nat) : Int) = some true) :
    ∀ (m j : Nat) (ap : Bool), kk - j ≤ m → j ≤ kk → (ap = true → (x.f1.take kk).Nodup ∧ (∀ q, q < j → x.f1.getD q ByteArray.empty ≠ x.f1.getD kk ByteArray.empty) ∧ E0) → ∃ K, bastionlaw14_MatrixCounts.l2 K l a rows x7 ap i kk j = some true := by
  intro m
  induction m with
  | zero =>
    intro j ap hm hj hap
    obtain rfl : j = kk := by omega
    obtain ⟨K, hK⟩ := next ap (fun h => ⟨nodup_succ hk (hap h).1 (hap h).2.1, (hap h).2.2⟩)
    refine ⟨K + 1, ?_⟩
    simp only [bastionlaw14_MatrixCounts.l2]
    rw [if_neg (by omega), wr1 j (by omega)]
    exact hK
  | succ m ih =>
    intro j ap hm hj hap
    by_cases hjk : j = kk
    · subst hjk
      obtain ⟨K, hK⟩ := next ap (fun h => ⟨nodup_succ hk (hap h).1 (hap h).2.1, (hap h).2.2⟩)
      refine ⟨K + 1, ?_⟩
      simp only [bastionlaw14_MatrixCounts.l2]
      rw [if_neg (by omega), wr1 j (by omega)]
      exact hK
    · cases ap with
      | false =>
        obtain ⟨K, hK⟩ := ih (j + 1) false (by omega) (by omega) (fun h => by cases h)
        refine ⟨K + 1, ?_⟩
        simp only [bastionlaw14_MatrixCounts.l2]
        rw [if_pos (by omega), if_neg (by decide), wr1 j (by omega)]
        exact hK
      | true =>
        obtain ⟨h1, h2, h3⟩ := hap rfl
        obtain ⟨K, hK⟩ := ih (j + 1) ((rdOf ByteArray.empty x.f1 j).toList != (rdOf ByteArray.empty x.f1 kk).toList) (by omega) (by omega) (fun h => ⟨h1, fun q hq => by
          by_cases hqj : q = j
          · subst hqj
            intro he
            rw [rdO, rdO, he] at h
            simp at h
          · exact h2 q (by omega), h3⟩)
        refine ⟨K + 1, ?_⟩
        simp only [bastionlaw14_MatrixCounts.l2]
        rw [hx, if_pos (by omega), if_pos trivial, if_pos (by omega), if_pos (by omega), if_pos (by omega), if_pos (by omega), if_pos (by omega), if_pos (by omega), wr1 j (by omega)]
        exact hK
theorem c1 (x7 : Int) (i : Nat) (x : S42) (hi : i < l.length) (hil : l.length ≤ 4000000) (hx : rd_T42 l i = x) (hb : x.f1.length ≤ 4000000) (E0 : Prop)
    (next : ∀ ap : Bool, (ap = true → x.f1.Nodup ∧ E0) → ∃ K, bastionlaw14_MatrixCounts.l0 K l a rows x7 ap ((i + 1 : Nat) : Int) = some true) :
    ∀ (m kk : Nat) (ap : Bool), x.f1.length - kk ≤ m → kk ≤ x.f1.length → (ap = true → (x.f1.take kk).Nodup ∧ E0) → ∃ K, bastionlaw14_MatrixCounts.l1 K l a rows x7 ap i kk = some true := by
  intro m
  induction m with
  | zero =>
    intro kk ap hm hk hap
    obtain rfl : kk = x.f1.length := by omega
    rw [List.take_of_length_le (Nat.le_refl _)] at hap
    obtain ⟨K, hK⟩ := next ap hap
    refine ⟨K + 1, ?_⟩
    simp only [bastionlaw14_MatrixCounts.l1]
    rw [hx, if_pos (by omega), if_pos (by omega), if_neg (by omega), wr1 i (by omega)]
    exact hK
  | succ m ih =>
    intro kk ap hm hk hap
    by_cases hkl : kk = x.f1.length
    · subst hkl
      rw [List.take_of_length_le (Nat.le_refl _)] at hap
      obtain ⟨K, hK⟩ := next ap hap
      refine ⟨K + 1, ?_⟩
      simp only [bastionlaw14_MatrixCounts.l1]
      rw [hx, if_pos (by omega), if_pos (by omega), if_neg (by omega), wr1 i (by omega)]
      exact hK
    · obtain ⟨K, hK⟩ := c2 l a rows x7 i x hi hx kk (by omega) hb E0 (fun ap' h => ih (kk + 1) ap' (by omega) (by omega) h) kk 0 ap (by omega) (by omega) (fun h => ⟨(hap h).1, fun q hq => absurd hq (by omega), (hap h).2⟩)
      refine ⟨K + 1, ?_⟩
      simp only [bastionlaw14_MatrixCounts.l1]
      rw [hx, if_pos (by omega), if_pos (by omega), if_pos (by omega)]
      exact hK
theorem wr_mul (m n : Nat) (h : m * n ≤ 4000000) : wrap64 ((m : Int) * (n : Int)) = ((m * n : Nat) : Int) := by
  rw [← Int.natCast_mul]
  generalize m * n = q at *
  unfold wrap64
  omega
theorem c0 (hil : l.length ≤ 4000000) (hb : ∀ x ∈ l, 0 < x.f1.length ∧ x.f1.length ≤ 4000000) (hr : rows.length ≤ 4000000)
    (next : ∀ ap : Bool, (ap = true → ∀ x ∈ l, x.f1.Nodup) → ∃ K, bastionlaw14_MatrixCounts.l3 K l a rows ap 0 = some true) :
    ∀ (P : List S42) (i x7 : Nat) (ap : Bool), l.drop i = P → i ≤ l.length → x7 * prodL (P.map (·.f1.length)) = rows.length → (ap = true → ∀ x ∈ l.take i, x.f1.Nodup) → ∃ K, bastionlaw14_MatrixCounts.l0 K l a rows (x7 : Int) ap i = some true := by
  intro P
  induction P with
  | nil =>
    intro i x7 ap hP hi h7 hap
    have hle : l.length ≤ i := List.drop_eq_nil_iff.1 hP
    rw [List.take_of_length_le hle] at hap
    have h7' : x7 = rows.length := by rw [← h7]; show x7 = x7 * 1; omega
    obtain ⟨K, hK⟩ := next ap hap
    refine ⟨K + 1, ?_⟩
    simp only [bastionlaw14_MatrixCounts.l0]
    rw [if_neg (by omega), if_pos (by omega)]
    exact hK
  | cons x P ih =>
    intro i x7 ap hP hi h7 hap
    obtain ⟨hlt, hx, hP'⟩ := rdA l i x P hP
    have hmem : ∀ y ∈ x :: P, y ∈ l := fun y hy => List.mem_of_mem_drop (hP ▸ hy)
    obtain ⟨hb1, hb2⟩ := hb x (hmem x (List.mem_cons_self ..))
    rw [List.map_cons, prodL, ← Nat.mul_assoc] at h7
    have hp := prodL_pos (P.map (·.f1.length)) (fun m hm => by obtain ⟨y, hy, rfl⟩ := List.mem_map.1 hm; exact (hb y (hmem y (List.mem_cons_of_mem _ hy))).1)
    have hle : x7 * x.f1.length ≤ rows.length := by rw [← h7]; exact Nat.le_mul_of_pos_right _ hp
    have htake : l.take (i + 1) = l.take i ++ [x] := by
      rw [List.take_succ_eq_append_getElem hlt]
      congr 2
      have h := hx
      unfold rd_T42 at h
      rw [Int.toNat_natCast, List.getD_eq_getElem?_getD, List.getElem?_eq_getElem hlt, Option.getD_some] at h
      exact h
    obtain ⟨K, hK⟩ := c1 l a rows ((x7 * x.f1.length : Nat) : Int) i x hlt hil hx hb2 (∀ x ∈ l.take i, x.f1.Nodup) (fun ap' h => ih (i + 1) (x7 * x.f1.length) ap' hP' (by omega) h7 (fun h' y hy => by
        rw [htake] at hy
        rcases List.mem_append.1 hy with hy | hy
        · exact (h h').2 y hy
        · rw [List.mem_singleton] at hy
          rw [hy]
          exact (h h').1)) x.f1.length 0 ap (by omega) (by omega) (fun h => ⟨by simp, hap h⟩)
    refine ⟨K + 1, ?_⟩
    simp only [bastionlaw14_MatrixCounts.l0]
    rw [hx, if_pos (by omega), if_pos (by omega), wr_mul _ _ (by omega)]
    exact hK
theorem labelB_inj (r q : List ByteArray) (h : labelB a r = labelB a q) : r = q := by
  have hB : ∀ z : List ByteArray, bytesOf (labelB a z) = labelL (bytesOf a) (z.map bytesOf) := fun z => bytesOf_strOfNums _ (isB_app (markL_B (bytes_u8 a)) (lab_B (z.map bytesOf) (fun v hv => by
    obtain ⟨b, _, rfl⟩ := List.mem_map.1 hv
    exact bytes_u8 b)))
  have h1 := congrArg bytesOf h
  rw [hB, hB] at h1
  have h2 := congrArg (parseF []) h1
  rw [parse_label, parse_label] at h2
  injection h2 with h2
  injection h2 with _ h2
  have h3 := congrArg (List.map strOfNums) h2
  rwa [strs_back, strs_back] at h3
theorem c3 (ha : a.size ≤ 4000000) (hr : rows.length ≤ 4000000) (ht : ∀ r ∈ rows, r.length = l.length ∧ tot r ≤ 4000000) (ap : Bool) (hap : ap = true → rows.Nodup) :
    ∀ (m i : Nat), rows.length - i ≤ m → i ≤ rows.length → ∃ K, bastionlaw14_MatrixCounts.l3 K l a rows ap i = some true := by
  intro m
  induction m with
  | zero =>
    intro i hm hi
    refine ⟨1, ?_⟩
    simp only [bastionlaw14_MatrixCounts.l3]
    rw [if_neg (by omega)]
  | succ m ih =>
    intro i hm hi
    by_cases hir : i = rows.length
    · refine ⟨1, ?_⟩
      simp only [bastionlaw14_MatrixCounts.l3]
      rw [if_neg (by omega)]
    have hlt : i < rows.length := by omega
    have hrd : ∀ j : Nat, (h : j < rows.length) → rd_L1 rows j = rows[j] := fun j h => by
      unfold rd_L1
      rw [Int.toNat_natCast, List.getD_eq_getElem?_getD, List.getElem?_eq_getElem h, Option.getD_some]
    have hlab : ∀ (K j : Nat) (h : j < rows.length), 5000000 ≤ K → matrix_Label.f K a (rd_L1 rows j) = some (labelB a rows[j]) := fun K j h hK => by
      rw [hrd j h]
      exact label_f a _ K ha (ht _ (List.getElem_mem h)).2 hK
    obtain ⟨K0, hK0⟩ := ih (i + 1) (by omega) (by omega)
    have hend : ∀ j : Nat, ∃ K, bastionlaw14_MatrixCounts.j6 K l a rows ap i j false = some true := fun j => ⟨K0 + 1, by
      simp only [bastionlaw14_MatrixCounts.j6]
      rw [if_neg (by decide), wr1 i (by omega)]
      exact hK0⟩
    have h4 : ∀ (n j : Nat), i - j ≤ n → j ≤ i → ∃ K, bastionlaw14_MatrixCounts.l4 K l a rows ap i j = some true := by
      intro n
      induction n with
      | zero =>
        intro j hn hj
        obtain ⟨K, hK⟩ := hend j
        refine ⟨K + 1, ?_⟩
        simp only [bastionlaw14_MatrixCounts.l4]
        rw [if_neg (by omega)]
        exact hK
      | succ n ihn =>
        intro j hn hj
        by_cases hji : j = i
        · obtain ⟨K, hK⟩ := hend j
          refine ⟨K + 1, ?_⟩
          simp only [bastionlaw14_MatrixCounts.l4]
          rw [if_neg (by omega)]
          exact hK
        cases hA : ap with
        | false =>
          rw [hA] at hend
          obtain ⟨K, hK⟩ := hend j
          refine ⟨K + 1, ?_⟩
          simp only [bastionlaw14_MatrixCounts.l4]
          rw [if_pos (by omega)]
          exact hK
        | true =>
          obtain ⟨K1, hK1⟩ := ihn (j + 1) (by omega) (by omega)
          rw [hA] at hK1
          obtain ⟨K2, hK2a, hK2b⟩ : ∃ K2, K1 ≤ K2 ∧ 5000000 ≤ K2 := ⟨max K1 5000000, Nat.le_max_left _ _, Nat.le_max_right _ _⟩
          have hK2 : bastionlaw14_MatrixCounts.l4 K2 l a rows true i ((j + 1 : Nat) : Int) = some true :=
            at_rounds (g := fun k => bastionlaw14_MatrixCounts.l4 k l a rows true i ((j + 1 : Nat) : Int)) (fun k => (bastionlaw14_MatrixCounts.mono_l k).2.2.2.2.2.1 _ _ _ _ _ _) hK2a hK1
          refine ⟨K2 + 1 + 1, ?_⟩
          simp only [bastionlaw14_MatrixCounts.l4]
          rw [if_pos (by omega)]
          simp only [bastionlaw14_MatrixCounts.j6]
          rw [if_pos trivial, if_pos (by omega), if_pos (by omega), hlab _ i hlt (by omega)]
          simp only [Option.bind_some]
          rw [if_pos (by omega), if_pos (by omega), hlab _ j (by omega) (by omega)]
          simp only [Option.bind_some]
          rw [if_neg (fun h => ?_), wr1 j (by omega)]
          · exact hK2
          · have h1 := labelB_inj a _ _ (toList_inj h)
            exact List.pairwise_iff_getElem.1 (hap hA) j i (by omega) hlt (by omega) h1.symm
    obtain ⟨K, hK⟩ := h4 i 0 (by omega) (by omega)
    refine ⟨K + 1, ?_⟩
    simp only [bastionlaw14_MatrixCounts.l3]
    rw [if_pos (by omega), if_pos (by omega), hrd i hlt, if_pos (by rw [(ht _ (List.getElem_mem hlt)).1])]
    exact hK
end
theorem givenGo (l : List S42) (hb : ∀ x ∈ l, x.f1.length ≤ 4000000) : ∀ (P : List S42) (i : Nat) (acc : List S49), l.drop i = P → i ≤ l.length → i + P.length ≤ 4000000 → acc.length + P.length ≤ 4000000 → ∃ K, bastionlaw14_given.l0 K l acc i = some (acc ++ P.map fun x => ⟨x.f0, x.f1⟩) := by
  intro P
  induction P with
  | nil =>
    intro i acc hP hi hn h
    have hle : l.length ≤ i := List.drop_eq_nil_iff.1 hP
    refine ⟨1, ?_⟩
    simp only [bastionlaw14_given.l0]
    rw [if_neg (by omega), List.map_nil, List.append_nil]
  | cons x P ih =>
    intro i acc hP hi hn h
    rw [List.length_cons] at h hn
    obtain ⟨hlt, hx, hP'⟩ := rdA l i x P hP
    have hx2 := hb x (List.mem_of_mem_drop (by rw [hP]; exact List.mem_cons_self ..))
    obtain ⟨K, hK⟩ := ih (i + 1) (acc ++ [⟨x.f0, x.f1⟩]) hP' (by omega) (by omega) (by rw [List.length_append, List.length_singleton]; omega)
    refine ⟨K + 1, ?_⟩
    simp only [bastionlaw14_given.l0]
    rw [if_pos (by omega), if_pos (by omega), hx]
    simp only [Option.bind_some]
    rw [if_pos (by rw [List.length_nil]; omega), if_pos (by omega), wr1 i (by omega), List.nil_append, hK, List.map_cons, List.append_assoc, List.singleton_append]
theorem given_f (l : List S42) (h : totA l ≤ 4000000) : ∃ K, bastionlaw14_given.f K l = some (l.map fun x => ⟨x.f0, x.f1⟩) := by
  have h1 := totA_len l
  obtain ⟨K, hK⟩ := givenGo l (fun x hx => by have := totA_mem hx; have := tot_len x.f1; omega) l 0 [] rfl (Nat.zero_le _) (by omega) (by rw [List.length_nil]; omega)
  exact ⟨K, hK⟩
theorem largeGo (l : List S42) : ∀ (m i : Nat) (x3 : Int), 100 - i ≤ m → i ≤ 100 → ∃ K b, bastionlaw14_large.l0 K l x3 i = some b := by
  intro m
  induction m with
  | zero =>
    intro i x3 hm hi
    refine ⟨2, decide (x3 > 3000), ?_⟩
    have hd : decide ((i : Int) < 100) = false := decide_eq_false (by omega)
    simp only [bastionlaw14_large.l0, bastionlaw14_large.j1]
    split
    · rw [hd, if_neg (by decide)]
    · rw [if_neg (by decide)]
  | succ m ih =>
    intro i x3 hm hi
    by_cases h100 : i < 100 ∧ i < l.length
    case neg =>
      refine ⟨2, decide (x3 > 3000), ?_⟩
      simp only [bastionlaw14_large.l0, bastionlaw14_large.j1]
      split
      · rw [show decide ((i : Int) < 100) = false from decide_eq_false (by omega), if_neg (by decide)]
      · rw [if_neg (by decide)]
    obtain ⟨h1, h2⟩ := h100
    have hin : ∀ (n j : Nat) (y : Int), 100 - j ≤ n → j ≤ 100 → ∃ K b, bastionlaw14_large.l1 K l y i j = some b := by
      intro n
      induction n with
      | zero =>
        intro j y hn hj
        obtain ⟨K, b, hK⟩ := ih (i + 1) y (by omega) (by omega)
        refine ⟨K + 1, b, ?_⟩
        simp only [bastionlaw14_large.l1]
        rw [if_pos (by omega), if_pos (by omega), if_neg (show ¬ ((j : Int) < 100) by omega), wr1 i (by omega), ite_self]
        exact hK
      | succ n ihn =>
        intro j y hn hj
        by_cases hc : j < (rd_T42 l i).f1.length ∧ j < 100
        · obtain ⟨K, b, hK⟩ := ihn (j + 1) (wrap64 (y + ((rdOf ByteArray.empty ((rd_T42 l i).f1) j).size : Int))) (by omega) (by omega)
          refine ⟨K + 1, b, ?_⟩
          simp only [bastionlaw14_large.l1]
          rw [if_pos (by omega), if_pos (by omega), if_pos (by omega), if_pos (by omega), if_pos (by omega), wr1 j (by omega)]
          exact hK
        · obtain ⟨K, b, hK⟩ := ih (i + 1) y (by omega) (by omega)
          refine ⟨K + 1, b, ?_⟩
          simp only [bastionlaw14_large.l1]
          rw [if_pos (by omega), if_pos (by omega), wr1 i (by omega)]
          by_cases hj1 : (j : Int) < ((rd_T42 l i).f1.length : Int)
          · rw [if_pos hj1, if_neg (by omega)]
            exact hK
          · rw [if_neg hj1]
            exact hK
    obtain ⟨K, b, hK⟩ := hin 100 0 (wrap64 ((wrap64 (x3 + (((rd_T42 l i).f1).length : Int))) + (((rd_T42 l i).f0).size : Int))) (by omega) (by omega)
    refine ⟨K + 1 + 1, b, ?_⟩
    simp only [bastionlaw14_large.l0]
    rw [if_pos (by omega)]
    simp only [bastionlaw14_large.j1]
    rw [show decide ((i : Int) < 100) = true from decide_eq_true (by omega), if_pos rfl, if_pos (by omega), if_pos (by omega)]
    exact hK
theorem large_f (l : List S42) : ∃ K b, bastionlaw14_large.f K l = some b := largeGo l 100 0 _ (by omega) (by omega)
theorem sum_tot (l : List S42) : ((l.map (·.f1)).map tot).sum ≤ totA l := by
  induction l with
  | nil => exact Nat.le_refl _
  | cons x l ih => rw [totA_cons, List.map_cons, List.map_cons, List.sum_cons]; omega
theorem MatrixCounts (l : List S42) (a : ByteArray) (hl : totA l ≤ 1048576) (ha : a.size ≤ 1048576) : ∃ k, bastionlaw14_MatrixCounts.f k l a = some true := by
  obtain ⟨K1, b, hb⟩ := large_f l
  obtain ⟨K2, hg⟩ := given_f l (by omega)
  have hlen := totA_len l
  obtain ⟨L, hL⟩ : ∃ L : List S49, L = l.map fun x => ⟨x.f0, x.f1⟩ := ⟨_, rfl⟩
  rw [← hL] at hg
  have hLf : L.map (·.f1) = l.map (·.f1) := by rw [hL, List.map_map]; rfl
  have hLn : L.map (·.f1.length) = l.map (·.f1.length) := by rw [hL, List.map_map]; rfl
  have hcheck : matrix_check.f L = some (chkL L [] 1) := by
    unfold matrix_check.f
    rw [if_pos ⟨by rw [hL, List.length_map]; omega, List.all_eq_true.2 (fun x hx => by
      rw [hL] at hx
      obtain ⟨y, hy, rfl⟩ := List.mem_map.1 hx
      have := totA_mem hy
      exact decide_eq_true (by show y.f0.size ≤ _; omega))⟩]
  -- what the rows are
  have hrows : ∃ rows e, matrix_Rows.f L = some (rows, e) ∧ (e ≠ 0 → rows = []) ∧ (e = 0 → rows = allRows (l.map (·.f1)) ∧ (∀ x ∈ l, 0 < x.f1.length) ∧ 1 * prodL (l.map (·.f1.length)) ≤ 24) := by
    by_cases he : chkL L [] 1 = 0
    · obtain ⟨h1, h2⟩ := chk_prod L [] 1 (by omega) he
      rw [hLn] at h2
      have h1' : ∀ x ∈ l, 0 < x.f1.length := fun x hx => h1 ⟨x.f0, x.f1⟩ (by rw [hL]; exact List.mem_map.2 ⟨x, hx, rfl⟩)
      refine ⟨allRows (l.map (·.f1)), 0, ?_, fun h => absurd rfl h, fun _ => ⟨rfl, h1', h2⟩⟩
      unfold matrix_Rows.f
      rw [hcheck, he]
      simp only [Option.bind_some]
      rw [hLf, if_pos ⟨by rw [hL, List.length_map]; omega, fun _ => ⟨fun v hv => by
        obtain ⟨y, hy, rfl⟩ := List.mem_map.1 hv
        have h5 := prodL_mem (l.map (·.f1.length)) (fun n hn => by obtain ⟨z, hz, rfl⟩ := List.mem_map.1 hn; exact h1' z hz) y.f1.length (List.mem_map.2 ⟨y, hy, rfl⟩)
        exact ⟨h1' y hy, by omega⟩, by rw [allRows_len, List.map_map]; show prodL (l.map (·.f1.length)) ≤ _; omega⟩⟩, if_pos trivial]
    · refine ⟨[], chkL L [] 1, ?_, fun _ => rfl, fun h => absurd h he⟩
      unfold matrix_Rows.f
      rw [hcheck]
      simp only [Option.bind_some]
      rw [if_pos ⟨by rw [hL, List.length_map]; omega, fun h => absurd h he⟩, if_neg he]
  obtain ⟨rows, e, hR, hR1, hR2⟩ := hrows
  have hj : ∀ v, ∃ K, bastionlaw14_MatrixCounts.j0 K l a v = some true := by
    intro v
    cases v with
    | true =>
      refine ⟨100 + 1, ?_⟩
      simp only [bastionlaw14_MatrixCounts.j0]
      rw [if_pos trivial, awake0]
      rfl
    | false =>
      by_cases he : e = 0
      · obtain ⟨h1, h2, h3⟩ := hR2 he
        have hlr : rows.length = 1 * prodL (l.map (·.f1.length)) := by rw [h1, allRows_len, List.map_map, Nat.one_mul]; rfl
        obtain ⟨K, hK⟩ := c0 l a rows (by omega) (fun x hx => ⟨h2 x hx, by have := totA_mem hx; have := tot_len x.f1; omega⟩) (by omega) (fun ap hap => c3 l a rows (by omega) (by omega) (fun r hr => by
            rw [h1] at hr
            obtain ⟨h4, h5⟩ := allRows_mem _ r hr
            rw [List.length_map] at h4
            have := sum_tot l
            exact ⟨h4, by omega⟩) ap (fun h => by
            rw [h1]
            exact allRows_nodup _ (fun v hv => by obtain ⟨y, hy, rfl⟩ := List.mem_map.1 hv; exact hap h y hy)) rows.length 0 (by omega) (Nat.zero_le _)) l 0 1 true rfl (Nat.zero_le _) hlr.symm (fun _ x hx => by rw [List.take_zero] at hx; cases hx)
        obtain ⟨Q, hQ1, hQ2⟩ : ∃ Q, K ≤ Q ∧ K2 ≤ Q := ⟨max K K2, Nat.le_max_left _ _, Nat.le_max_right _ _⟩
        have hK' : bastionlaw14_MatrixCounts.l0 Q l a rows 1 true 0 = some true := at_rounds (g := fun k => bastionlaw14_MatrixCounts.l0 k l a rows 1 true 0) (fun k => (bastionlaw14_MatrixCounts.mono_l k).2.1 _ _ _ _ _ _) hQ1 hK
        have hg' : bastionlaw14_given.f Q l = some L := at_rounds (g := fun k => bastionlaw14_given.f k l) (fun k => bastionlaw14_given.mono l k) hQ2 hg
        refine ⟨Q + 1, ?_⟩
        simp only [bastionlaw14_MatrixCounts.j0]
        rw [if_neg (by decide), hg']
        simp only [Option.bind_some]
        rw [hR]
        simp only [Option.bind_some]
        rw [if_pos he]
        exact hK'
      · refine ⟨K2 + 1, ?_⟩
        simp only [bastionlaw14_MatrixCounts.j0]
        rw [if_neg (by decide), hg]
        simp only [Option.bind_some]
        rw [hR]
        simp only [Option.bind_some]
        rw [if_neg he, hR1 he]
        rfl
  obtain ⟨Kt, ht⟩ := hj true
  obtain ⟨Kf, hf⟩ := hj false
  obtain ⟨Q, q1, q2, q3, q4⟩ : ∃ Q, K1 ≤ Q ∧ Kt ≤ Q ∧ Kf ≤ Q ∧ 100 ≤ Q := ⟨K1 + Kt + Kf + 100, by omega, by omega, by omega, by omega⟩
  have hall : ∀ v, bastionlaw14_MatrixCounts.j0 Q l a v = some true := fun v => by
    cases v with
    | true => exact at_rounds (g := fun k => bastionlaw14_MatrixCounts.j0 k l a true) (fun k => (bastionlaw14_MatrixCounts.mono_l k).1 _ _ _) q2 ht
    | false => exact at_rounds (g := fun k => bastionlaw14_MatrixCounts.j0 k l a false) (fun k => (bastionlaw14_MatrixCounts.mono_l k).1 _ _ _) q3 hf
  refine ⟨Q, ?_⟩
  unfold bastionlaw14_MatrixCounts.f
  rw [at_rounds (g := fun k => bastionlaw14_large.f k l) (fun k => bastionlaw14_large.mono l k) q1 hb]
  simp only [Option.bind_some]
  split
  · exact hall true
  · split
    · exact hall true
    · rw [awakeAt Q q4]
      simp only [Option.bind_some]
      exact hall _
end Go.Proofs.YtifgdhmbjlfnhaaDoor.Pure
