/- ExpandSubst: the document's Subst tells what spR tells. (under way) -/
import Derived.Test.YtdoifpjpdhccdaaPureExpB
namespace Go.Proofs.Ytdoifpjpdhccdaa.Pure
open Go.RowKit Go.Proofs.Ytdoifpjpdhccdaa.E Go.Proofs.YtdoifpjpdhccdaaW.PrintWords Go.Proofs.YtdoifpjpdhccdaaW.PrintLast
theorem ref_letter (x : Int) : bastionref13_letter.f x = some (letterI x) := by
  unfold bastionref13_letter.f letterI
  by_cases h : 97 ≤ x <;> simp [h]
theorem ref_mark (x : Int) : bastionref13_mark.f x = some (markI x) := by
  unfold bastionref13_mark.f
  rw [ref_letter]
  simp only [Option.bind_some]
  unfold markI
  cases letterI x with
  | true => simp
  | false =>
    by_cases h3 : 48 ≤ x <;> by_cases h4 : x ≤ 57 <;> by_cases h5 : x = 45 <;> by_cases h6 : x = 95 <;> simp [h3, h4, h5, h6]
theorem ref_marks (t : ByteArray) (vars : List S32) (ht : t.size ≤ 4000000) (out : List Int) (br : Bool) (i : Nat) (r : ByteArray × Int) : ∀ (d j : Nat), t.size - j ≤ d → i < j → j ≤ t.size →
    (∃ K, bastionref13_Subst.j5 K t vars out ((j + marksL ((bytesOf t).drop j) : Nat) : Int) br i = some r) → ∃ K, bastionref13_Subst.l1 K t vars out j br i = some r := by
  intro d
  induction d with
  | zero =>
    intro j hd hij hj ⟨K, hK⟩
    rw [List.drop_eq_nil_of_le (by rw [bytesOf_length]; omega)] at hK
    refine ⟨K + 1, ?_⟩
    simp only [bastionref13_Subst.l1]
    rw [if_neg (by omega)]
    exact hK
  | succ d ih =>
    intro j hd hij hj ⟨K, hK⟩
    cases hb : (bytesOf t).drop j with
    | nil =>
      have h1 := List.drop_eq_nil_iff.1 hb
      rw [bytesOf_length] at h1
      rw [hb] at hK
      refine ⟨K + 1, ?_⟩
      simp only [bastionref13_Subst.l1]
      rw [if_neg (by omega)]
      exact hK
    | cons x l =>
      obtain ⟨hlt, hx, hd'⟩ := bt_drop hb
      rw [hb] at hK
      by_cases hm : markI x = true
      · rw [marksL, if_pos hm] at hK
        obtain ⟨K2, hK2⟩ := ih (j + 1) (by omega) (by omega) (by omega) ⟨K, by rw [hd']; rw [← hK]; congr 1; omega⟩
        refine ⟨K2 + 1, ?_⟩
        simp only [bastionref13_Subst.l1]
        rw [if_pos (by omega), if_neg (by omega), if_pos (by omega), if_pos (by omega), hx, ref_mark]
        simp only [Option.bind_some]
        rw [if_pos hm, wr1 j (by omega)]
        exact hK2
      · rw [marksL, if_neg hm] at hK
        refine ⟨K + 1, ?_⟩
        simp only [bastionref13_Subst.l1]
        rw [if_pos (by omega), if_neg (by omega), if_pos (by omega), if_pos (by omega), hx, ref_mark]
        simp only [Option.bind_some]
        rw [if_neg hm]
        exact hK
theorem ref_run (t : ByteArray) (vars : List S32) (ht : t.size ≤ 4000000) (out : List Int) (br : Bool) (i : Nat) (hi : i ≤ t.size) (r : ByteArray × Int)
    (h : ∃ K, bastionref13_Subst.j5 K t vars out ((i + runL ((bytesOf t).drop i) : Nat) : Int) br i = some r) : ∃ K, bastionref13_Subst.l1 K t vars out i br i = some r := by
  obtain ⟨K, hK⟩ := h
  cases hb : (bytesOf t).drop i with
  | nil =>
    have h1 := List.drop_eq_nil_iff.1 hb
    rw [bytesOf_length] at h1
    rw [hb] at hK
    refine ⟨K + 1, ?_⟩
    simp only [bastionref13_Subst.l1]
    rw [if_neg (by omega)]
    exact hK
  | cons x l =>
    obtain ⟨hlt, hx, hd'⟩ := bt_drop hb
    rw [hb] at hK
    by_cases hm : letterI x = true
    · rw [runL, if_pos hm] at hK
      obtain ⟨K2, hK2⟩ := ref_marks t vars ht out br i r t.size (i + 1) (by omega) (by omega) (by omega) ⟨K, by rw [hd']; rw [← hK]; congr 1; omega⟩
      refine ⟨K2 + 1, ?_⟩
      simp only [bastionref13_Subst.l1]
      rw [if_pos (by omega), if_pos trivial, if_pos (by omega), hx, ref_letter]
      simp only [Option.bind_some]
      rw [if_pos hm, wr1 i (by omega)]
      exact hK2
    · rw [runL, if_neg hm] at hK
      refine ⟨K + 1, ?_⟩
      simp only [bastionref13_Subst.l1]
      rw [if_pos (by omega), if_pos trivial, if_pos (by omega), hx, ref_letter]
      simp only [Option.bind_some]
      rw [if_neg hm, if_neg (by omega)]
      exact hK
theorem ref_look (t : ByteArray) (vars : List S32) (hl : vars.length ≤ 4000000) (out : List Int) (p : Int) (id : ByteArray) (r : ByteArray × Int)
    (hf : (lookR vars id vars.length).2 = true → out.length + (lookR vars id vars.length).1.size < 140737488355328 ∧ ∃ K, bastionref13_Subst.l0 K t vars (out ++ bytesOf (lookR vars id vars.length).1) p = some r)
    (hn : (lookR vars id vars.length).2 = false → r = (⟨#[]⟩, 63)) : ∀ (d k : Nat), vars.length - k ≤ d → k ≤ vars.length →
    ∃ K, bastionref13_Subst.l2 K t vars out p id (lookR vars id k).2 (lookR vars id k).1 k = some r := by
  have hend : ∃ K, bastionref13_Subst.l2 K t vars out p id (lookR vars id vars.length).2 (lookR vars id vars.length).1 (vars.length : Nat) = some r := by
    cases hq : (lookR vars id vars.length).2 with
    | true =>
      obtain ⟨h1, K, hK⟩ := hf hq
      refine ⟨K + 1, ?_⟩
      simp only [bastionref13_Subst.l2]
      rw [if_neg (by omega), if_pos trivial, if_pos h1]
      exact hK
    | false =>
      refine ⟨1, ?_⟩
      simp only [bastionref13_Subst.l2]
      rw [if_neg (by omega), if_neg (by decide), hn hq]
  intro d
  induction d with
  | zero =>
    intro k hd hk
    obtain rfl : k = vars.length := by omega
    exact hend
  | succ d ih =>
    intro k hd hk
    by_cases he : k = vars.length
    · subst he; exact hend
    obtain ⟨K, hK⟩ := ih (k + 1) (by omega) (by omega)
    refine ⟨K + 1, ?_⟩
    simp only [bastionref13_Subst.l2]
    rw [if_pos (by omega), if_pos (by omega), wr1 k (by omega)]
    rw [lookR] at hK
    by_cases hm : (rd_T32 vars k).f0.toList = id.toList
    · rw [if_pos hm] at hK ⊢
      exact hK
    · rw [if_neg hm] at hK ⊢
      exact hK
theorem ref_end (t : ByteArray) (vars : List S32) (ht : t.size ≤ 4000000) (out : List Int) (br : Bool) (i : Nat) (hi : i ≤ t.size) (r : ByteArray × Int)
    (hno : nameAt br ((bytesOf t).drop i) = none → r = (⟨#[]⟩, 4))
    (hyes : ∀ w m, nameAt br ((bytesOf t).drop i) = some (w, m) → ∃ K, bastionref13_Subst.l2 K t vars out ((i + m - (if br = true then 1 else 0) : Nat) : Int) (strOfNums w) false ⟨#[]⟩ 0 = some r) :
    ∃ K, bastionref13_Subst.j5 K t vars out ((i + runL ((bytesOf t).drop i) : Nat) : Int) br i = some r := by
  have hle := runL_le ((bytesOf t).drop i)
  rw [List.length_drop, bytesOf_length] at hle
  unfold nameAt at hno hyes
  have hx : t.extract i (i + runL ((bytesOf t).drop i)) = strOfNums (((bytesOf t).drop i).take (runL ((bytesOf t).drop i))) := by rw [ext_drop, Nat.add_sub_cancel_left]
  have hsz : (strOfNums (((bytesOf t).drop i).take (runL ((bytesOf t).drop i)))).size = runL ((bytesOf t).drop i) := by rw [strOfNums_size, List.length_take, List.length_drop, bytesOf_length]; omega
  have hhd : headIs 125 (((bytesOf t).drop i).drop (runL ((bytesOf t).drop i))) = true ↔ i + runL ((bytesOf t).drop i) < t.size ∧ bt t ((i + runL ((bytesOf t).drop i) : Nat) : Int) = 125 := by
    rw [List.drop_drop]
    cases hq : (bytesOf t).drop (i + runL ((bytesOf t).drop i)) with
    | nil =>
      have h1 := List.drop_eq_nil_iff.1 hq
      rw [bytesOf_length] at h1
      simp [headIs]
      omega
    | cons y l =>
      obtain ⟨h1, h2, _⟩ := bt_drop hq
      simp only [headIs]
      rw [h2, beq_iff_eq]
      exact ⟨fun h => ⟨h1, h⟩, fun h => h.2⟩
  generalize hn : runL ((bytesOf t).drop i) = n at *
  have bad : (n = 0 ∨ 24 < n ∨ (br = true ∧ headIs 125 (((bytesOf t).drop i).drop n) = false)) → r = (⟨#[]⟩, 4) := by
    intro h
    apply hno
    by_cases h1 : n = 0 ∨ 24 < n
    · rw [if_pos h1]
    · rw [if_neg h1]
      rcases h with h | h | h
      · exact absurd (.inl h) h1
      · exact absurd (.inr h) h1
      · rw [if_pos h]
  have j6bad : (n = 0 ∨ 24 < n ∨ (br = true ∧ headIs 125 (((bytesOf t).drop i).drop n) = false)) → bastionref13_Subst.j6 1 t vars out ((i + n : Nat) : Int) br (t.extract i (i + n)) true = some r := by
    intro h
    simp only [bastionref13_Subst.j6]
    rw [if_pos trivial, bad h]
  have j6ok : ¬ (n = 0 ∨ 24 < n ∨ (br = true ∧ headIs 125 (((bytesOf t).drop i).drop n) = false)) → ∃ K, bastionref13_Subst.j6 K t vars out ((i + n : Nat) : Int) br (t.extract i (i + n)) false = some r := by
    intro h
    obtain ⟨K, hK⟩ := hyes _ _ (by rw [if_neg (fun h1 => h (h1.elim .inl (fun h2 => .inr (.inl h2)))), if_neg (fun h1 => h (.inr (.inr h1)))])
    cases br with
    | true =>
      refine ⟨K + 1 + 1, ?_⟩
      simp only [bastionref13_Subst.j6]
      rw [if_neg (by decide), if_pos trivial, wr1 _ (by omega)]
      simp only [bastionref13_Subst.j7]
      rw [hx, ← hK]
      congr 1
    | false =>
      refine ⟨K + 1 + 1, ?_⟩
      simp only [bastionref13_Subst.j6]
      rw [if_neg (by decide), if_neg (by decide)]
      simp only [bastionref13_Subst.j7]
      rw [hx, ← hK]
      congr 1
  have htn : ((i + n : Nat) : Int).toNat = i + n := Int.toNat_natCast _
  have hti : ((i : Nat) : Int).toNat = i := Int.toNat_natCast _
  by_cases h0 : n = 0
  · refine ⟨2, ?_⟩
    simp only [bastionref13_Subst.j5]
    rw [if_pos (by omega), if_pos (by omega), if_pos (by omega), htn, hti, if_pos (by rw [hx]; apply toList_nil.2; apply List.eq_nil_of_length_eq_zero; rw [bytesOf_length, hsz, h0])]
    exact j6bad (.inl h0)
  have hne : ¬ (t.extract i (i + n)).toList = [] := fun h => by
    have h1 := congrArg List.length (toList_nil.1 h)
    rw [bytesOf_length, hx, hsz] at h1
    exact h0 h1
  have hzz : (t.extract i (i + n)).size = n := by rw [hx, hsz]
  by_cases h24 : 24 < n
  · refine ⟨2, ?_⟩
    simp only [bastionref13_Subst.j5]
    rw [if_pos (by omega), if_pos (by omega), if_pos (by omega), htn, hti, if_neg hne, if_pos (by rw [hzz]; omega)]
    exact j6bad (.inr (.inl h24))
  by_cases hb : br = true
  · by_cases hh : headIs 125 (((bytesOf t).drop i).drop n) = true
    · obtain ⟨h1, h2⟩ := hhd.1 hh
      obtain ⟨K, hK⟩ := j6ok (fun h => h.elim h0 (fun h => h.elim h24 (fun h => by rw [hh] at h; exact absurd h.2 (by decide))))
      refine ⟨K + 1, ?_⟩
      simp only [bastionref13_Subst.j5]
      rw [if_pos (by omega), if_pos (by omega), if_pos (by omega), htn, hti, if_neg hne, if_neg (by rw [hzz]; omega), if_pos hb, if_neg (by omega), if_pos (by omega), if_pos (by omega), h2]
      exact hK
    · have hh' : headIs 125 (((bytesOf t).drop i).drop n) = false := Bool.eq_false_iff.2 hh
      refine ⟨2, ?_⟩
      simp only [bastionref13_Subst.j5]
      rw [if_pos (by omega), if_pos (by omega), if_pos (by omega), htn, hti, if_neg hne, if_neg (by rw [hzz]; omega), if_pos hb]
      by_cases h1 : i + n < t.size
      · rw [if_neg (by omega), if_pos (by omega), if_pos (by omega), show (bt t ((i + n : Nat) : Int) != 125) = true from bne_iff_ne.2 (fun h => hh (hhd.2 ⟨h1, h⟩))]
        exact j6bad (.inr (.inr ⟨hb, hh'⟩))
      · rw [if_pos (by omega)]
        exact j6bad (.inr (.inr ⟨hb, hh'⟩))
  · obtain ⟨K, hK⟩ := j6ok (fun h => h.elim h0 (fun h => h.elim h24 (fun h => hb h.1)))
    refine ⟨K + 1, ?_⟩
    simp only [bastionref13_Subst.j5]
    rw [if_pos (by omega), if_pos (by omega), if_pos (by omega), htn, hti, if_neg hne, if_neg (by rw [hzz]; omega), if_neg hb]
    exact hK
theorem ref_name (t : ByteArray) (vars : List S32) (ht : t.size ≤ 4000000) (out : List Int) (i : Nat) (hi : i ≤ t.size) (r : ByteArray × Int)
    (hno : nameL ((bytesOf t).drop i) = none → r = (⟨#[]⟩, 4))
    (hyes : ∀ w m, nameL ((bytesOf t).drop i) = some (w, m) → ∃ K, bastionref13_Subst.l2 K t vars out ((i + m : Nat) : Int) (strOfNums w) false ⟨#[]⟩ 0 = some r) :
    ∃ K, bastionref13_Subst.j1 K t vars out i false = some r := by
  have plain : headIs 123 ((bytesOf t).drop i) = false → ∃ K, bastionref13_Subst.j2 K t vars out i false = some r := by
    intro hh
    unfold nameL at hno hyes
    rw [if_neg (by rw [hh]; decide)] at hno
    obtain ⟨K, hK⟩ := ref_run t vars ht out false i hi r (ref_end t vars ht out false i hi r hno (fun w m h => by
      rw [show i + m - (if (false : Bool) = true then 1 else 0) = i + m from rfl]
      exact hyes w m (by rw [if_neg (by rw [hh]; decide)]; exact h)))
    refine ⟨K + 1 + 1, ?_⟩
    simp only [bastionref13_Subst.j2]
    rw [if_neg (by decide)]
    simp only [bastionref13_Subst.j3]
    exact hK
  cases hb : (bytesOf t).drop i with
  | nil =>
    have h1 := List.drop_eq_nil_iff.1 hb
    rw [bytesOf_length] at h1
    obtain ⟨K, hK⟩ := plain (by rw [hb]; rfl)
    refine ⟨K + 1, ?_⟩
    simp only [bastionref13_Subst.j1]
    rw [if_neg (by decide), if_neg (by omega)]
    exact hK
  | cons x l =>
    obtain ⟨hlt, hx, hd'⟩ := bt_drop hb
    by_cases hh : x = 123
    · unfold nameL at hno hyes
      have h123 : headIs 123 ((bytesOf t).drop i) = true := by rw [hb]; exact beq_iff_eq.2 hh
      rw [if_pos h123, List.drop_drop] at hno
      obtain ⟨K, hK⟩ := ref_run t vars ht out true (i + 1) (by omega) r (ref_end t vars ht out true (i + 1) (by omega) r hno (fun w m h => by
        rw [show i + 1 + m - (if (true : Bool) = true then 1 else 0) = i + m from by rw [if_pos rfl]; omega]
        exact hyes w m (by rw [if_pos h123, List.drop_drop]; exact h)))
      refine ⟨K + 1 + 1 + 1, ?_⟩
      simp only [bastionref13_Subst.j1]
      rw [if_neg (by decide), if_pos (by omega), if_pos (by omega), hx, show (x == 123) = true from beq_iff_eq.2 hh]
      simp only [bastionref13_Subst.j2]
      rw [if_pos trivial, wr1 i (by omega)]
      simp only [bastionref13_Subst.j3]
      exact hK
    · obtain ⟨K, hK⟩ := plain (by rw [hb]; exact beq_eq_false_iff_ne.2 hh)
      refine ⟨K + 1, ?_⟩
      simp only [bastionref13_Subst.j1]
      rw [if_neg (by decide), if_pos (by omega), if_pos (by omega), hx, show (x == 123) = false from beq_eq_false_iff_ne.2 hh]
      exact hK
theorem substB (t : ByteArray) (ht : t.size ≤ 4000000) (vars : List S32) (hl : vars.length ≤ 4000000) (hv : ∀ id, (lookR vars id vars.length).1.size ≤ 20000) : ∀ (n i : Nat) (out : List Int) (r : ByteArray × Int), i ≤ t.size → out.length + 20001 * (t.size - i) ≤ 100000000000 →
    spR vars n ((bytesOf t).drop i) out = some r → ∃ K, bastionref13_Subst.l0 K t vars out i = some r := by
  intro n
  induction n with
  | zero => intro i out r _ _ h; cases h
  | succ n ih =>
    intro i out r hi ho h
    cases hb : (bytesOf t).drop i with
    | nil =>
      have h1 := List.drop_eq_nil_iff.1 hb
      rw [bytesOf_length] at h1
      rw [hb, spR] at h
      refine ⟨1, ?_⟩
      simp only [bastionref13_Subst.l0]
      rw [if_neg (by omega), ← h]
      unfold endS
      by_cases hq : 400 < out.length
      · rw [if_pos (by omega), if_pos hq]
      · rw [if_neg (by omega), if_neg hq]
    | cons x l =>
      obtain ⟨hlt, hx, hd'⟩ := bt_drop hb
      rw [hb, spR] at h
      by_cases h36 : x = 36
      · rw [if_neg (fun hh => hh h36)] at h
        by_cases hh : headIs 36 l = true
        · rw [if_pos hh] at h
          cases l with
          | nil => cases hh
          | cons y l =>
            have hy : y = 36 := beq_iff_eq.1 hh
            obtain ⟨hlt2, hx2, hd2⟩ := bt_drop hd'
            obtain ⟨K, hK⟩ := ih (i + 1 + 1) (out ++ [36]) r (by omega) (by rw [List.length_append, List.length_singleton]; omega) (by rw [hd2]; exact h)
            refine ⟨K + 1 + 1, ?_⟩
            simp only [bastionref13_Subst.l0]
            have hx2' : bt t ((i + 1 : Nat) : Int) = y := hx2
            rw [if_pos (by omega), if_pos (by omega), hx, if_pos h36, wr1 i (by omega), if_pos (by omega), if_pos (by omega), hx2', show (y == 36) = true from hh]
            simp only [bastionref13_Subst.j1]
            rw [if_pos trivial, if_pos (by omega), wr1 (i + 1) (by omega)]
            exact hK
        · rw [if_neg hh] at h
          obtain ⟨K, hK⟩ := ref_name t vars ht out (i + 1) (by omega) r (fun hn => by rw [hd'] at hn; rw [hn] at h; exact (Option.some.inj h).symm) (fun w m hn => by
            rw [hd'] at hn
            rw [hn] at h
            simp only at h
            obtain ⟨hm1, hm2, _⟩ := nameL_le hn
            have hll : l.length = t.size - (i + 1) := by rw [← hd', List.length_drop, bytesOf_length]
            have h0 := ref_look t vars hl out ((i + 1 + m : Nat) : Int) (strOfNums w) r (fun hq => by
              rw [if_neg (by rw [hq]; decide)] at h
              have hvs := hv (strOfNums w)
              refine ⟨by omega, ?_⟩
              refine ih (i + 1 + m) _ r (by omega) (by rw [List.length_append, bytesOf_length]; omega) ?_
              rw [← List.drop_drop, hd']
              exact h) (fun hq => by
              rw [if_pos hq] at h
              exact (Option.some.inj h).symm) vars.length 0 (by omega) (by omega)
            exact h0)
          refine ⟨K + 1, ?_⟩
          simp only [bastionref13_Subst.l0]
          rw [if_pos (by omega), if_pos (by omega), hx, if_pos h36, wr1 i (by omega)]
          cases l with
          | nil =>
            have h1 := List.drop_eq_nil_iff.1 hd'
            rw [bytesOf_length] at h1
            rw [if_neg (by omega)]
            exact hK
          | cons y l =>
            obtain ⟨hlt2, hx2, hd2⟩ := bt_drop hd'
            have hx2' : bt t ((i + 1 : Nat) : Int) = y := hx2
            rw [if_pos (by omega), if_pos (by omega), hx2', show (y == 36) = false from Bool.eq_false_iff.2 hh]
            exact hK
      · rw [if_pos h36] at h
        obtain ⟨K, hK⟩ := ih (i + 1) (out ++ [x]) r (by omega) (by rw [List.length_append, List.length_singleton]; omega) (by rw [hd']; exact h)
        refine ⟨K + 1, ?_⟩
        simp only [bastionref13_Subst.l0]
        rw [if_pos (by omega), if_pos (by omega), hx, if_neg h36, if_pos (by omega), wr1 i (by omega)]
        exact hK
end Go.Proofs.Ytdoifpjpdhccdaa.Pure
