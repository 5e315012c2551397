/- ExpandPlain: the plain law: a text with each $ doubled is put in as the text; a text without $ is itself. -/
import Derived.Test.YtloboklomhlkhabGreatDoorPureExpB
namespace Go.Proofs.YtloboklomhlkhabGreatDoor.Pure
open Go.RowKit Go.Proofs.YtloboklomhlkhabGreatDoor.E Go.Proofs.YtloboklomhlkhabGreatDoorW.PrintWords Go.Proofs.YtloboklomhlkhabGreatDoorW.PrintLast
def dbl (l : List Int) : List Int := l.flatMap fun x => if x = 36 then [36, 36] else [x]
theorem dbl_cons (x : Int) (l : List Int) : dbl (x :: l) = (if x = 36 then [36, 36] else [x]) ++ dbl l := by unfold dbl; rw [List.flatMap_cons]
theorem dbl_len (l : List Int) : (dbl l).length ≤ 2 * l.length := by
  induction l with
  | nil => simp [dbl]
  | cons x l ih => rw [dbl_cons, List.length_append, List.length_cons]; split <;> simp <;> omega
theorem dbl_B : ∀ (l : List Int), (∀ x ∈ l, 0 ≤ x ∧ x ≤ 255) → ∀ x ∈ dbl l, 0 ≤ x ∧ x ≤ 255
  | [], _ => fun x h => by cases h
  | y :: l, h => fun x hx => by
    rw [dbl_cons] at hx
    rcases List.mem_append.1 hx with hx | hx
    · split at hx
      · simp at hx; omega
      · simp at hx; subst hx; exact h _ (List.mem_cons_self ..)
    · exact dbl_B l (fun z hz => h z (List.mem_cons_of_mem _ hz)) x hx
theorem spR_dbl (vars : List S29) : ∀ (l out : List Int), ∃ n, spR vars n (dbl l) out = some (endS (out ++ l))
  | [], out => ⟨1, by rw [List.append_nil]; rfl⟩
  | x :: l, out => by
    rw [dbl_cons]
    by_cases hx : x = 36
    · obtain ⟨n, h⟩ := spR_dbl vars l (out ++ [36])
      refine ⟨n + 1, ?_⟩
      rw [if_pos hx]
      show spR vars (n + 1) (36 :: 36 :: dbl l) out = _
      rw [spR, if_neg (by simp), if_pos (show headIs 36 (36 :: dbl l) = true from rfl), List.drop_succ_cons, List.drop_zero, h, hx, List.append_assoc]
      rfl
    · obtain ⟨n, h⟩ := spR_dbl vars l (out ++ [x])
      refine ⟨n + 1, ?_⟩
      rw [if_neg hx]
      show spR vars (n + 1) (x :: dbl l) out = _
      rw [spR, if_pos hx, h, List.append_assoc]
      rfl
theorem spR_one {vars : List S29} {n m : Nat} {l out : List Int} {r r' : ByteArray × Int} (h : spR vars n l out = some r) (h' : spR vars m l out = some r') : r = r' := by
  have h1 := spR_at h (Nat.le_max_left n m)
  have h2 := spR_at h' (Nat.le_max_right n m)
  exact Option.some.inj (h1.symm.trans h2)
theorem subst_f (vars : List S29) (hn : vars.length ≤ 4000000) (hv : ∀ id, (lookR vars id vars.length).1.size ≤ 2000000) (t : ByteArray) (ht : t.size ≤ 4000) : ∃ n r, spR vars n (bytesOf t) [] = some r ∧ expand_Subst.f t vars = some r := by
  obtain ⟨n, r, h1, h2⟩ := substA vars hv (t.size + 1) t [] (by omega) (by omega) (by rw [List.length_nil]; omega)
  refine ⟨n, r, h1, ?_⟩
  unfold expand_Subst.f
  rw [if_pos (by omega)]
  exact h2
theorem plain_l (a : ByteArray) (vars : List S29) (ha : a.size ≤ 1000) : ∀ (m i k : Nat) (d : List Int) (pl : Bool), m = a.size - i → i ≤ a.size → d.length ≤ 2 * i →
    bastionlaw13_ExpandPlain.l0 (k + m) a vars (strOfNums d) pl (i : Int) = bastionlaw13_ExpandPlain.l0 k a vars (strOfNums (d ++ dbl ((bytesOf a).drop i))) (pl && ((bytesOf a).drop i).all (fun x => decide (x ≠ 36))) (a.size : Int) := by
  intro m
  induction m with
  | zero =>
    intro i k d pl hm hi hd
    rw [List.drop_eq_nil_of_le (by rw [bytesOf_length]; omega), show i = a.size by omega]
    simp [dbl]
  | succ m ih =>
    intro i k d pl hm hi hd
    cases hb : (bytesOf a).drop i with
    | nil => have h := congrArg List.length hb; rw [List.length_drop, bytesOf_length, List.length_nil] at h; omega
    | cons c r =>
      obtain ⟨h1, h2, h3⟩ := bt_drop hb
      have hext : a.extract i (i + 1) = strOfNums [c] := by rw [ext_drop, hb, show i + 1 - i = 1 by omega]; rfl
      rw [← Nat.add_assoc]
      generalize hK : k + m = K
      rw [show K + 1 = K.succ from rfl]
      simp only [bastionlaw13_ExpandPlain.l0]
      rw [wr1 i (by omega), if_pos (by omega), if_pos (by omega), if_pos (by omega), if_pos (by omega), Int.toNat_natCast, Int.toNat_natCast, hext, h2, ← strOfNums_app, strOfNums_size, strOfNums_size, List.length_singleton, if_pos (by omega), dbl_cons, List.all_cons]
      by_cases hc : c = 36
      · rw [if_pos hc, if_pos hc, strOfNums_size, List.length_append, List.length_singleton, if_pos (by omega), show (⟨#[36]⟩ : ByteArray) = strOfNums [36] from rfl, ← strOfNums_app, ← hK, ih (i + 1) k _ _ (by omega) (by omega) (by simp; omega), h3, hc]
        simp
      · rw [if_neg hc, if_neg hc, ← hK, ih (i + 1) k _ _ (by omega) (by omega) (by simp; omega), h3]
        simp [hc]
theorem ExpandPlain (a : ByteArray) (vars : List S29) (hn : vars.length ≤ 4000000) (hv : ∀ id, (lookR vars id vars.length).1.size ≤ 2000000) : ∃ k, bastionlaw13_ExpandPlain.f k a vars = some true := by
  by_cases hbig : (a.size : Int) > 1000
  · refine ⟨1, ?_⟩
    unfold bastionlaw13_ExpandPlain.f
    rw [show bastionlaw13_works.f = some true from rfl]
    simp only [Option.bind_some]
    rw [if_pos trivial, bastionlaw13_ExpandPlain.j0, decide_eq_true hbig, if_pos rfl]
    rfl
  refine ⟨1 + a.size + 1, ?_⟩
  unfold bastionlaw13_ExpandPlain.f
  rw [show bastionlaw13_works.f = some true from rfl]
  simp only [Option.bind_some]
  rw [if_pos trivial, bastionlaw13_ExpandPlain.j0, decide_eq_false hbig, if_neg (by decide)]
  have hl := plain_l a vars (by omega) a.size 0 1 [] true (by omega) (by omega) (Nat.zero_le _)
  rw [show ((0 : Nat) : Int) = 0 from rfl, show strOfNums [] = (⟨#[]⟩ : ByteArray) from rfl, List.drop_zero, List.nil_append, Bool.true_and] at hl
  rw [hl]
  have hB := bytes_u8 a
  have hds : (strOfNums (dbl (bytesOf a))).size ≤ 2000 := by
    rw [strOfNums_size]
    have := dbl_len (bytesOf a)
    rw [bytesOf_length] at this
    omega
  obtain ⟨n1, r1, h1, e1⟩ := subst_f vars hn hv (strOfNums (dbl (bytesOf a))) (by omega)
  rw [bytesOf_strOfNums _ (dbl_B _ hB)] at h1
  obtain ⟨n2, h2⟩ := spR_dbl vars (bytesOf a) []
  obtain rfl := spR_one h1 h2
  rw [bastionlaw13_ExpandPlain.l0, if_neg (by omega), e1]
  simp only [Option.bind_some, List.nil_append]
  have hlen := bytesOf_length a
  by_cases h400 : (a.size : Int) > 400
  · rw [if_pos h400, show endS (bytesOf a) = (⟨#[]⟩, 40) from by unfold endS; rw [if_pos (by omega)]]
    show (if ((40 : Int) = 40) then some ((⟨#[]⟩ : ByteArray).toList == ([] : List UInt8)) else some false) = some true
    rw [if_pos rfl, Lib.toList_data]
    rfl
  rw [if_neg h400, show endS (bytesOf a) = (a, 0) from by unfold endS; rw [if_neg (by omega), strOfNums_bytesOf]]
  obtain ⟨n3, r3, h3, e3⟩ := subst_f vars hn hv a (by omega)
  rw [e3]
  simp only [Option.bind_some]
  rw [if_pos trivial, if_pos trivial]
  by_cases hp : (bytesOf a).all (fun x => decide (x ≠ 36)) = true
  · rw [if_pos hp]
    have h4 := spR_pre vars 1 [] (bytesOf a) [] (fun x hx => of_decide_eq_true (List.all_eq_true.1 hp x hx))
    rw [List.append_nil, List.nil_append] at h4
    obtain rfl := spR_one h3 (h4.trans rfl)
    rw [show endS (bytesOf a) = (a, 0) from by unfold endS; rw [if_neg (by omega), strOfNums_bytesOf]]
    simp
  · rw [if_neg hp]
theorem look_size (vars : List S29) (M : Nat) (id : ByteArray) : ∀ n : Nat, (∀ x ∈ vars, x.f1.size ≤ M) → (lookR vars id n).1.size ≤ M
  | 0, _ => by rw [lookR]; exact Nat.zero_le _
  | n + 1, h => by
    rw [lookR]
    split
    · show (rd_T29 vars n).f1.size ≤ M
      unfold rd_T29
      rw [Int.toNat_natCast, List.getD_eq_getElem?_getD]
      by_cases hlt : n < vars.length
      · rw [List.getElem?_eq_getElem hlt]
        exact h _ (List.getElem_mem hlt)
      · rw [List.getElem?_eq_none (by omega)]
        exact Nat.zero_le _
    · exact look_size vars M id n h
end Go.Proofs.YtloboklomhlkhabGreatDoor.Pure
