/- ExpandSubst: what both sides tell, over the bytes; expand.Subst tells it. (under way) -/
import Derived.Test.YtloboklomhlkhabGreatDoorPureExpA
namespace Go.Proofs.YtloboklomhlkhabGreatDoor.Pure
open Go.RowKit Go.Proofs.YtloboklomhlkhabGreatDoor.E Go.Proofs.YtloboklomhlkhabGreatDoorW.PrintWords Go.Proofs.YtloboklomhlkhabGreatDoorW.PrintLast
def endS (out : List Int) : ByteArray × Int := if 400 < out.length then (⟨#[]⟩, 40) else (strOfNums out, 0)
def spR (vars : List S29) : Nat → List Int → List Int → Option (ByteArray × Int)
  | 0, _, _ => none
  | _ + 1, [], out => some (endS out)
  | n + 1, x :: r, out =>
    if x ≠ 36 then spR vars n r (out ++ [x])
    else if headIs 36 r = true then spR vars n (r.drop 1) (out ++ [36])
    else match nameL r with
      | none => some (⟨#[]⟩, 4)
      | some (w, m) => if (lookR vars (strOfNums w) vars.length).2 = false then some (⟨#[]⟩, 63) else spR vars n (r.drop m) (out ++ bytesOf (lookR vars (strOfNums w) vars.length).1)
theorem spR_more (vars : List S29) : ∀ (n : Nat) (l out : List Int) (r : ByteArray × Int), spR vars n l out = some r → spR vars (n + 1) l out = some r := by
  intro n
  induction n with
  | zero => intro l out r h; cases h
  | succ n ih =>
    intro l out r h
    cases l with
    | nil => exact h
    | cons x l =>
      rw [spR] at h ⊢
      split
      · rename_i hx
        rw [if_pos hx] at h
        exact ih _ _ _ h
      · rename_i hx
        rw [if_neg hx] at h
        split
        · rename_i hd
          rw [if_pos hd] at h
          exact ih _ _ _ h
        · rename_i hd
          rw [if_neg hd] at h
          cases hn : nameL l with
          | none => rw [hn] at h; exact h
          | some p =>
            rw [hn] at h
            obtain ⟨w, m⟩ := p
            simp only at h ⊢
            split
            · rename_i hl
              rw [if_pos hl] at h
              exact h
            · rename_i hl
              rw [if_neg hl] at h
              exact ih _ _ _ h
theorem spR_pre (vars : List S29) (n : Nat) (l : List Int) : ∀ (pre out : List Int), (∀ x ∈ pre, x ≠ 36) → spR vars (n + pre.length) (pre ++ l) out = spR vars n l (out ++ pre)
  | [], out, _ => by rw [List.append_nil]; rfl
  | x :: pre, out, h => by
    have hx := h x (List.mem_cons_self ..)
    rw [List.length_cons, ← Nat.add_assoc, List.cons_append, spR, if_pos hx, spR_pre vars n l pre (out ++ [x]) (fun y hy => h y (List.mem_cons_of_mem _ hy)), List.append_assoc, List.singleton_append]
theorem spR_at {vars : List S29} {n m : Nat} {l out : List Int} {r : ByteArray × Int} (h : spR vars n l out = some r) (hm : n ≤ m) : spR vars m l out = some r := by
  induction hm with
  | refl => exact h
  | step _ ih => exact spR_more vars _ _ _ _ ih
theorem ne36 {b : UInt8} (h : b ≠ 36) : (b.toNat : Int) ≠ 36 := fun he => h (by
  have h1 : b.toNat = 36 := by omega
  exact UInt8.toNat_inj.1 h1)
theorem cutB_cases (t : ByteArray) : (cutB t 36 = (t, ⟨#[]⟩, false) ∧ ∀ x ∈ bytesOf t, x ≠ 36) ∨ ∃ pre rest, cutB t 36 = (strOfNums pre, strOfNums rest, true) ∧ bytesOf t = pre ++ 36 :: rest ∧ ∀ x ∈ pre, x ≠ 36 := by
  unfold cutB
  by_cases h : 0 ≤ Lib.indexByte t.data.toList 36
  · right
    rw [if_pos h]
    obtain ⟨o, ho⟩ := Int.eq_ofNat_of_zero_le h
    obtain ⟨h1, h2⟩ := Lib.indexByte_some ho
    rw [ho, Int.toNat_natCast]
    have hlt : o < t.data.toList.length := (List.getElem?_eq_some_iff.1 h1).1
    have hlb : o < (bytesOf t).length := by rw [bytesOf_length]; rwa [Array.length_toList] at hlt
    refine ⟨(bytesOf t).take o, (bytesOf t).drop (o + 1), ?_, ?_, ?_⟩
    · rw [ext_drop, List.drop_zero, Nat.sub_zero, strOfNums_drop]
    · have h3 : (bytesOf t)[o] = 36 := by
        have h4 := (List.getElem?_eq_some_iff.1 h1).2
        simp only [bytesOf, List.getElem_map]
        rw [h4]
        rfl
      rw [← h3, ← List.drop_eq_getElem_cons hlb, List.take_append_drop]
    · intro x hx
      obtain ⟨k, hk, rfl⟩ := List.mem_iff_getElem.1 hx
      rw [List.length_take] at hk
      rw [List.getElem_take]
      have h5 := h2 k (by omega)
      simp only [bytesOf, List.getElem_map]
      refine ne36 (fun he => h5 ?_)
      rw [List.getElem?_eq_getElem (by omega), he]
  · left
    rw [if_neg h]
    have hge := Lib.indexByte_ge t.data.toList 36
    have h1 := Lib.indexByte_none (show Lib.indexByte t.data.toList 36 = -1 by omega)
    refine ⟨rfl, fun x hx => ?_⟩
    simp only [bytesOf, List.mem_map] at hx
    obtain ⟨b, hb, rfl⟩ := hx
    obtain ⟨k, hk, he⟩ := List.mem_iff_getElem.1 hb
    exact ne36 (fun h36 => h1 k (by rw [List.getElem?_eq_getElem hk, he, h36]))
theorem nameL_le {l w : List Int} {m : Nat} (h : nameL l = some (w, m)) : m ≤ l.length ∧ 0 < m ∧ (∀ x ∈ w, x ∈ l) := by
  unfold nameL at h
  have key : ∀ (br : Bool) (q : List Int) (hq : br = true → q.length + 1 ≤ l.length), nameAt br q = some (w, m) → m ≤ q.length + (if br = true then 1 else 0) ∧ 0 < m ∧ w = q.take (runL q) := by
    intro br q hq h
    unfold nameAt at h
    by_cases h1 : runL q = 0 ∨ 24 < runL q
    · rw [if_pos h1] at h; cases h
    rw [if_neg h1] at h
    have hle := runL_le q
    by_cases h2 : br = true ∧ headIs 125 (q.drop (runL q)) = false
    · rw [if_pos h2] at h; cases h
    rw [if_neg h2] at h
    injection h with h
    injection h with h3 h4
    cases br with
    | false =>
      simp only [Bool.false_eq_true, if_false] at h4 ⊢
      exact ⟨by omega, by omega, h3.symm⟩
    | true =>
      simp only [if_true] at h4 ⊢
      have h5 : headIs 125 (q.drop (runL q)) = true := by
        cases h6 : headIs 125 (q.drop (runL q)) with
        | true => rfl
        | false => exact absurd ⟨rfl, h6⟩ h2
      have h7 : runL q < q.length := by
        rcases Nat.lt_or_ge (runL q) q.length with h8 | h8
        · exact h8
        · rw [List.drop_eq_nil_of_le h8] at h5; cases h5
      exact ⟨by omega, by omega, h3.symm⟩
  by_cases hb : headIs 123 l = true
  · rw [if_pos hb] at h
    cases l with
    | nil => cases hb
    | cons x l =>
      obtain ⟨h1, h2, h3⟩ := key true l (fun _ => by simp) h
      rw [if_pos rfl] at h1
      exact ⟨by rw [List.length_cons]; omega, h2, fun y hy => List.mem_cons_of_mem _ (List.mem_of_mem_take (h3 ▸ hy))⟩
  · rw [if_neg hb] at h
    obtain ⟨h1, h2, h3⟩ := key false l (fun h => by cases h) h
    exact ⟨by simpa using h1, h2, fun y hy => List.mem_of_mem_take (h3 ▸ hy)⟩
theorem substA (vars : List S29) (hv : ∀ id, (lookR vars id vars.length).1.size ≤ 2000000) : ∀ (K : Nat) (t : ByteArray) (out : List Int), t.size < K → t.size ≤ 4000000 → out.length + 2000001 * t.size ≤ 100000000000 →
    ∃ n r, spR vars n (bytesOf t) out = some r ∧ substR vars K t out = some r := by
  intro K
  induction K with
  | zero => intro t out h; omega
  | succ K ih =>
    intro t out hK ht ho
    have hcut : strings_Cut.f t ⟨#[36]⟩ = some (cutB t 36) := by
      unfold strings_Cut.f
      rw [if_pos ⟨rfl, by omega⟩]
      rfl
    rw [substR, hcut]
    simp only [Option.bind_some]
    rcases cutB_cases t with ⟨hc, h36⟩ | ⟨pre, rest, hc, hT, h36⟩
    · rw [hc]
      simp only
      rw [if_pos (by omega), if_pos trivial]
      refine ⟨1 + (bytesOf t).length, endS (out ++ bytesOf t), ?_, ?_⟩
      · have h := spR_pre vars 1 [] (bytesOf t) out h36
        rw [List.append_nil] at h
        rw [h]
        rfl
      · unfold endS
        split <;> rfl
    · rw [hc]
      simp only
      have hu : ∀ x ∈ bytesOf t, 0 ≤ x ∧ x ≤ 255 := bytes_u8 t
      have hpu : bytesOf (strOfNums pre) = pre := bytesOf_strOfNums _ (fun x hx => hu x (by rw [hT]; exact List.mem_append_left _ hx))
      have hru : bytesOf (strOfNums rest) = rest := bytesOf_strOfNums _ (fun x hx => hu x (by rw [hT]; exact List.mem_append_right _ (List.mem_cons_of_mem _ hx)))
      have hsz : t.size = pre.length + (rest.length + 1) := by rw [← bytesOf_length, hT, List.length_append, List.length_cons]
      have hrs : (strOfNums rest).size = rest.length := strOfNums_size rest
      rw [if_pos (by rw [strOfNums_size]; omega), if_neg (by simp), hpu, show (⟨#[36]⟩ : ByteArray) = ⟨#[(36 : UInt8)]⟩ from rfl, hasP', hru]
      simp only [Option.bind_some]
      have hstep : ∀ (n : Nat) (r : ByteArray × Int), spR vars (n + 1) (36 :: rest) (out ++ pre) = some r → spR vars (n + 1 + pre.length) (bytesOf t) out = some r := fun n r h => by rw [hT, spR_pre vars (n + 1) (36 :: rest) pre out h36]; exact h
      by_cases hd : headIs 36 rest = true
      · rw [show headIs (((36 : UInt8).toNat : Nat) : Int) rest = true from hd, if_pos rfl]
        have hr1 : 1 ≤ rest.length := by
          cases rest with
          | nil => cases hd
          | cons x l => rw [List.length_cons]; omega
        rw [if_pos (by omega)]
        have he : bytesOf ((strOfNums rest).extract 1 (strOfNums rest).size) = rest.drop 1 := by rw [bytesOf_tail, hru]
        obtain ⟨n, r, h1, h2⟩ := ih ((strOfNums rest).extract 1 (strOfNums rest).size) (out ++ pre ++ [36]) (by rw [ByteArray.size_extract]; omega) (by rw [ByteArray.size_extract]; omega) (by rw [ByteArray.size_extract, List.length_append, List.length_append, List.length_singleton]; omega)
        rw [he] at h1
        refine ⟨_, r, hstep n r ?_, h2⟩
        rw [spR, if_neg (by simp), if_pos hd]
        exact h1
      · have hd' : headIs 36 rest = false := Bool.eq_false_iff.2 hd
        rw [show headIs (((36 : UInt8).toNat : Nat) : Int) rest = false from hd', if_neg (by decide)]
        obtain ⟨K1, hK1, hN⟩ := name_f (strOfNums rest) (by omega)
        rw [hru] at hN
        rw [at_rounds (g := fun k => expand_name.f k (strOfNums rest)) (fun k => expand_name.mono _ k) (show K1 ≤ 10000000 by omega) hN]
        simp only [Option.bind_some]
        cases hn : nameL rest with
        | none =>
          refine ⟨_, (⟨#[]⟩, 4), hstep 0 _ ?_, rfl⟩
          rw [spR, if_neg (by simp), if_neg hd, hn]
        | some p =>
          obtain ⟨w, m⟩ := p
          obtain ⟨hm1, hm2, hm3⟩ := nameL_le hn
          rw [show outN (some (w, m)) = (strOfNums w, (m : Int), true) from rfl]
          dsimp only
          rw [if_neg (show ¬ ((true : Bool) = false) by decide)]
          by_cases hl : (lookR vars (strOfNums w) vars.length).2 = false
          · rw [if_pos hl]
            refine ⟨_, (⟨#[]⟩, 63), hstep 0 _ ?_, rfl⟩
            rw [spR, if_neg (by simp), if_neg hd, hn]
            simp only
            rw [if_pos hl]
          · have hvs := hv (strOfNums w)
            rw [if_neg hl, if_pos ⟨by rw [List.length_append]; omega, by omega, by omega⟩, Int.toNat_natCast]
            have he : bytesOf ((strOfNums rest).extract m (strOfNums rest).size) = rest.drop m := by rw [bytesOf_tail, hru]
            obtain ⟨n, r, h1, h2⟩ := ih ((strOfNums rest).extract m (strOfNums rest).size) (out ++ pre ++ bytesOf (lookR vars (strOfNums w) vars.length).1) (by rw [ByteArray.size_extract]; omega) (by rw [ByteArray.size_extract]; omega) (by rw [ByteArray.size_extract, List.length_append, List.length_append, bytesOf_length]; omega)
            rw [he] at h1
            refine ⟨_, r, hstep n r ?_, h2⟩
            rw [spR, if_neg (by simp), if_neg hd, hn]
            simp only
            rw [if_neg hl]
            exact h1
end Go.Proofs.YtloboklomhlkhabGreatDoor.Pure
