/- The lines of a text as words.Lines reads them, without the program. -/
import Derived.Test.YtckfpbkckffjjaaDoorSpecB
import Derived.Test.YtckfpbkckffjjaaDoorXx8
namespace Go.Proofs.YtckfpbkckffjjaaDoor.Pure
open Go.RowKit Go.Proofs.YtckfpbkckffjjaaDoor.X Go.Proofs.YtckfpbkckffjjaaDoorW.PrintWords Go.Proofs.YtckfpbkckffjjaaDoorW.PrintLast

/-- What both splittings tell of a text. -/
noncomputable def sig (a : ByteArray) : List ByteArray × Int := if a.size ≤ 400 then outW [] (spl (a.size + 1) (bytesOf a)) else ([], 40)
theorem sig_w (a : ByteArray) (k : Nat) (hk : 400000 ≤ k) : words_Split.f k a = some (sig a) := by
  unfold sig
  by_cases h : a.size ≤ 400
  · rw [if_pos h, split_f a k h hk]
  · rw [if_neg h]; unfold words_Split.f; rw [if_pos (by omega)]
theorem sig_r (a : ByteArray) (k : Nat) (hk : 400000 ≤ k) : bastionref02_Split.f k a = some (sig a) := by
  unfold sig
  by_cases h : a.size ≤ 400
  · rw [if_pos h, splitR_f a k h hk]
  · rw [if_neg h]; unfold bastionref02_Split.f; rw [if_pos (by omega)]
theorem sig_len (a : ByteArray) : (sig a).1.length ≤ 401 := by
  unfold sig
  by_cases h : a.size ≤ 400
  · rw [if_pos h]
    cases hs : spl (a.size + 1) (bytesOf a) with
    | none => simp [outW]
    | some ws =>
      have := spl_len _ _ _ hs
      simp [outW]
      omega
  · rw [if_neg h]; simp

/-- The lines, by themselves: the pieces yet to come, how many lines stand behind us, what we have. -/
noncomputable def goL : List ByteArray → Nat → List (Int × List ByteArray) → List (Int × List ByteArray) × Int × Int
  | [], _, out => (out, 0, 0)
  | p :: P, n, out => if (sig p).2 = 0 then (if 0 < (sig p).1.length then goL P (n + 1) (out ++ [(((n + 1 : Nat) : Int), (sig p).1)]) else goL P (n + 1) out) else ([], ((n + 1 : Nat) : Int), (sig p).2)
def mk40 (e : Int × List ByteArray) : S40 := ⟨e.1, e.2⟩
def mk41 (e : Int × List ByteArray) : S41 := ⟨e.1, e.2⟩
def res40 (x : List (Int × List ByteArray) × Int × Int) : List S40 × Int × Int := (x.1.map mk40, x.2.1, x.2.2)
def res41 (x : List (Int × List ByteArray) × Int × Int) : List S41 × Int × Int := (x.1.map mk41, x.2.1, x.2.2)

theorem goL_ok : ∀ (P : List ByteArray) (n : Nat) (out : List (Int × List ByteArray)), (∀ e ∈ out, e.2.length ≤ 401) → (∀ e ∈ (goL P n out).1, e.2.length ≤ 401) ∧ (goL P n out).1.length ≤ out.length + P.length := by
  intro P
  induction P with
  | nil => intro n out h; exact ⟨h, by simp [goL]⟩
  | cons p P ih =>
    intro n out h
    simp only [goL]
    by_cases h0 : (sig p).2 = 0
    · rw [if_pos h0]
      by_cases h1 : 0 < (sig p).1.length
      · rw [if_pos h1]
        obtain ⟨a, b⟩ := ih (n + 1) (out ++ [(((n + 1 : Nat) : Int), (sig p).1)]) (fun e he => by
          rcases List.mem_append.1 he with he | he
          · exact h e he
          · rw [List.mem_singleton] at he; subst he; exact sig_len p)
        exact ⟨a, by rw [List.length_append, List.length_singleton] at b; rw [List.length_cons]; omega⟩
      · rw [if_neg h1]
        obtain ⟨a, b⟩ := ih (n + 1) out h
        exact ⟨a, by rw [List.length_cons]; omega⟩
    · rw [if_neg h0]
      exact ⟨fun e he => by simp at he, by simp⟩

theorem rdOf_at (T : List ByteArray) (i : Nat) (p : ByteArray) (P : List ByteArray) (h : T.drop i = p :: P) : i < T.length ∧ rdOf ByteArray.empty T i = p ∧ T.drop (i + 1) = P := by
  have hlt : i < T.length := by
    by_cases hh : i < T.length
    · exact hh
    · rw [List.drop_eq_nil_of_le (by omega)] at h; cases h
  rw [List.drop_eq_getElem_cons hlt] at h
  have h1 := (List.cons.inj h).1
  refine ⟨hlt, ?_, (List.cons.inj h).2⟩
  unfold rdOf
  rw [Int.toNat_natCast, List.getD_eq_getElem?_getD, List.getElem?_eq_getElem hlt, Option.getD_some, h1]
theorem linesA (T : List ByteArray) (hT : T.length ≤ 1000000) : ∀ (P : List ByteArray) (i k : Nat) (out : List (Int × List ByteArray)), T.drop i = P → i ≤ T.length → out.length ≤ i → 400000 + P.length + 1 ≤ k →
    words_Lines.l0 k (out.map mk40) T (T.length : Int) i = some (res40 (goL P i out)) := by
  intro P
  induction P with
  | nil =>
    intro i k out h hi ho hk
    obtain ⟨k, rfl⟩ : ∃ k2, k = k2 + 1 := ⟨k - 1, by omega⟩
    have : T.length ≤ i := by
      have := congrArg List.length h
      rw [List.length_drop, List.length_nil] at this
      omega
    simp only [words_Lines.l0]
    rw [if_neg (by omega)]
    rfl
  | cons p P ih =>
    intro i k out h hi ho hk
    obtain ⟨k, rfl⟩ : ∃ k2, k = k2 + 1 := ⟨k - 1, by omega⟩
    rw [List.length_cons] at hk
    obtain ⟨hlt, hr, hd⟩ := rdOf_at T i p P h
    simp only [words_Lines.l0]
    rw [if_pos (by omega), if_pos (by omega), if_pos (by omega), hr, sig_w p k (by omega), wr1 i (by omega)]
    simp only [Option.bind_some, goL]
    by_cases h0 : (sig p).2 = 0
    · rw [if_pos h0, if_pos h0]
      by_cases h1 : 0 < (sig p).1.length
      · rw [if_pos (by omega), if_pos (by rw [List.length_map]; omega), if_pos h1]
        rw [← ih (i + 1) k (out ++ [(((i + 1 : Nat) : Int), (sig p).1)]) hd (by omega) (by rw [List.length_append, List.length_singleton]; omega) (by omega), List.map_append]
        rfl
      · rw [if_neg (by omega), if_neg h1]
        exact ih (i + 1) k out hd (by omega) (by omega) (by omega)
    · rw [if_neg h0, if_neg h0]
      rfl

def mkB (l : List UInt8) : ByteArray := ⟨l.toArray⟩
theorem ext_mk (x : ByteArray) (s j : Nat) : x.extract s j = mkB ((x.data.toList.drop s).take (j - s)) := by
  apply ByteArray.ext
  apply Array.ext'
  simp only [mkB, ByteArray.data_extract, Array.toList_extract, List.extract_eq_take_drop]
end Go.Proofs.YtckfpbkckffjjaaDoor.Pure
