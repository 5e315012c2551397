/- What an argument reads as, kind by kind: strings, numbers, slices, structs, and of how many bytes. -/
import Derived.Test.YtloboklomhlkhabGreatDoorEx4
import Derived.Test.YtloboklomhlkhabGreatDoorRows
import Derived.Deep.Slices
import Derived.ChangeArms
import Derived.OpenShut
import Derived.ProofKit
namespace Go.Proofs.YtloboklomhlkhabGreatDoor.Pure
open Go.RowKit Go.Proofs.YtloboklomhlkhabGreatDoor.E Go.Proofs.YtloboklomhlkhabGreatDoorW.PrintWords Go.Proofs.YtloboklomhlkhabGreatDoorW.PrintLast
open Go.ChangeShapes Go.WideShapes Go.ChangeAt

/-- Whatever reads at type t reads as a value of kind d, of no more bulk than the data has. -/
def Op {α : Type} (P : Program) (d : Kd α) (t : TypeId) (blk : α → Nat) : Prop :=
  ∀ {H : Type} (enc : TypeId × Value → H) (W : World) (base : Nat) (spare : Nat → Bool) (held : Bool) (fuel : Nat) (cs : List Value) (x : DataW H × List MemPlace), DataW.trod enc P W base spare held fuel t cs = some x → ∃ a, d.K W a cs ∧ blk a ≤ Rows.uptoBulk x.1
def OpF {α : Type} (P : Program) (d : Kd α) (fs : List Field) (off : Nat) (blk : α → Nat) : Prop :=
  ∀ {H : Type} (enc : TypeId × Value → H) (W : World) (base : Nat) (spare : Nat → Bool) (held : Bool) (fuel : Nat) (cs : List Value) (xs : List (DataW H × List MemPlace)), cs.length = off + d.sz → (fs.mapM fun f => DataW.trod enc P W base spare held fuel f.type ((cs.drop f.offset).take (P.cellsOf f.type))) = some xs → ∃ a, d.K W a (cs.drop off) ∧ blk a ≤ Rows.uptoBulkAll (xs.map (·.1))
section
variable {P : Program}
theorem Op.string {t : TypeId} (ht : P.underlying t = some .string) : Op P Kd.string t (fun s => s.size + 1) := by
  intro H enc W base spare held fuel cs x h
  obtain ⟨s, rfl, rfl, _⟩ := DataW.trod_string ht h
  refine ⟨s, rfl, ?_⟩
  show s.size + 1 ≤ s.data.toList.length + 1
  rw [data_length]
  exact Nat.le_refl _
theorem Op.int {t : TypeId} {k : IntKind} (ht : P.underlying t = some (.int k)) : Op P (Kd.int k) t (fun _ => 0) := by
  intro H enc W base spare held fuel cs x h
  obtain ⟨n, rfl, rfl, _⟩ := DataW.trod_int ht h
  exact ⟨n, rfl, Nat.zero_le _⟩
theorem Op.bool {t : TypeId} (ht : P.underlying t = some .bool) : Op P Kd.bool t (fun _ => 0) := by
  intro H enc W base spare held fuel cs x h
  obtain ⟨b, rfl, rfl⟩ := DataW.trod_bool ht h
  exact ⟨b, rfl, Nat.zero_le _⟩
theorem cells_at {W : World} {base : Nat} {a : Addr} {n : Nat} {cs : List Value} (h : W.cells? base a n = some cs) : cs.length = n ∧ ∀ (j : Nat) (u : Value), cs[j]? = some u → W.cell? (a.add j) = some u := by
  unfold World.cells? at h
  split at h
  · have key : ∀ (l : List Nat) (cs : List Value), (l.mapM fun i => W.cell? (a.add i)) = some cs → cs.length = l.length ∧ ∀ (j : Nat) (u : Value), cs[j]? = some u → ∃ i : Nat, l[j]? = some i ∧ W.cell? (a.add i) = some u := by
      intro l
      induction l with
      | nil => intro cs h; simp at h; subst h; exact ⟨rfl, fun j u h => by simp at h⟩
      | cons i l ih =>
        intro cs h
        rw [List.mapM_cons] at h
        cases hc : W.cell? (a.add i) with
        | none => rw [hc] at h; cases h
        | some v =>
          rw [hc] at h
          cases hm : l.mapM (fun i => W.cell? (a.add i)) with
          | none => rw [hm] at h; cases h
          | some vs =>
            rw [hm] at h
            injection h with h
            subst h
            obtain ⟨h1, h2⟩ := ih vs hm
            refine ⟨by simp [h1], fun j u hj => ?_⟩
            cases j with
            | zero => simp at hj; subst hj; exact ⟨i, rfl, hc⟩
            | succ j => simp at hj; exact h2 j u hj
    obtain ⟨h1, h2⟩ := key _ cs h
    refine ⟨by simpa using h1, fun j u hj => ?_⟩
    obtain ⟨i, hi, hc⟩ := h2 j u hj
    have : i = j := by
      have hlt : j < n := by
        have := (List.getElem?_eq_some_iff.1 hi).1
        simpa using this
      rw [List.getElem?_range hlt] at hi
      injection hi with hi
      exact hi.symm
    rw [this] at hc
    exact hc
  · cases h
theorem add_add (a : Addr) (m j : Nat) : (a.add m).add j = a.add (m + j) := by
  unfold Addr.add
  by_cases hm : m = 0 <;> by_cases hj : j = 0 <;> simp [hm, hj] <;> (try omega) <;> (try (split <;> simp_all <;> omega))
theorem bulk_range {H : Type} (D : Nat → DataW H) (n m : Nat) (b : Nat → Nat) (h : ∀ i, i < n → b (m + i) ≤ Rows.uptoBulk (D (m + i))) : ((List.range' m n).map b).sum ≤ Rows.uptoBulkAll ((List.range' m n).map D) := by
  induction n generalizing m with
  | zero => exact Nat.zero_le _
  | succ n ih =>
    rw [List.range'_succ, List.map_cons, List.map_cons, List.sum_cons, Rows.uptoBulkAll]
    have h1 := h 0 (by omega)
    have h2 := ih (m + 1) (fun i hi => by have := h (i + 1) (by omega); rw [show m + 1 + i = m + (i + 1) by omega]; exact this)
    rw [Nat.add_zero] at h1
    omega
theorem Op.slice {α : Type} {d : Kd α} {t e e' : TypeId} {b : α → Nat} (ht : P.underlying t = some (.slice e)) (hc : P.cellsOf e = d.sz) (h : Op P d e b) : Op P (Kd.slice e' d) t (fun l => (l.map b).sum) := by
  intro H enc W base spare held fuel cs x hx
  rcases Go.Deep.open_slice ht hx with ⟨rfl, rfl⟩ | ⟨a, len, cap, m, n, D, Pl, rfl, _, hl, hm, hmm, rfl, hel⟩
  · exact ⟨[], ⟨none, 0, rfl, Nat.le_refl _, rfl, by simp, fun h => absurd h (by simp)⟩, Nat.zero_le _⟩
  · have hlm : len ≤ m := by rw [hmm]; split <;> omega
    have key : ∀ k, k ≤ len → ∃ l : List α, l.length = k ∧ (∀ i p, l[i]? = some p → b p ≤ Rows.uptoBulk (D i) ∧ ∃ c, c.length = d.sz ∧ d.K W p c ∧ ∀ j u, c[j]? = some u → W.cell? (a.add (i * d.sz + j)) = some u) := by
      intro k
      induction k with
      | zero => intro _; exact ⟨[], rfl, fun i p h => by simp at h⟩
      | succ k ih =>
        intro hk
        obtain ⟨l, h1, h2⟩ := ih (by omega)
        obtain ⟨cs', hcs, ht'⟩ := hel k (by omega)
        obtain ⟨p, hp, hb⟩ := h enc W base spare held n cs' _ ht'
        obtain ⟨c1, c2⟩ := cells_at hcs
        refine ⟨l ++ [p], by rw [List.length_append, h1]; rfl, fun i q hq => ?_⟩
        by_cases hi : i < k
        · rw [List.getElem?_append_left (by omega)] at hq
          exact h2 i q hq
        · rw [List.getElem?_append_right (by omega), h1] at hq
          have : i = k := by
            have := (List.getElem?_eq_some_iff.1 hq).1
            simp at this
            omega
          subst this
          simp at hq
          subst hq
          refine ⟨hb, cs', by rw [c1, hc], hp, fun j u hj => ?_⟩
          have := c2 j u hj
          rw [hc, add_add] at this
          exact this
    obtain ⟨l, h1, h2⟩ := key len (Nat.le_refl _)
    refine ⟨l, ⟨some a, cap, by rw [h1], by omega, rfl, by unfold maxLen at hm; omega, fun _ => ⟨a, rfl, fun j p hp => (h2 j p hp).2⟩⟩, ?_⟩
    have e1 : l.map b = (List.range' 0 len).map fun i => ((l.map b).getD i 0) := by
      apply List.ext_getElem
      · simp [h1]
      · intro i hi1 hi2
        simp at hi1
        simp [hi1, List.getElem?_eq_getElem hi1]
    have h3 := bulk_range D len 0 (fun i => (l.map b).getD i 0) (fun i hi => by
      rw [Nat.zero_add]
      have hil : i < l.length := by omega
      have := (h2 i l[i] (List.getElem?_eq_getElem hil)).1
      simpa [List.getD_eq_getElem?_getD, hil] using this)
    rw [← e1, ← List.range_eq_range'] at h3
    show (l.map b).sum ≤ Rows.uptoBulkAll _ + _ + 1
    omega
theorem OpF.one {α : Type} {d : Kd α} {f : Field} {off : Nat} {b : α → Nat} (ho : f.offset = off) (hc : P.cellsOf f.type = d.sz) (h : Op P d f.type b) : OpF P d [f] off b := by
  intro H enc W base spare held fuel cs xs hl hm
  rw [List.mapM_cons, List.mapM_nil] at hm
  cases ht : DataW.trod enc P W base spare held fuel f.type ((cs.drop f.offset).take (P.cellsOf f.type)) with
  | none => rw [ht] at hm; cases hm
  | some x =>
    rw [ht] at hm
    injection hm with hm
    subst hm
    rw [ho, hc, List.take_of_length_le (by rw [List.length_drop]; omega)] at ht
    obtain ⟨a, ha, hb⟩ := h enc W base spare held fuel _ _ ht
    exact ⟨a, ha, by simp only [List.map_cons, List.map_nil, Rows.uptoBulkAll]; omega⟩
theorem OpF.more {α β : Type} {d : Kd α} {d' : Kd β} {f : Field} {fs : List Field} {off : Nat} {b : α → Nat} {b' : β → Nat} (ho : f.offset = off) (hc : P.cellsOf f.type = d.sz) (h : Op P d f.type b) (h' : OpF P d' fs (off + d.sz) b') : OpF P (Kd.pair d d') (f :: fs) off (fun p => b p.1 + b' p.2) := by
  intro H enc W base spare held fuel cs xs hl hm
  have hl' : cs.length = off + (d.sz + d'.sz) := hl
  rw [List.mapM_cons] at hm
  cases ht : DataW.trod enc P W base spare held fuel f.type ((cs.drop f.offset).take (P.cellsOf f.type)) with
  | none => rw [ht] at hm; cases hm
  | some x =>
    rw [ht] at hm
    cases hr : (fs.mapM fun f => DataW.trod enc P W base spare held fuel f.type ((cs.drop f.offset).take (P.cellsOf f.type))) with
    | none => rw [hr] at hm; cases hm
    | some ys =>
      rw [hr] at hm
      injection hm with hm
      subst hm
      rw [ho, hc] at ht
      obtain ⟨a, ha, hb⟩ := h enc W base spare held fuel _ _ ht
      obtain ⟨a', ha', hb'⟩ := h' enc W base spare held fuel cs ys (by omega) hr
      refine ⟨(a, a'), ⟨_, _, ?_, ha, ha'⟩, by simp only [List.map_cons, Rows.uptoBulkAll]; omega⟩
      rw [← List.drop_drop, List.take_append_drop]
theorem Op.struct {α : Type} {d : Kd α} {t : TypeId} {fs : Array Field} {b : α → Nat} (ht : P.underlying t = some (.struct fs)) (hc : P.cellsOf t = d.sz) (h : OpF P d fs.toList 0 b) : Op P d t (fun x => b x + 1) := by
  intro H enc W base spare held fuel cs x hx
  cases fuel with
  | zero => cases hx
  | succ fuel =>
    simp only [DataW.trod, ht] at hx
    split at hx
    · rename_i hlen
      obtain ⟨xs, hxs, rfl⟩ := Option.map_eq_some_iff.1 hx
      obtain ⟨a, ha, hb⟩ := h enc W base spare held fuel cs xs (by omega) hxs
      rw [List.drop_zero] at ha
      refine ⟨a, ha, ?_⟩
      show b a + 1 ≤ Rows.uptoBulkAll _ + 1
      omega
    · cases hx
theorem Op.iso {α β : Type} {d : Kd α} {t : TypeId} {b : α → Nat} (f : β → α) (g : α → β) (hfg : ∀ a, f (g a) = a) (h : Op P d t b) : Op P (Kd.iso d f) t (fun x => b (f x)) := by
  intro H enc W base spare held fuel cs x hx
  obtain ⟨a, ha, hb⟩ := h enc W base spare held fuel cs x hx
  exact ⟨g a, by show d.K W (f (g a)) cs; rw [hfg]; exact ha, by show b (f (g a)) ≤ _; rw [hfg]; exact hb⟩
end
end Go.Proofs.YtloboklomhlkhabGreatDoor.Pure
