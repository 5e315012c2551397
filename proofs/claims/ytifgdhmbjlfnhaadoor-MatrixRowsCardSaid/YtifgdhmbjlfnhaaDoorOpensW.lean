/- What an argument reads as, kind by kind, and that each string and slice in it is within a claim's reach. -/
import Derived.Test.YtifgdhmbjlfnhaaDoorOpensG
namespace Go.Proofs.YtifgdhmbjlfnhaaDoor.Pure
open Go.RowKit Go.Proofs.YtifgdhmbjlfnhaaDoor.M Go.Proofs.YtifgdhmbjlfnhaaDoorW.PrintWords Go.Proofs.YtifgdhmbjlfnhaaDoorW.PrintLast
open Go.ChangeShapes Go.WideShapes Go.ChangeAt

/-- Whatever reads at type t reads as a value of kind d; where what was read is within reach, Q holds of the value. -/
def OpW {α : Type} (P : Program) (d : Kd α) (t : TypeId) (Q : α → Prop) : Prop :=
  ∀ {H : Type} (enc : TypeId × Value → H) (W : World) (base : Nat) (spare : Nat → Bool) (held : Bool) (fuel : Nat) (cs : List Value) (x : DataW H × List MemPlace), DataW.trod enc P W base spare held fuel t cs = some x → ∃ a, d.K W a cs ∧ ((∀ n ∈ x.1.weights P t, n ≤ reachBytes) → Q a)
def OpFW {α : Type} (P : Program) (d : Kd α) (fs : List Field) (off : Nat) (Q : α → Prop) : Prop :=
  ∀ {H : Type} (enc : TypeId × Value → H) (W : World) (base : Nat) (spare : Nat → Bool) (held : Bool) (fuel : Nat) (cs : List Value) (xs : List (DataW H × List MemPlace)), cs.length = off + d.sz → (fs.mapM fun f => DataW.trod enc P W base spare held fuel f.type ((cs.drop f.offset).take (P.cellsOf f.type))) = some xs → ∃ a, d.K W a (cs.drop off) ∧ ((∀ n ∈ DataW.weightsEach P (fs.map (·.type)) (xs.map (·.1)), n ≤ reachBytes) → Q a)
section
variable {P : Program}
theorem OpW.string {t : TypeId} (ht : P.underlying t = some .string) : OpW P Kd.string t (fun s => s.size ≤ reachBytes) := by
  intro H enc W base spare held fuel cs x h
  obtain ⟨s, rfl, rfl, _⟩ := DataW.trod_string ht h
  refine ⟨s, rfl, fun hw => ?_⟩
  have h1 := hw s.data.toList.length (by simp [DataW.weights])
  rw [data_length] at h1
  exact h1
theorem OpW.int {t : TypeId} {k : IntKind} (ht : P.underlying t = some (.int k)) : OpW P (Kd.int k) t (fun _ => True) := by
  intro H enc W base spare held fuel cs x h
  obtain ⟨n, rfl, rfl, _⟩ := DataW.trod_int ht h
  exact ⟨n, rfl, fun _ => trivial⟩
theorem OpW.bool {t : TypeId} (ht : P.underlying t = some .bool) : OpW P Kd.bool t (fun _ => True) := by
  intro H enc W base spare held fuel cs x h
  obtain ⟨b, rfl, rfl⟩ := DataW.trod_bool ht h
  exact ⟨b, rfl, fun _ => trivial⟩
theorem weights_all {H : Type} {e : TypeId} {d : DataW H} {n : Nat} : ∀ {ds : List (DataW H)}, d ∈ ds → n ∈ d.weights P e → n ∈ DataW.weightsAll P e ds
  | c :: ds, hd, hn => by
    rw [DataW.weightsAll, List.mem_append]
    rcases List.mem_cons.1 hd with rfl | hd
    · exact .inl hn
    · exact .inr (weights_all hd hn)
theorem OpW.slice {α : Type} {d : Kd α} {t e e' : TypeId} {Q : α → Prop} (ht : P.underlying t = some (.slice e)) (hc : P.cellsOf e = d.sz) (h : OpW P d e Q) : OpW P (Kd.slice e' d) t (fun l => l.length * P.bytesOf e ≤ reachBytes ∧ ∀ p ∈ l, Q p) := by
  intro H enc W base spare held fuel cs x hx
  rcases Go.Deep.open_slice ht hx with ⟨rfl, rfl⟩ | ⟨a, len, cap, m, n, D, Pl, rfl, _, hl, hm, hmm, rfl, hel⟩
  · exact ⟨[], ⟨none, 0, rfl, Nat.le_refl _, rfl, by simp, fun h => absurd h (by simp)⟩, fun _ => ⟨by simp, fun p hp => by cases hp⟩⟩
  · have hlm : len ≤ m := by rw [hmm]; split <;> omega
    have key : ∀ k, k ≤ len → ∃ l : List α, l.length = k ∧ (∀ i p, l[i]? = some p → ((∀ n ∈ (D i).weights P e, n ≤ reachBytes) → Q p) ∧ ∃ c, c.length = d.sz ∧ d.K W p c ∧ ∀ j u, c[j]? = some u → W.cell? (a.add (i * d.sz + j)) = some u) := by
      intro k
      induction k with
      | zero => intro _; exact ⟨[], rfl, fun i p h => by simp at h⟩
      | succ k ih =>
        intro hk
        obtain ⟨l, h1, h2⟩ := ih (by omega)
        obtain ⟨cs', hcs, ht'⟩ := hel k (by omega)
        obtain ⟨p, hp, hb⟩ := h enc W base spare held n cs' _ ht'
        obtain ⟨c1, c2⟩ := cells_at hcs
        refine ⟨l ++ [p], by rw [List.length_append, h1]; rfl, fun i q hq => ?_⟩
        by_cases hi : i < k
        · rw [List.getElem?_append_left (by omega)] at hq
          exact h2 i q hq
        · rw [List.getElem?_append_right (by omega), h1] at hq
          have : i = k := by
            have := (List.getElem?_eq_some_iff.1 hq).1
            simp at this
            omega
          subst this
          simp at hq
          subst hq
          refine ⟨hb, cs', by rw [c1, hc], hp, fun j u hj => ?_⟩
          have := c2 j u hj
          rw [hc, add_add] at this
          exact this
    obtain ⟨l, h1, h2⟩ := key len (Nat.le_refl _)
    refine ⟨l, ⟨some a, cap, by rw [h1], by omega, rfl, by unfold maxLen at hm; omega, fun _ => ⟨a, rfl, fun j p hp => (h2 j p hp).2⟩⟩, fun hw => ?_⟩
    simp only [DataW.weights, ht] at hw
    refine ⟨?_, fun p hp => ?_⟩
    · have h3 := hw _ (List.mem_cons_self ..)
      rw [List.length_map, List.length_range] at h3
      rw [h1]
      exact Nat.le_trans (Nat.mul_le_mul_right _ (Nat.le_add_right _ _)) h3
    · obtain ⟨i, hi, rfl⟩ := List.mem_iff_getElem.1 hp
      refine (h2 i l[i] (List.getElem?_eq_getElem hi)).1 (fun n hn => hw n ?_)
      exact List.mem_cons_of_mem _ (List.mem_append_left _ (weights_all (List.mem_map.2 ⟨i, List.mem_range.2 (by omega), rfl⟩) hn))
theorem OpFW.one {α : Type} {d : Kd α} {f : Field} {off : Nat} {Q : α → Prop} (ho : f.offset = off) (hc : P.cellsOf f.type = d.sz) (h : OpW P d f.type Q) : OpFW P d [f] off Q := by
  intro H enc W base spare held fuel cs xs hl hm
  rw [List.mapM_cons, List.mapM_nil] at hm
  cases ht : DataW.trod enc P W base spare held fuel f.type ((cs.drop f.offset).take (P.cellsOf f.type)) with
  | none => rw [ht] at hm; cases hm
  | some x =>
    rw [ht] at hm
    injection hm with hm
    subst hm
    rw [ho, hc, List.take_of_length_le (by rw [List.length_drop]; omega)] at ht
    obtain ⟨a, ha, hb⟩ := h enc W base spare held fuel _ _ ht
    refine ⟨a, ha, fun hw => hb (fun n hn => hw n ?_)⟩
    simp only [List.map_cons, List.map_nil, DataW.weightsEach, List.append_nil]
    exact hn
theorem OpFW.more {α β : Type} {d : Kd α} {d' : Kd β} {f : Field} {fs : List Field} {off : Nat} {Q : α → Prop} {Q' : β → Prop} (ho : f.offset = off) (hc : P.cellsOf f.type = d.sz) (h : OpW P d f.type Q) (h' : OpFW P d' fs (off + d.sz) Q') : OpFW P (Kd.pair d d') (f :: fs) off (fun p => Q p.1 ∧ Q' p.2) := by
  intro H enc W base spare held fuel cs xs hl hm
  have hl' : cs.length = off + (d.sz + d'.sz) := hl
  rw [List.mapM_cons] at hm
  cases ht : DataW.trod enc P W base spare held fuel f.type ((cs.drop f.offset).take (P.cellsOf f.type)) with
  | none => rw [ht] at hm; cases hm
  | some x =>
    rw [ht] at hm
    cases hr : (fs.mapM fun f => DataW.trod enc P W base spare held fuel f.type ((cs.drop f.offset).take (P.cellsOf f.type))) with
    | none => rw [hr] at hm; cases hm
    | some ys =>
      rw [hr] at hm
      injection hm with hm
      subst hm
      rw [ho, hc] at ht
      obtain ⟨a, ha, hb⟩ := h enc W base spare held fuel _ _ ht
      obtain ⟨a', ha', hb'⟩ := h' enc W base spare held fuel cs ys (by omega) hr
      refine ⟨(a, a'), ⟨_, _, ?_, ha, ha'⟩, fun hw => ?_⟩
      · rw [← List.drop_drop, List.take_append_drop]
      · simp only [List.map_cons, DataW.weightsEach] at hw
        exact ⟨hb (fun n hn => hw n (List.mem_append_left _ hn)), hb' (fun n hn => hw n (List.mem_append_right _ hn))⟩
theorem OpW.struct {α : Type} {d : Kd α} {t : TypeId} {fs : Array Field} {Q : α → Prop} (ht : P.underlying t = some (.struct fs)) (hc : P.cellsOf t = d.sz) (h : OpFW P d fs.toList 0 Q) : OpW P d t Q := by
  intro H enc W base spare held fuel cs x hx
  cases fuel with
  | zero => cases hx
  | succ fuel =>
    simp only [DataW.trod, ht] at hx
    split at hx
    · rename_i hlen
      obtain ⟨xs, hxs, rfl⟩ := Option.map_eq_some_iff.1 hx
      obtain ⟨a, ha, hb⟩ := h enc W base spare held fuel cs xs (by omega) hxs
      rw [List.drop_zero] at ha
      refine ⟨a, ha, fun hw => hb (fun n hn => hw n ?_)⟩
      simp only [DataW.weights, ht]
      exact hn
    · cases hx
theorem OpW.iso {α β : Type} {d : Kd α} {t : TypeId} {Q : α → Prop} (f : β → α) (g : α → β) (hfg : ∀ a, f (g a) = a) (h : OpW P d t Q) : OpW P (Kd.iso d f) t (fun x => Q (f x)) := by
  intro H enc W base spare held fuel cs x hx
  obtain ⟨a, ha, hb⟩ := h enc W base spare held fuel cs x hx
  exact ⟨g a, by show d.K W (f (g a)) cs; rw [hfg]; exact ha, by show _ → Q (f (g a)); rw [hfg]; exact hb⟩
end
end Go.Proofs.YtifgdhmbjlfnhaaDoor.Pure
