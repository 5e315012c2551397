-- Written by wip/xprint.py: the kit's print with functions proved by hand in their places. Not trusted: Lean checks it.
import Derived.Test.YtifgdhmbjlfnhaaDoorMx0
import Derived.Test.YtifgdhmbjlfnhaaDoorMx2
namespace Go.Proofs.YtifgdhmbjlfnhaaDoor.M
open Go.RowKit Go.Proofs.YtifgdhmbjlfnhaaDoorW.PrintWords Go.Proofs.YtifgdhmbjlfnhaaDoorW.PrintLast Go.Proofs.YtifgdhmbjlfnhaaDoorW.PrintMore
attribute [local go_sem] max2_int min2_int max_two min_two max_three min_three max_four min_four   -- for this text's walks alone
set_option linter.unusedVariables false
set_option linter.unusedSimpArgs false

/-- All rows of lists of values, the first the slowest. -/
def allRows : List (List ByteArray) → List (List ByteArray)
  | [] => [[]]
  | v :: vs => v.flatMap fun x => (allRows vs).map (x :: ·)
def rowsV : List (List ByteArray) → List (List ByteArray) → List (List ByteArray)
  | [], rows => rows
  | v :: vs, rows => rowsV vs (rows.flatMap fun r => v.map fun x => r ++ [x])
theorem rowsV_all : ∀ (vs rows : List (List ByteArray)), rowsV vs rows = rows.flatMap fun r => (allRows vs).map (r ++ ·) := by
  intro vs
  induction vs with
  | nil =>
    intro rows
    simp only [rowsV, allRows, List.map_cons, List.map_nil, List.append_nil]
    induction rows with
    | nil => rfl
    | cons r rows ih => rw [List.flatMap_cons, ← ih]; rfl
  | cons v vs ih =>
    intro rows
    rw [rowsV, ih, List.flatMap_assoc]
    congr 1
    funext r
    rw [allRows, List.flatMap_map, List.map_flatMap]
    congr 1
    funext x
    rw [List.map_map]
    congr 1
    funext q
    simp
theorem rowsV_nil (vs : List (List ByteArray)) : rowsV vs [[]] = allRows vs := by
  rw [rowsV_all, List.flatMap_cons, List.flatMap_nil, List.append_nil]
  simp
/-- One turn of the counter, from place k - 1 on downwards; true: it has gone round. -/
def bump (ls : List Nat) : Nat → List Nat → List Nat × Bool
  | 0, at_ => (at_, true)
  | k + 1, at_ => if (at_.getD k 0 + 1) % ls.getD k 0 = 0 then bump ls k (at_.set k 0) else (at_.set k ((at_.getD k 0 + 1) % ls.getD k 0), false)
theorem bump_succ (ls : List Nat) (k : Nat) (d : List Nat) : bump ls (k + 1) d = if (d.getD k 0 + 1) % ls.getD k 0 = 0 then bump ls k (d.set k 0) else (d.set k ((d.getD k 0 + 1) % ls.getD k 0), false) := rfl
theorem bump_cons (m : Nat) (ls : List Nat) (a : Nat) : ∀ (k : Nat) (d : List Nat), bump (m :: ls) (k + 1) (a :: d) =
    match bump ls k d with
    | (d', false) => (a :: d', false)
    | (d', true) => if (a + 1) % m = 0 then (0 :: d', true) else ((a + 1) % m :: d', false) := by
  intro k
  induction k with
  | zero => intro d; simp [bump]
  | succ k ih =>
    intro d
    rw [bump_succ (m :: ls) (k + 1) (a :: d), bump_succ ls k d]
    show (if (d.getD k 0 + 1) % ls.getD k 0 = 0 then bump (m :: ls) (k + 1) (a :: d.set k 0) else (a :: d.set k ((d.getD k 0 + 1) % ls.getD k 0), false)) = _
    by_cases h : (d.getD k 0 + 1) % ls.getD k 0 = 0
    · rw [if_pos h, if_pos h, ih]
    · rw [if_neg h, if_neg h]
def seqs : List Nat → List (List Nat)
  | [] => [[]]
  | m :: ls => (List.range m).flatMap fun a => (seqs ls).map (a :: ·)
def zeros (n : Nat) : List Nat := List.replicate n 0
def Path (ls : List Nat) : List (List Nat) → Prop
  | [] => False
  | [x] => bump ls ls.length x = (zeros ls.length, true)
  | x :: y :: r => bump ls ls.length x = (y, false) ∧ Path ls (y :: r)
theorem path_block (m : Nat) (ls : List Nat) (a : Nat) (rest : List (List Nat)) (hrest : (if (a + 1) % m = 0 then (0 :: zeros ls.length, true) else ((a + 1) % m :: zeros ls.length, false)) = (match rest with | [] => (zeros (ls.length + 1), true) | y :: _ => (y, false))) (hp : rest ≠ [] → Path (m :: ls) rest) :
    ∀ s : List (List Nat), Path ls s → Path (m :: ls) (s.map (a :: ·) ++ rest)
  | [], h => h.elim
  | [x], h => by
    have h1 : bump ls ls.length x = (zeros ls.length, true) := h
    have h2 := bump_cons m ls a ls.length x
    rw [h1] at h2
    simp only at h2
    rw [hrest] at h2
    cases rest with
    | nil => exact h2
    | cons y r => exact ⟨h2, hp (by simp)⟩
  | x :: y :: s, h => by
    obtain ⟨h1, h3⟩ := h
    have h2 := bump_cons m ls a ls.length x
    rw [h1] at h2
    exact ⟨h2, path_block m ls a rest hrest hp (y :: s) h3⟩
theorem path_ne {ls : List Nat} {s : List (List Nat)} (h : Path ls s) : s ≠ [] := by
  intro e
  subst e
  exact h
theorem seqs_head : ∀ (ls : List Nat), (∀ m ∈ ls, 0 < m) → ∃ r, seqs ls = zeros ls.length :: r
  | [], _ => ⟨[], rfl⟩
  | m :: ls, h => by
    obtain ⟨r, hr⟩ := seqs_head ls (fun x hx => h x (List.mem_cons_of_mem _ hx))
    have hm := h m (List.mem_cons_self ..)
    obtain ⟨m, rfl⟩ : ∃ q, m = q + 1 := ⟨m - 1, by omega⟩
    rw [seqs, List.range_succ_eq_map, List.flatMap_cons, hr]
    exact ⟨_, rfl⟩
theorem seqs_path : ∀ (ls : List Nat), (∀ m ∈ ls, 0 < m) → Path ls (seqs ls)
  | [], _ => rfl
  | m :: ls, h => by
    have ih := seqs_path ls (fun x hx => h x (List.mem_cons_of_mem _ hx))
    have hm := h m (List.mem_cons_self ..)
    obtain ⟨s, hs⟩ := seqs_head ls (fun x hx => h x (List.mem_cons_of_mem _ hx))
    have key : ∀ (j a : Nat), a + j + 1 = m → Path (m :: ls) ((List.range' a (j + 1)).flatMap fun b => (seqs ls).map (b :: ·)) := by
      intro j
      induction j with
      | zero =>
        intro a ha
        rw [show List.range' a (0 + 1) = [a] from rfl, List.flatMap_cons, List.flatMap_nil]
        refine path_block m ls a [] ?_ (fun h => absurd rfl h) _ ih
        rw [if_pos (by rw [show a + 1 = m by omega, Nat.mod_self])]
        rfl
      | succ j ihj =>
        intro a ha
        rw [List.range'_succ, List.flatMap_cons]
        refine path_block m ls a _ ?_ (fun _ => ihj (a + 1) (by omega)) _ ih
        rw [List.range'_succ, List.flatMap_cons, hs, if_neg (by rw [Nat.mod_eq_of_lt (by omega)]; omega), Nat.mod_eq_of_lt (by omega)]
        rfl
    have := key (m - 1) 0 (by omega)
    rw [show m - 1 + 1 = m by omega, ← List.range_eq_range'] at this
    exact this
def rowOf : List (List ByteArray) → List Nat → List ByteArray
  | v :: vs, a :: d => v.getD a ByteArray.empty :: rowOf vs d
  | _, _ => []
theorem list_range {α : Type} (z : α) (v : List α) : v = (List.range v.length).map fun a => v.getD a z := by
  apply List.ext_getElem
  · simp
  · intro i h1 h2
    simp [List.getD_eq_getElem?_getD, List.getElem?_eq_getElem h1]
theorem allRows_seqs : ∀ vs : List (List ByteArray), allRows vs = (seqs (vs.map List.length)).map (rowOf vs)
  | [] => rfl
  | v :: vs => by
    rw [allRows, allRows_seqs vs, List.map_cons, seqs]
    conv => lhs; rw [list_range ByteArray.empty v]
    rw [List.flatMap_map, List.map_flatMap]
    congr 1
    funext a
    rw [List.map_map, List.map_map]
    rfl

abbrev strCs (l : List ByteArray) : Obj := .cells (l.map Value.string).toArray 9 (0, 0)
abbrev intCs (d : List Nat) : Obj := .cells (d.map (fun n : Nat => Value.int .i64 (n : Int))).toArray 3 (0, 0)
theorem grown_set {W : World} (b j : Nat) (u : Value) : W.grownBy (W.setCell ⟨b, j, none⟩ u) (some b) :=
  ⟨rfl, rfl, rfl, by show W.heap.size ≤ (W.heap.modify _ _).size; rw [Array.size_modify]; exact Nat.le_refl _, fun k _ hk => Below.heap_setCell W ⟨b, j, none⟩ u k (fun e => hk (by rw [e]))⟩
theorem strCs_cell {W : World} {b : Nat} {l : List ByteArray} (h : W.heap[b]? = some (strCs l)) (j : Nat) (hj : j < l.length) : W.cell? ⟨b, j, none⟩ = some (.string (l.getD j ByteArray.empty)) := by
  rw [blk_cell h j]
  simp [List.getD_eq_getElem?_getD, List.getElem?_eq_getElem hj]
theorem intCs_cell {W : World} {b : Nat} {l : List Nat} (h : W.heap[b]? = some (intCs l)) (j : Nat) (hj : j < l.length) : W.cell? ⟨b, j, none⟩ = some (.int .i64 ((l.getD j 0 : Nat) : Int)) := by
  rw [blk_cell h j]
  simp [List.getD_eq_getElem?_getD, List.getElem?_eq_getElem hj]
theorem strCs_set {W : World} {b : Nat} {l : List ByteArray} (h : W.heap[b]? = some (strCs l)) (j : Nat) (u : ByteArray) : (W.setCell ⟨b, j, none⟩ (.string u)).heap[b]? = some (strCs (l.set j u)) := by
  rw [blk_set h j]
  congr 2
  simp [List.map_set]
theorem intCs_set {W : World} {b : Nat} {l : List Nat} (h : W.heap[b]? = some (intCs l)) (j n : Nat) : (W.setCell ⟨b, j, none⟩ (.int .i64 (n : Int))).heap[b]? = some (intCs (l.set j n)) := by
  rw [blk_set h j]
  congr 2
  simp [List.map_set]
theorem run_mk (t e : TypeId) (z : Value) (bytes len : Nat) (ht : Tryd.prog.underlying t = some (.slice e)) (hi : (Tryd.prog.info? e).map (fun i => (i.zero, i.size, i.bytes)) = some (some z, 1, bytes)) (hz : z.cells = #[z]) (hb : bytes * len ≤ 281474976710656) (hl : len ≤ 281474976710656) (W : World) :
    (Instr.makeSlice t (.int .i64 (len : Int)) (.int .i64 (len : Int))).run Tryd.prog W = .ok (.slice (some ⟨W.heap.size, 0, none⟩) len len) (W.alloc (.cells (Array.replicate len z) e)) := by
  obtain ⟨i0, hi0, hz0, hz1, hz2⟩ := info_parts hi
  have h := run_make (P := Tryd.prog) W t e i0 z ht hi0 hz0 .i64 .i64 (len : Int) (len : Int) (by omega) (by omega) (by rw [hz2]; omega) (by omega)
  rw [h, hz1, hz]
  congr 3
  apply Array.ext'
  apply List.ext_getElem
  · simp [madeCells]
  · intro i h1 h2
    simp [madeCells, Nat.mod_one]
/-- What has to hold of the counter's digits and of the row that is told. -/
def RowOk (vs : List (List ByteArray)) (d : List Nat) (cs : List ByteArray) : Prop := d.length = vs.length ∧ cs.length = vs.length ∧ ∀ j, j < vs.length → d.getD j 0 < (vs.getD j []).length ∧ cs.getD j ByteArray.empty = (vs.getD j []).getD (d.getD j 0) ByteArray.empty
theorem RowOk.row : ∀ {vs : List (List ByteArray)} {d : List Nat} {cs : List ByteArray}, RowOk vs d cs → cs = rowOf vs d
  | [], d, cs, h => by
    have := h.2.1
    rw [List.length_nil] at this
    rw [List.eq_nil_of_length_eq_zero this]
    cases d <;> rfl
  | v :: vs, [], cs, h => by have := h.1; simp at this
  | v :: vs, a :: d, [], h => by have := h.2.1; simp at this
  | v :: vs, a :: d, c :: cs, h => by
    have h0 := (h.2.2 0 (by simp)).2
    have : RowOk vs d cs := ⟨by have := h.1; simpa using this, by have := h.2.1; simpa using this, fun j hj => by have := h.2.2 (j + 1) (by simp; omega); simpa using this⟩
    rw [rowOf, ← this.row]
    congr 1
theorem at_strsM {W : World} {A : Option Addr} {n : Nat} {zs : List ByteArray} (h : Kd.C Kd.string W A n zs) (k : Nat) (hk : k < n) : ∃ ad, A = some ad ∧ W.cell? (ad.add k) = some (.string (zs.getD k ByteArray.empty)) := by
  obtain ⟨ad, c, e, _, hK, hc0⟩ := Kd.C_get h ByteArray.empty (k : Int) (by omega) (by omega)
  have hc : ∀ j u, c[j]? = some u → W.cell? (ad.add (k * 1 + j)) = some u := hc0
  have hK' : c = [.string (zs.getD k ByteArray.empty)] := hK
  subst hK'
  exact ⟨ad, e, by have hq := hc 0 _ rfl; rwa [Nat.mul_one, Nat.add_zero] at hq⟩
def Fill (vs : List (List ByteArray)) (cs : List ByteArray) (i : Nat) : Prop := cs.length = vs.length ∧ ∀ j, j < i → cs.getD j ByteArray.empty = (vs.getD j []).getD 0 ByteArray.empty
theorem Fill.next {vs : List (List ByteArray)} {cs : List ByteArray} {i : Nat} (h : Fill vs cs i) (hi : i < vs.length) : Fill vs (cs.set i ((vs.getD i []).getD 0 ByteArray.empty)) (i + 1) := by
  refine ⟨by rw [List.length_set]; exact h.1, fun j hj => ?_⟩
  by_cases e : j = i
  · subst e
    rw [List.getD_eq_getElem?_getD, List.getElem?_set_self (by rw [h.1]; exact hi), Option.getD_some]
  · rw [List.getD_eq_getElem?_getD, List.getElem?_set_ne (fun e2 => e e2.symm), ← List.getD_eq_getElem?_getD]
    exact h.2 j (by omega)
theorem Fill.ok {vs : List (List ByteArray)} {cs : List ByteArray} (h : Fill vs cs vs.length) (hne : ∀ v ∈ vs, 0 < v.length ∧ v.length ≤ 1000000) : RowOk vs (zeros vs.length) cs := by
  refine ⟨by simp [zeros], h.1, fun j hj => ?_⟩
  have e : (zeros vs.length).getD j 0 = 0 := by simp [zeros, List.getD_eq_getElem?_getD, hj]
  rw [e]
  refine ⟨?_, h.2 j hj⟩
  have : vs.getD j [] ∈ vs := by
    rw [List.getD_eq_getElem?_getD, List.getElem?_eq_getElem hj, Option.getD_some]
    exact List.getElem_mem hj
  exact (hne _ this).1
theorem getD_set_self {α : Type} (z : α) (l : List α) (k : Nat) (x : α) (h : k < l.length) : (l.set k x).getD k z = x := by
  rw [List.getD_eq_getElem?_getD, List.getElem?_set_self h, Option.getD_some]
theorem getD_set_ne {α : Type} (z : α) (l : List α) (k j : Nat) (x : α) (h : j ≠ k) : (l.set k x).getD j z = l.getD j z := by
  rw [List.getD_eq_getElem?_getD, List.getElem?_set_ne (fun e => h e.symm), ← List.getD_eq_getElem?_getD]
theorem RowOk.set_ {vs : List (List ByteArray)} {d : List Nat} {cs : List ByteArray} (h : RowOk vs d cs) (k a : Nat) (hk : k < vs.length) (ha : a < (vs.getD k []).length) : RowOk vs (d.set k a) (cs.set k ((vs.getD k []).getD a ByteArray.empty)) := by
  refine ⟨by rw [List.length_set]; exact h.1, by rw [List.length_set]; exact h.2.1, fun j hj => ?_⟩
  by_cases e : j = k
  · subst e
    rw [getD_set_self _ _ _ _ (by rw [h.1]; exact hk), getD_set_self _ _ _ _ (by rw [h.2.1]; exact hk)]
    exact ⟨ha, rfl⟩
  · rw [getD_set_ne _ _ _ _ _ e, getD_set_ne _ _ _ _ _ e]
    exact h.2.2 j hj
theorem heap2 (W : World) (o o' : Obj) : ((W.alloc o).alloc o').drew.heap[W.heap.size]? = some o ∧ ((W.alloc o).alloc o').drew.heap[W.heap.size + 1]? = some o' := by
  refine ⟨show ((W.alloc o).alloc o').heap[W.heap.size]? = some o from blk_below (blk_new W o) (below_alloc (Below.refl _ _) o'), ?_⟩
  have h := blk_new (W.alloc o) o'
  rw [World.size_alloc] at h
  exact h
theorem zeros_cs (n : Nat) : Obj.cells (Array.replicate n (Value.int .i64 0)) 3 (0, 0) = intCs (zeros n) := by
  congr 1
  apply Array.ext'
  simp [zeros]
theorem empty_cs (n : Nat) : Obj.cells (Array.replicate n (Value.string ⟨#[]⟩)) 9 (0, 0) = strCs (List.replicate n ByteArray.empty) := by
  have e : (ByteArray.empty : ByteArray) = ⟨#[]⟩ := rfl
  rw [e]
  congr 1
  apply Array.ext'
  simp
theorem grown2 (W : World) (o o' : Obj) : W.grownBy ((W.alloc o).alloc o').drew none :=
  grown_of_below (below_drew (((Below.refl _ W).alloc (Nat.le_refl _) o).alloc (by simp) o')) none
theorem addr_zero (a : Addr) : a.add 0 = a := by
  unfold Addr.add
  split <;> simp_all
theorem vs_rd (L : List S49) (i : Nat) (hi : i < L.length) : rd_T49 L i ∈ L ∧ (L.map (·.f1)).getD i [] = (rd_T49 L i).f1 := by
  unfold rd_T49
  rw [Int.toNat_natCast, List.getD_eq_getElem?_getD, List.getD_eq_getElem?_getD, List.getElem?_map, List.getElem?_eq_getElem hi]
  exact ⟨List.getElem_mem hi, rfl⟩
theorem path_drop {ls : List Nat} : ∀ {s : List (List Nat)} {t : Nat} {d : List Nat}, Path ls s → s[t]? = some d → (∃ y, s[t + 1]? = some y ∧ bump ls ls.length d = (y, false)) ∨ (t + 1 = s.length ∧ bump ls ls.length d = (zeros ls.length, true))
  | [], t, d, h, _ => h.elim
  | [x], t, d, h, e => by
    cases t with
    | zero => simp at e; subst e; exact .inr ⟨rfl, h⟩
    | succ t => simp at e
  | x :: y :: r, t, d, h, e => by
    cases t with
    | zero => simp at e; subst e; exact .inl ⟨y, rfl, h.1⟩
    | succ t =>
      rcases path_drop (s := y :: r) (t := t) (d := d) h.2 (by simpa using e) with ⟨z, h1, h2⟩ | ⟨h1, h2⟩
      · exact .inl ⟨z, by simpa using h1, h2⟩
      · exact .inr ⟨by rw [List.length_cons, ← h1], h2⟩
theorem each_end {vs : List (List ByteArray)} {s : List (List Nat)} {t : Nat} {d d2 : List Nat} (hp : Path (vs.map List.length) s) (h : s[t]? = some d) (hb : bump (vs.map List.length) 0 d2 = bump (vs.map List.length) (vs.map List.length).length d) : t + 1 = s.length := by
  rcases path_drop hp h with ⟨y, _, h2⟩ | ⟨h1, _⟩
  · rw [h2] at hb
    cases hb
  · exact h1
theorem each_next {vs : List (List ByteArray)} {s : List (List Nat)} {t : Nat} {d d2 : List Nat} (hp : Path (vs.map List.length) s) (h : s[t]? = some d) (hb : (d2, false) = bump (vs.map List.length) (vs.map List.length).length d) : s[t + 1]? = some d2 := by
  rcases path_drop hp h with ⟨y, h1, h2⟩ | ⟨_, h2⟩
  · rw [h2] at hb
    cases hb
    exact h1
  · rw [h2] at hb
    cases hb
theorem drop_of_some {α : Type} {s : List α} {t : Nat} {d : α} (h : s[t]? = some d) : s.drop t = d :: s.drop (t + 1) := by
  obtain ⟨hlt, e⟩ := List.getElem?_eq_some_iff.1 h
  rw [List.drop_eq_getElem_cons hlt, e]
theorem bump_at {vs : List (List ByteArray)} {d2 : List Nat} {x : List ByteArray} (k a a2 : Nat) (hx : vs.getD k [] = x) (ha : a = d2.getD k 0) (h2 : a2 = (a + 1) % x.length) (hk : k < vs.length) {q : List Nat × Bool} (hb : bump (vs.map List.length) (k + 1) d2 = q) :
    (if a2 = 0 then bump (vs.map List.length) k (d2.set k a2) else (d2.set k a2, false)) = q := by
  rw [bump_succ, ← ha] at hb
  have e : (vs.map List.length).getD k 0 = x.length := by
    rw [← hx, List.getD_eq_getElem?_getD, List.getD_eq_getElem?_getD, List.getElem?_map, List.getElem?_eq_getElem hk]
    rfl
  rw [e, ← h2] at hb
  by_cases h : a2 = 0
  · rw [if_pos h] at hb ⊢
    rw [h]
    exact hb
  · rw [if_neg h] at hb ⊢
    exact hb

set_option maxHeartbeats 8000000 in
set_option maxRecDepth 100000 in
theorem each_calls (l mm bn c : Nat) (A : Option Addr) (L : List S49) (vs : List (List ByteArray)) (hvs : vs = L.map (·.f1)) (w0 W : World) (J : Nat → World → Prop) (seq : List (List Nat)) (hpath : Path (vs.map List.length) seq) (hhead : ∃ r, seq = zeros L.length :: r) (hne : ∀ v ∈ vs, 0 < v.length ∧ v.length ≤ 1000000)
    (hL : L.length ≤ 1000000) (hr : Kd.C k49 w0 A L.length L) (hJw : ∀ i V, J i V → Below w0.heap.size w0 V) (hJb : ∀ i V, J i V → V.cell? ⟨bn, 0, none⟩ = some (.slice A L.length c)) (hW : w0.heap.size ≤ W.heap.size)
    (hJk : ∀ i V V' row, J i V → V.grownBy V' row → (∀ q, row = some q → q = W.heap.size ∨ q = W.heap.size + 1) → J i V')
    (h0 : J 0 W)
    (hY : ∀ i V b d cs, J i V → seq[i]? = some d → RowOk vs d cs → (b = W.heap.size ∨ b = W.heap.size + 1) → V.heap[b]? = some (strCs cs) → W.heap.size + 2 ≤ V.heap.size → YieldAt Fence.wide mm Tryd.prog l #[.slice (some ⟨b, 0, none⟩) L.length L.length] V fun e V' =>
      e = .returned (.bool true) ∧ J (i + 1) V' ∧ V'.heap[W.heap.size]? = V.heap[W.heap.size]? ∧ V'.heap[W.heap.size + 1]? = V.heap[W.heap.size + 1]? ∧ V.heap.size ≤ V'.heap.size) :
    Calls Tryd.prog 28 #[.func (.yield l) #[] #[], .pointer (some ⟨bn, 0, none⟩)] W fun e W' => (∃ v, e = .returned v) ∧ J seq.length W' := by
  have hb := hJb _ _ h0
  have hbl : bn < W.heap.size := World.block_lt_of_cell? W _ hb
  have mk1 := run_mk 60 3 (.int .i64 0) 8 L.length Tryd.underlying60 (by kernel_rfl) rfl (by omega) (by omega)
  have mk2 := run_mk 23 9 (.string ⟨#[]⟩) 16 L.length Tryd.underlying23 (by kernel_rfl) rfl (by omega) (by omega)
  have HP := Aside0.mk hpath
  have HH := Aside0.mk hhead
  have HR := Aside0.mk hr
  have HJ := Aside0.mk h0
  have HJW := Aside0.mk hJw
  have HJB := Aside0.mk hJb
  have HJK := Aside0.mk hJk
  have HY := Aside0.mk hY
  have HNE := Aside0.mk hne
  clear hpath hhead hr h0 hJw hJb hJk hY hne
  go_enter Tryd.func28, Tryd.ntmps28
  go_wp2_with fail
  go_region
  all_goals go_wp2_with fail
  all_goals
    first
      | (refine (show Code.wp _ _ _ _ (((W.alloc (.cells (Array.replicate L.length (Value.int .i64 0)) 3)).alloc (.cells (Array.replicate L.length (Value.string ⟨#[]⟩)) 9)).drew) from ?_)
         have hh := heap2 W (.cells (Array.replicate L.length (Value.int .i64 0)) 3) (.cells (Array.replicate L.length (Value.string ⟨#[]⟩)) 9)
         have HJ0 := Aside0.mk (HJK.out 0 _ _ none HJ.out (grown2 W (.cells (Array.replicate L.length (Value.int .i64 0)) 3) (.cells (Array.replicate L.length (Value.string ⟨#[]⟩)) 9)) (fun _ e => by cases e))
         obtain ⟨rb, hn1⟩ : ∃ n, n = W.heap.size + 1 := ⟨_, rfl⟩
         obtain ⟨ba, hn0⟩ : ∃ n, n = W.heap.size := ⟨_, rfl⟩
         rw [← hn1, ← hn0] at hh
         have HAB := Aside0.mk (show (ba = W.heap.size ∧ rb = W.heap.size + 1) ∨ (ba = W.heap.size + 1 ∧ rb = W.heap.size) from .inl ⟨hn0, hn1⟩)
         have HT := Aside0.mk (hh.1.trans (congrArg some (zeros_cs _)))
         have HS := Aside0.mk (hh.2.trans (congrArg some (empty_cs _)))
         rw [← hn1, ← hn0]
         clear hn0 hn1 hh)
      | (refine (show Code.wp _ _ _ _ (((W.alloc (.cells (Array.replicate L.length (Value.string ⟨#[]⟩)) 9)).alloc (.cells (Array.replicate L.length (Value.int .i64 0)) 3)).drew) from ?_)
         have hh := heap2 W (.cells (Array.replicate L.length (Value.string ⟨#[]⟩)) 9) (.cells (Array.replicate L.length (Value.int .i64 0)) 3)
         have HJ0 := Aside0.mk (HJK.out 0 _ _ none HJ.out (grown2 W (.cells (Array.replicate L.length (Value.string ⟨#[]⟩)) 9) (.cells (Array.replicate L.length (Value.int .i64 0)) 3)) (fun _ e => by cases e))
         obtain ⟨ba, hn1⟩ : ∃ n, n = W.heap.size + 1 := ⟨_, rfl⟩
         obtain ⟨rb, hn0⟩ : ∃ n, n = W.heap.size := ⟨_, rfl⟩
         rw [← hn1, ← hn0] at hh
         have HAB := Aside0.mk (show (ba = W.heap.size ∧ rb = W.heap.size + 1) ∨ (ba = W.heap.size + 1 ∧ rb = W.heap.size) from .inr ⟨hn1, hn0⟩)
         have HT := Aside0.mk (hh.2.trans (congrArg some (zeros_cs _)))
         have HS := Aside0.mk (hh.1.trans (congrArg some (empty_cs _)))
         rw [← hn1, ← hn0]
         clear hn0 hn1 hh)
    go_loopg [16] L.length (fun m v16 wr => ∃ (i : Nat) (cs : List ByteArray), v16 = .int .i64 i ∧ Aside0 (i + m = L.length) ∧ Aside0 (wr.heap[ba]? = some (intCs (zeros L.length))) ∧ Aside0 (wr.heap[rb]? = some (strCs cs)) ∧ Aside0 (Fill vs cs i) ∧ Aside0 (J 0 wr) ∧ Aside0 (W.heap.size + 2 ≤ wr.heap.size))
    case atStart => exact ⟨0, _, rfl, ⟨by omega⟩, HT, HS, ⟨by rw [hvs]; simp, fun j hj => by omega⟩, HJ0, ⟨by simp⟩⟩
    case round =>
      clear HJ0 HT HS
      obtain ⟨i, cs, rfl, HM, HT, HS, HF, HJ0, HZ⟩ := hrel
      have hm := HM.out
      have hvl : vs.length = L.length := by rw [hvs, List.length_map]
      have hz := HZ.out
      have hne' : ba ≠ rb := by rcases HAB.out with h | h <;> omega
      have hrl : rb < wr.heap.size := blk_lt HS.out
      by_cases hlt : i < L.length
      · obtain ⟨ad, A1, c1, rfl, hx0, hx1, hl1, hr1⟩ := at_T49 (Kd.C_below HR.out (HJW.out _ _ HJ0.out)) i (by omega) (by omega)
        obtain ⟨hmem, hget⟩ := vs_rd L i hlt
        rw [← hvs] at hget
        have hxn := HNE.out (rd_T49 L i).f1 (by rw [hvs]; exact List.mem_map_of_mem hmem)
        generalize rd_T49 L i = x at *
        simp only [Int.toNat_natCast] at hx0 hx1
        obtain ⟨adV, rfl, hcv⟩ := at_strsM hr1 0 hxn.1
        have hcell := strCs_cell HS.out i (by rw [HF.out.1]; omega)
        have hfz := blk_frozen HS.out i
        have HX := Aside0.mk hget
        obtain ⟨hx2, hx3⟩ := hxn
        rw [addr_zero adV] at hcv
        have hxl := World.block_lt_of_cell? wr _ hcv
        obtain ⟨y0, hy0⟩ : ∃ y, y = x.f1.getD 0 ByteArray.empty := ⟨_, rfl⟩
        rw [← hy0] at hcv
        have HY0 := Aside0.mk hy0
        clear hr1 hmem hget hy0
        go_wp2
        go_roundg (gk - 1)
        case measure => omega
        case rel =>
          refine ⟨i + 1, cs.set i y0, rfl, ⟨by omega⟩, ⟨?_⟩, ⟨?_⟩, ⟨?_⟩, ⟨?_⟩, ⟨?_⟩⟩
          · exact blk_below (blk_far (p := ⟨rb, i, none⟩) HT.out hne' _) (below_alloc (Below.refl _ _) _)
          · exact blk_below (strCs_set HS.out i y0) (below_alloc (Below.refl _ _) _)
          · rw [HY0.out, ← HX.out]
            exact HF.out.next (by omega)
          · exact HJK.out _ _ _ none (HJK.out _ _ _ (some rb) HJ0.out (grown_set rb i _) (fun q e => by cases e; rcases HAB.out with h | h <;> omega)) (World.grownBy_alloc _ _ _) (fun _ e => by cases e)
          · simp
            omega
      · obtain rfl : i = L.length := by omega
        have hok : RowOk vs (zeros L.length) cs := by
          have h := Fill.ok (by rw [hvl]; exact HF.out) HNE.out
          rwa [hvl] at h
        have HO := Aside0.mk hok
        clear hok
        go_wp2
        clear HF
        go_loopg [7] seq.length (fun m v7 wr => ∃ (t : Nat) (d : List Nat) (r : List (List Nat)) (cs : List ByteArray), Aside0 (seq.drop t = d :: r) ∧ Aside0 (t + m = seq.length) ∧ Aside0 (wr.heap[ba]? = some (intCs d)) ∧ Aside0 (wr.heap[rb]? = some (strCs cs)) ∧ Aside0 (RowOk vs d cs) ∧ Aside0 (J t wr) ∧ Aside0 (W.heap.size + 2 ≤ wr.heap.size))
        case atStart =>
          obtain ⟨r, hr⟩ := HH.out
          exact ⟨0, _, r, cs, ⟨hr⟩, ⟨by omega⟩, HT, HS, HO, HJ0, HZ⟩
        case round =>
          clear HT HS HO HJ0 HZ hz hrl hm HM
          obtain ⟨t, d, r, cs, HD, HM, HT, HS, HO, HJ0, HZ⟩ := hrel
          have hm := HM.out
          have htl : t < seq.length := by
            by_cases h : t < seq.length
            · exact h
            · have := HD.out; rw [List.drop_eq_nil_of_le (by omega)] at this; cases this
          have hst : seq[t]? = some d := by
            have := HD.out
            rw [List.drop_eq_getElem_cons htl] at this
            rw [List.getElem?_eq_getElem htl, (List.cons.inj this).1]
          obtain ⟨fn, tmps, assign, body, hy, hR⟩ := HY.out t wr rb d cs HJ0.out hst HO.out (by rcases HAB.out with h | h <;> omega) HS.out HZ.out
          refine (wpIn_wide (n := mm + 1)).1 ?_
          have hRR := Aside0.mk hR
          have HST := Aside0.mk hst
          clear hR hst
          gi_wp2
          refine hRR.out.mono ?_
          rintro e V ⟨rfl, hJ1, hk0, hk1, hsz⟩
          have hb2 := HJB.out _ _ hJ1
          have HT1 := Aside0.mk (show V.heap[ba]? = some (intCs d) by rcases HAB.out with ⟨h1, h2⟩ | ⟨h1, h2⟩ <;> (have := HT.out; first | (rw [h1] at this ⊢; rw [hk0]; exact this) | (rw [h1] at this ⊢; rw [hk1]; exact this)))
          have HS1 := Aside0.mk (show V.heap[rb]? = some (strCs cs) by rcases HAB.out with ⟨h1, h2⟩ | ⟨h1, h2⟩ <;> (have := HS.out; first | (rw [h2] at this ⊢; rw [hk1]; exact this) | (rw [h2] at this ⊢; rw [hk0]; exact this)))
          have HJ1 := Aside0.mk hJ1
          have HZ1 := Aside0.mk (Nat.le_trans HZ.out hsz)
          clear HT HS HJ0 HZ hRR hy hk0 hk1 hsz hJ1
          gi_wp2_with fail
          refine (wpIn_wide (n := mm + 1)).2 ?_
          obtain ⟨gO, rfl⟩ : ∃ g : Nat, g = gk := ⟨_, rfl⟩
          clear hb2
          go_loopg [7] L.length (fun m v7 wr => ∃ (k : Nat) (d2 : List Nat) (cs : List ByteArray), v7 = .int .i64 ((k : Int) - 1) ∧ Aside0 (k = m ∧ k ≤ L.length) ∧ Aside0 (bump (vs.map List.length) k d2 = bump (vs.map List.length) (vs.map List.length).length d) ∧ Aside0 (wr.heap[ba]? = some (intCs d2)) ∧ Aside0 (wr.heap[rb]? = some (strCs cs)) ∧ Aside0 (RowOk vs d2 cs) ∧ Aside0 (J (t + 1) wr) ∧ Aside0 (W.heap.size + 2 ≤ wr.heap.size))
          case atStart => exact ⟨L.length, d, cs, rfl, ⟨rfl, Nat.le_refl _⟩, ⟨by rw [List.length_map, hvl]⟩, HT1, HS1, HO, HJ1, HZ1⟩
          case round =>
            clear HT1 HS1 HJ1 HZ1 HO
            obtain ⟨k, d2, cs2, hv7, HK, HB, HT, HS, HO, HJ0, HZ⟩ := hrel
            obtain ⟨hk1, hk2⟩ := HK.out
            cases k with
            | zero =>
              obtain rfl : u7 = .int .i64 (-1) := hv7
              have hq := HB.out
              rw [bump] at hq
              have hend : t + 1 = seq.length := each_end HP.out HST.out HB.out
              have HE := Aside0.mk hend
              clear hend hq
              go_wp2
              refine (wpIn_wide (n := mm + 1)).2 ?_
              go_wp2
              exact bodyPost_ret (v := .tuple #[]) (by simp [results, Tryd.results28, go_sem]) rfl ⟨⟨_, rfl⟩, by rw [← HE.out]; exact HJ0.out⟩
            | succ k =>
              obtain rfl : u7 = .int .i64 (k : Int) := by rw [hv7]; congr 1; omega
              clear hv7
              have hkL : k < L.length := by omega
              obtain ⟨ad, A1, c1, rfl, hx0w, hx1w, hl1, hr1⟩ := at_T49 HR.out k (by omega) (by omega)
              obtain ⟨hmem, hget⟩ := vs_rd L k hkL
              rw [← hvs] at hget
              have hxn := HNE.out (rd_T49 L k).f1 (by rw [hvs]; exact List.mem_map_of_mem hmem)
              generalize rd_T49 L k = x at *
              simp only [Int.toNat_natCast] at hx0w hx1w
              obtain ⟨hx2, hx3⟩ := hxn
              have HX1 := Aside0.mk hx1w
              have HV := Aside0.mk hr1
              have hx1 := pw_cell_below (HJW.out _ _ HJ0.out) hx1w
              clear hx0w hx1w hr1
              have ho := HO.out.2.2 k (by omega)
              rw [hget] at ho
              have hta := intCs_cell HT.out k (by rw [HO.out.1]; omega)
              obtain ⟨a, ha⟩ : ∃ a, a = d2.getD k 0 := ⟨_, rfl⟩
              rw [← ha] at ho hta
              have hal := ho.1
              have HA := Aside0.mk ha
              have HX := Aside0.mk hget
              have hbn := HJB.out _ _ HJ0.out
              clear ho hmem hget ha
              go_wp2_with fail
              have hac : (0 : Int) ≤ (a : Int) + 1 := by omega
              have hxc : (1 : Int) ≤ (x.f1.length : Int) := by omega
              have hfa := blk_frozen HT.out k
              go_region
              obtain ⟨a2, ha2⟩ : ∃ a2, a2 = (a + 1) % x.f1.length := ⟨_, rfl⟩
              have e2 : ((a : Int) + 1) % (x.f1.length : Int) = (a2 : Int) := by rw [ha2]; push_cast; rfl
              have ha3 : a2 < x.f1.length := by rw [ha2]; exact Nat.mod_lt _ (by omega)
              rw [e2]
              clear e2 hta hbn hx1 hfa
              have HT2 := Aside0.mk (show (wr.setCell ⟨ba, k, none⟩ (.int .i64 (a2 : Int))).drew.heap[ba]? = some (intCs (d2.set k a2)) from intCs_set HT.out k a2)
              have HS2 := Aside0.mk (show (wr.setCell ⟨ba, k, none⟩ (.int .i64 (a2 : Int))).drew.heap[rb]? = some (strCs cs2) from blk_far (p := ⟨ba, k, none⟩) HS.out hne'.symm _)
              have HJ2 := Aside0.mk (HJK.out _ _ ((wr.setCell ⟨ba, k, none⟩ (.int .i64 (a2 : Int))).drew) none (HJK.out _ _ _ (some ba) HJ0.out (grown_set ba k (.int .i64 (a2 : Int))) (fun q e => by cases e; rcases HAB.out with h | h <;> omega)) (grown_of_below (below_drew (Below.refl _ _)) none) (fun _ e => by cases e))
              have HZ2 := Aside0.mk (show W.heap.size + 2 ≤ (wr.setCell ⟨ba, k, none⟩ (.int .i64 (a2 : Int))).drew.heap.size by have := HZ.out; simpa using this)
              clear HT HS HJ0 HZ
              generalize (wr.setCell ⟨ba, k, none⟩ (.int .i64 (a2 : Int))).drew = w2 at *
              have hta := intCs_cell HT2.out k (by rw [List.length_set, HO.out.1]; omega)
              rw [getD_set_self _ _ _ _ (by rw [HO.out.1]; omega)] at hta
              obtain ⟨adV, rfl, hcv⟩ := at_strsM HV.out a2 ha3
              have hcv2 := pw_cell_below (HJW.out _ _ HJ2.out) hcv
              obtain ⟨y, hy⟩ : ∃ y, y = x.f1.getD a2 ByteArray.empty := ⟨_, rfl⟩
              rw [← hy] at hcv2
              have HY2 := Aside0.mk hy
              have HA2 := Aside0.mk ha2
              have hx1 := pw_cell_below (HJW.out _ _ HJ2.out) HX1.out
              have hbn := HJB.out _ _ HJ2.out
              have hrc := strCs_cell HS2.out k (by rw [HO.out.2.1]; omega)
              have hfr := blk_frozen HS2.out k
              have ha2i : (a2 : Int) < (x.f1.length : Int) := by omega
              clear hcv hy ha2 hac hxc
              go_wp2_with fail
              go_region
              have hq := bump_at k a a2 HX.out HA.out HA2.out (by omega) HB.out
              have HO3 := Aside0.mk (show RowOk vs (d2.set k a2) (cs2.set k y) by
                have h := HO.out.set_ k a2 (by omega) (by rw [HX.out]; exact ha3)
                rw [HX.out, ← HY2.out] at h
                exact h)
              have HT3 := Aside0.mk (show (w2.setCell ⟨rb, k, none⟩ (.string y)).drew.heap[ba]? = some (intCs (d2.set k a2)) from blk_far (p := ⟨rb, k, none⟩) HT2.out hne' _)
              have HS3 := Aside0.mk (show (w2.setCell ⟨rb, k, none⟩ (.string y)).drew.heap[rb]? = some (strCs (cs2.set k y)) from strCs_set HS2.out k y)
              have HJ3 := Aside0.mk (HJK.out _ _ ((w2.setCell ⟨rb, k, none⟩ (.string y)).drew) none (HJK.out _ _ _ (some rb) HJ2.out (grown_set rb k (.string y)) (fun q e => by cases e; rcases HAB.out with h | h <;> omega)) (grown_of_below (below_drew (Below.refl _ _)) none) (fun _ e => by cases e))
              have HZ3 := Aside0.mk (show W.heap.size + 2 ≤ (w2.setCell ⟨rb, k, none⟩ (.string y)).drew.heap.size by have := HZ2.out; simpa using this)
              clear HT2 HS2 HJ2 HZ2 hta hcv2 hx1 hbn hrc hfr
              generalize (w2.setCell ⟨rb, k, none⟩ (.string y)).drew = w3 at *
              have hta := intCs_cell HT3.out k (by rw [List.length_set, HO.out.1]; omega)
              rw [getD_set_self _ _ _ _ (by rw [HO.out.1]; omega)] at hta
              by_cases h0 : a2 = 0
              · rw [if_pos h0] at hq
                have HQ := Aside0.mk hq
                have h0' : ¬ (0 : Int) < (a2 : Int) := by omega
                clear hq h0
                go_wp2_with fail
                go_roundg (gk - 1)
                case measure => omega
                case rel => exact ⟨k, _, _, rfl, ⟨by omega⟩, HQ, HT3, HS3, HO3, HJ3, HZ3⟩
              · rw [if_neg h0] at hq
                have hnx := each_next HP.out HST.out hq
                have h0' : (0 : Int) < (a2 : Int) := by omega
                have HN := Aside0.mk hnx
                clear hq hnx h0
                go_wp2_with fail
                refine (wpIn_wide (n := mm + 1)).2 ?_
                go_wp2_with fail
                go_roundg (gO - 1)
                case measure => omega
                case rel => exact ⟨t + 1, _, _, _, ⟨drop_of_some HN.out⟩, ⟨by omega⟩, HT3, HS3, HO3, HJ3, HZ3⟩

/-! ### matrix_Rows: function 12 -/
/-- How a round's body is left: I of the next, the loop's own blocks as they lay. -/
def roundEnd (H : Nat) (I : Nat → World → Prop) (i : Nat) (V : World) : Exit → Act → World → Prop
  | .normal, _, V' => I (i + 1) V' ∧ (∀ q, H ≤ q → q ≤ H + 3 → V'.heap[q]? = V.heap[q]?) ∧ V.heap.size ≤ V'.heap.size
  | _, _, _ => False
theorem grown_put (W : World) (l : Nat) (o : Obj) : W.grownBy (W.putObj l o) (some l) :=
  ⟨rfl, rfl, rfl, by simp, fun k _ hk => World.putObj_heap_other (fun e => hk (by rw [e]))⟩
set_option maxHeartbeats 1000000 in
theorem range_each {g : Operand} {ps : Array Tmp} {assign body : Code} {Q : Exit → Act → World → Prop} {a : Act} {w : World} (bn c : Nat) (A : Option Addr) (L : List S49) (vs : List (List ByteArray)) (hvs : vs = L.map (·.f1)) (w0 : World) (seq : List (List Nat)) (hpath : Path (vs.map List.length) seq) (hhead : ∃ r, seq = zeros L.length :: r)
    (hne : ∀ v ∈ vs, 0 < v.length ∧ v.length ≤ 1000000) (hL : L.length ≤ 1000000) (hr : Kd.C k49 w0 A L.length L) (hw0 : w0.heap.size ≤ w.heap.size)
    (hg : a.eval g = .func (.func 28) #[] #[.pointer (some ⟨bn, 0, none⟩)]) (hps : ps.size = 1)
    (I : Nat → World → Prop) (hIw : ∀ i V, I i V → Below w0.heap.size w0 V) (hIb : ∀ i V, I i V → V.cell? ⟨bn, 0, none⟩ = some (.slice A L.length c))
    (hIk : ∀ i V V' row, I i V → V.grownBy V' row → (∀ q, row = some q → w.heap.size ≤ q ∧ q ≤ w.heap.size + 3) → I i V') (h0 : I 0 w) (a₁ : Nat → Act)
    (hassign : ∀ (l b : Nat) (V : World) (K : Act → World → Prop), K (a₁ b) V → assign.wpIn (Fence.wide.inRound l) 0 Tryd.prog (Exit.then K (fun _ _ _ => False)) { tmps := (ps.zip #[.slice (some ⟨b, 0, none⟩) L.length L.length]).foldl (fun t (p, v) => t.setIfInBounds p v) a.tmps, defers := [] } V)
    (hbody : ∀ (l i b : Nat) (V : World) (d : List Nat) (cs : List ByteArray), I i V → seq[i]? = some d → RowOk vs d cs → (b = w.heap.size + 2 ∨ b = w.heap.size + 3) → V.heap[b]? = some (strCs cs) → w.heap.size + 4 ≤ V.heap.size → body.wpIn (Fence.wide.inRound l) 0 Tryd.prog (roundEnd w.heap.size I i V) (a₁ b) V)
    (hdone : ∀ V, I seq.length V → V.heap[w.heap.size]? = some (.deferred (some [])) → Q .normal { a with defers := { target := .collected w.heap.size, args := #[] } :: a.defers } V) :
    (Code.rangeFunc g ps assign body).wpIn Fence.wide 1 Tryd.prog Q a w := by
  refine wpIn_rangeFunc fun fn hfn => ?_
  obtain ⟨rc, hrc⟩ : ∃ rc : LoopState → Loop, rc = fun st => { state := st, pending := none, fn, tmps := a.tmps, params := ps, assign, body, defers := w.heap.size } := ⟨_, rfl⟩
  obtain ⟨W1, hW1⟩ : ∃ W1, W1 = (w.alloc (.deferred (some []))).alloc (.loop (rc .ready)) := ⟨_, rfl⟩
  have hsz : W1.heap.size = w.heap.size + 2 := by rw [hW1]; simp
  have hL1 : W1.heap[w.heap.size + 1]? = some (.loop (rc .ready)) := by
    have h := blk_new (w.alloc (.deferred (some []))) (.loop (rc .ready))
    rw [World.size_alloc] at h
    rw [hW1]
    exact h
  have hD1 : W1.heap[w.heap.size]? = some (.deferred (some [])) := by
    rw [hW1]
    exact blk_below (blk_new w _) (below_alloc (Below.refl _ _) _)
  have hI1 : I 0 W1 := by
    rw [hW1]
    exact hIk _ _ _ none (hIk _ _ _ none h0 (World.grownBy_alloc _ _ _) (fun _ e => by cases e)) (World.grownBy_alloc _ _ _) (fun _ e => by cases e)
  have hen : (Instr.enterLoop fn a.tmps ps assign body Fence.wide.round).run Tryd.prog w = .ok (w.heap.size + 1, [{ target := .collected w.heap.size, args := #[] }]) W1 := by
    rw [hW1, hrc]
    exact run_enterLoop_outer _ _ _ _ _
  refine ⟨w.heap.size + 1, [{ target := .collected w.heap.size, args := #[] }], W1, { target := .fn (.func 28) #[.pointer (some ⟨bn, 0, none⟩)], args := #[.func (.yield (w.heap.size + 1)) #[] #[]] }, W1, 28, #[.func (.yield (w.heap.size + 1)) #[] #[], .pointer (some ⟨bn, 0, none⟩)], W1, hen, ?_, fun _ _ => trivial, ?_, fun _ => Nat.le_refl _, ?_⟩
  · simp only [resolve, hg]
    simp [go_sem]
  · have eg := enters_of Tryd.func28 (by kernel_rfl) rfl
    simp [invoke, go_sem, eg]
  have hcall := each_calls (w.heap.size + 1) 0 bn c A L vs hvs w0 W1 (fun i V => I i V ∧ V.heap[w.heap.size + 1]? = some (.loop (rc .ready)) ∧ V.heap[w.heap.size]? = some (.deferred (some []))) seq hpath hhead hne hL hr (fun i V h => hIw i V h.1) (fun i V h => hIb i V h.1) (by omega) ?_ ⟨hI1, hL1, hD1⟩ ?_
  · refine (callsIn_wide.2 hcall).mono ?_
    rintro e V ⟨⟨v, rfl⟩, hi, hl, hd⟩
    have hend := run_endLoop (P := Tryd.prog) hl (by rw [hrc]; simp)
    refine ⟨none, _, by rw [hrc] at hend; exact hend, hdone _ (hIk _ _ _ _ hi (grown_put _ _ _) (fun q e => by cases e; omega)) ((World.putObj_heap_other (by omega)).trans hd)⟩
  · rintro i V V' row ⟨hi, hl, hd⟩ hg' hrow
    rw [hsz] at hrow
    have hlt := (Array.getElem?_eq_some_iff.1 hl).1
    refine ⟨hIk _ _ _ _ hi hg' (fun q e => by have := hrow q e; omega), (hg'.block _ hlt ?_).trans hl, (hg'.block _ (by omega) ?_).trans hd⟩ <;> (intro e; have := hrow _ e.symm; omega)
  · rintro i V b d cs ⟨hi, hl, hd⟩ hst hok hb hcs hV
    rw [hsz] at hb hV
    have hlt := (Array.getElem?_eq_some_iff.1 hl).1
    have hy := run_yield (P := Tryd.prog) (args := #[.slice (some ⟨b, 0, none⟩) L.length L.length]) hl (by rw [hrc, hps]; rfl)
    rw [hrc] at hy
    refine ⟨fn, _, assign, body, hy, roundIn_of_wpIn hfn (hassign _ b V _ ⟨_, run_beginRound hl (by rw [hrc]), ?_⟩)⟩
    have hother : ∀ q, q ≠ w.heap.size + 1 → (V.putObj (w.heap.size + 1) (.loop { rc .ready with state := .busy })).heap[q]? = V.heap[q]? := fun q hq => World.putObj_heap_other hq
    have hl2 : (V.putObj (w.heap.size + 1) (.loop { rc .ready with state := .busy })).heap[w.heap.size + 1]? = some (.loop { rc .ready with state := .busy }) := World.putObj_heap_same hlt
    refine wpIn_mono (hbody _ i b _ d cs (hIk _ _ _ _ hi (grown_put _ _ _) (fun q e => by cases e; omega)) hst hok (by omega) ((hother _ (by omega)).trans hcs) (by simp; omega)) ?_
    rintro e a3 V3 hp
    cases e with
    | normal =>
      obtain ⟨hi3, hk3, hs3⟩ := hp
      have hl3 := (hk3 (w.heap.size + 1) (by omega) (by omega)).trans hl2
      have hlt3 := (Array.getElem?_eq_some_iff.1 hl3).1
      have hend : (Instr.endRound (w.heap.size + 1) none).run Tryd.prog V3 = .ok (.bool true) (V3.putObj (w.heap.size + 1) (.loop (rc .ready))) := by
        have h := run_endRound (P := Tryd.prog) none hl3
        rw [hrc] at h ⊢
        exact h
      have hsame : ∀ q, q ≠ w.heap.size + 1 → w.heap.size ≤ q → q ≤ w.heap.size + 3 → (V3.putObj (w.heap.size + 1) (.loop (rc .ready))).heap[q]? = V.heap[q]? := fun q h1 h2 h3 => (World.putObj_heap_other h1).trans ((hk3 q h2 h3).trans (hother q h1))
      refine ⟨_, _, hend, rfl, ?_, ?_, ?_, ?_⟩
      · refine ⟨hIk _ _ _ _ hi3 (grown_put _ _ _) (fun q e => by cases e; omega), ?_, ?_⟩
        · exact World.putObj_heap_same hlt3
        · exact (hsame w.heap.size (by omega) (by omega) (by omega)).trans hd
      · rw [hsz]
        exact hsame _ (by omega) (by omega) (by omega)
      · rw [hsz]
        exact hsame _ (by omega) (by omega) (by omega)
      · simp at hs3 ⊢
        exact hs3
    | _ => exact hp.elim
abbrev SRows (W : World) (base : Nat) (ok : Nat → Prop) (v : Value) (xs : List (List ByteArray)) : Prop := Kd.S (Kd.slice 9 Kd.string) 23 W base ok v xs
theorem S_append_run {W : World} {base : Nat} {ok okp : Nat → Prop} {v u : Value} {xs : List (List ByteArray)} {p : List ByteArray} (HO : SRows W base (fun k => ok k ∧ ¬ okp k) v xs) (hp : (Kd.slice 9 Kd.string).M W base okp p [u]) (hokp : ∀ k, okp k → ok k ∧ some k ≠ v.ownBlock) (hfresh : ∀ k, W.heap.size ≤ k → ok k) (hbase : base ≤ W.heap.size) (hl : (xs.length + 1) * 24 ≤ 140737488355328) :
    ∃ v1 w1, (Builtin.append_ #[29, 29] 29 #[v, .slice (some ⟨W.heap.size, 0, none⟩) 1 1]).run Tryd.prog (W.alloc (.cells #[u] 23)) = .ok v1 w1 ∧ SRows w1 base ok v1 (xs ++ [p]) ∧ W.grownBy w1 v.ownBlock := by
  obtain ⟨f, hf, hR⟩ := Kd.S_tag HO xs.length okp (fun _ hk h2 => h2.2 hk)
  have hR2 := Kd.R_mono hR (fun _ hk => hk.1)
  obtain ⟨h0, inner, hown, hr⟩ := hR2
  obtain ⟨i0, hi, hz0, hz1, hz2⟩ := info_parts info23
  have hlen : xs.zipIdx.length = xs.length := List.length_zipIdx
  rw [hlen] at hown
  have h1 : ∀ x ∈ ([u] : List Value), x.oneCell' = true := (Kd.slice 9 Kd.string).K_one ((Kd.slice 9 Kd.string).K_of_M hp)
  obtain ⟨v1, w1, hrun, hown1, hg, _, hat⟩ := run_append_own_at (P := Tryd.prog) (W.alloc (.cells #[u] 23)) base 29 29 23 i0 (.slice none 0 0) 1 24 Tryd.underlying29 hi hz0 hz1 hz2 rfl (by decide) v xs.length inner (hown.alloc _) ⟨W.heap.size, 0, none⟩ 1 1 [u] rfl (World.news_of_block (cs := #[u]) (blk_new W _)) h1 (by unfold maxLen; omega) hl (by simp; omega)
  have hg2 : W.grownBy w1 v.ownBlock := ⟨hg.os, hg.tape, hg.output, by have := hg.size; simp at this; omega, fun k hk hne => (hg.block k (by simp; omega) hne).trans (Below.heap_alloc W _ k hk)⟩
  have hat2 : v1.ownBlock = v.ownBlock ∨ ∃ b, v1.ownBlock = some b ∧ W.heap.size ≤ b := by
    rcases hat with h | h
    · exact .inl h
    · exact .inr ⟨_, h, by simp⟩
  refine ⟨v1, w1, hrun, ⟨f, ?_⟩, hg2⟩
  rw [Kd.zip_snoc]
  have hR3 := Kd.R_appended (d := Kd.tag f (Kd.slice 9 Kd.string)) (okp := okp) (cs := [u]) (p := (p, xs.length)) h0 hr ((Kd.slice 9 Kd.string).M_mono (fun k hk => ⟨hk, hf k hk⟩) hp) hokp hfresh (by rw [hlen]; exact hown1) hg2 hat2
  exact hR3
theorem setCells_blk {b e : Nat} : ∀ (vs rest pre : List Value) (W : World), vs.length = rest.length → W.heap[b]? = some (.cells (pre ++ rest).toArray e (0, 0)) → (W.setCells b pre.length vs).heap[b]? = some (.cells (pre ++ vs).toArray e (0, 0))
  | [], [], pre, W, _, h => h
  | v :: vs, [], _, _, hl, _ => by simp at hl
  | [], _ :: _, _, _, hl, _ => by simp at hl
  | v :: vs, x :: rest, pre, W, hl, h => by
    have h2 := blk_set h pre.length v
    have e1 : (pre ++ x :: rest).toArray.setIfInBounds pre.length v = ((pre ++ [v]) ++ rest).toArray := by simp
    rw [e1] at h2
    have h3 := setCells_blk vs rest (pre ++ [v]) _ (by simpa using hl) h2
    rw [List.length_append, List.length_singleton, List.append_assoc] at h3
    exact h3
theorem setCells_grown {b : Nat} : ∀ (vs : List Value) (o : Nat) (W : World), W.grownBy (W.setCells b o vs) (some b)
  | [], _, W => World.grownBy.refl W _
  | v :: vs, o, W => by
    have h1 := grown_set (W := W) b o v
    have h2 := setCells_grown (b := b) vs (o + 1) (W.setCell ⟨b, o, none⟩ v)
    exact ⟨h2.os.trans h1.os, h2.tape.trans h1.tape, h2.output.trans h1.output, Nat.le_trans h1.size h2.size, fun k hk hne => (h2.block k (Nat.lt_of_lt_of_le hk h1.size) hne).trans (h1.block k hk hne)⟩
theorem own_row {W : World} {g base : Nat} {cs : List ByteArray} {n : Nat} (h : W.heap[g]? = some (strCs cs)) (hb : base ≤ g) (hn : cs.length = n) (hl : n ≤ 1000000) : (Kd.slice 9 Kd.string).M W base (fun k => k = g) cs [.slice (some ⟨g, 0, none⟩) n n] := by
  refine ⟨_, rfl, Kd.R_of_own ⟨by rw [hn]; simp [encs, hn], .inr ⟨g, n, _, by rw [hn], hb, h, by omega, by unfold maxLen; omega, by simp [hn], by rw [List.take_of_length_le (by simp)]; simp [encs]⟩⟩ (fun k hk => by simpa [Value.ownBlock] using hk.symm)⟩
/-- own := make; copy. -/
theorem copy_run {V : World} {b n : Nat} {cs : List ByteArray} (h : V.heap[b]? = some (strCs cs)) (hn : cs.length = n) :
    ∃ W2, (Builtin.copy_ #[23, 23] 3 #[.slice (some ⟨V.heap.size, 0, none⟩) n n, .slice (some ⟨b, 0, none⟩) n n]).run Tryd.prog (V.alloc (.cells (Array.replicate n (.string ⟨#[]⟩)) 9)) = .ok (.int .i64 (n : Int)) W2 ∧ W2.heap[V.heap.size]? = some (strCs cs) ∧ V.grownBy W2 none ∧ W2.heap.size = V.heap.size + 1 := by
  obtain ⟨V1, hV1⟩ : ∃ V1, V1 = V.alloc (.cells (Array.replicate n (.string ⟨#[]⟩)) 9) := ⟨_, rfl⟩
  have hnew : V1.heap[V.heap.size]? = some (strCs (List.replicate n ByteArray.empty)) := by rw [hV1, ← empty_cs]; exact blk_new V _
  have hold : V1.heap[b]? = some (strCs cs) := by rw [hV1]; exact blk_below h (below_alloc (Below.refl _ _) _)
  have hrun := run_copy_cells (P := Tryd.prog) V1 23 23 3 9 V.heap.size 0 n n ⟨b, 0, none⟩ n n (cs.map Value.string) Tryd.underlying23 (by kernel_rfl) (by rw [List.length_map, hn]; simp) (fun j v hj => by rw [add_plain, blk_cell hold j]; simpa using hj) (fun j hj => by
      rw [Nat.zero_add, strCs_cell hnew j (by simp at hj ⊢; omega)]
      rfl) (fun j hj => by rw [Nat.zero_add]; exact blk_frozen hnew j) (fun v hv => by obtain ⟨s, _, rfl⟩ := List.mem_map.1 hv; rfl)
  refine ⟨V1.setCells V.heap.size 0 (cs.map Value.string), ?_, ?_, ?_, ?_⟩
  · rw [hV1] at hrun ⊢
    rw [hrun, List.length_map, hn]
    rfl
  · have := setCells_blk (b := V.heap.size) (e := 9) (cs.map Value.string) ((List.replicate n ByteArray.empty).map Value.string) [] V1 (by simp [hn]) hnew
    exact this
  · have hg := setCells_grown (b := V.heap.size) (cs.map Value.string) 0 V1
    have h1 : V.grownBy V1 none := by rw [hV1]; exact World.grownBy_alloc _ _ _
    exact ⟨hg.os.trans h1.os, hg.tape.trans h1.tape, hg.output.trans h1.output, Nat.le_trans h1.size hg.size, fun k hk _ => (hg.block k (Nat.lt_of_lt_of_le hk h1.size) (fun e => by injection e with e; omega)).trans (h1.block k hk (by simp))⟩
  · have : ∀ (vs : List Value) (o : Nat) (W : World), (W.setCells V.heap.size o vs).heap.size = W.heap.size := by
      intro vs
      induction vs with
      | nil => intro o W; rfl
      | cons v vs ih => intro o W; rw [World.setCells, ih]; simp
    rw [this, hV1]
    simp
set_option maxHeartbeats 1000000 in
theorem each_call (A : Option Addr) (n c : Nat) (w : World) : Calls Tryd.prog 23 #[.slice A n c] w fun e w' => e = .returned (.func (.func 28) #[] #[.pointer (some ⟨w.heap.size, 0, none⟩)]) ∧ w' = w.alloc (.cells #[.slice A n c] 27) := by
  go_enter Tryd.func23, Tryd.ntmps23
  go_wp2
  go_ret
  exact ⟨rfl, rfl⟩
theorem wpListIn_app {F : Fence} {nF : Nat} {W w1 : World} {ops : Array Oper} {rest : List Oper} {o : Oper} {a : Act} {Q : Exit → Act → World → Prop} {v u v1 : Value} (hgd : o.guard = none) (s x : Operand) (t : TypeId)
    (ho : o.op = .call { callee := .builtin .append, args := #[s, x], argTypes := #[t, t] }) (hs : a.eval s = v) (hx : a.eval x = u) (hrun : (Builtin.append_ #[t, t] o.type #[v, u]).run Tryd.prog W = .ok v1 w1)
    (h : wpListIn F nF Tryd.prog ops Q rest (a.put o.dst v1) w1) : wpListIn F nF Tryd.prog ops Q (o :: rest) a W := by
  refine wpListIn_plain hgd fun K hK => ?_
  unfold Oper.wpIn
  refine ⟨by simp [Oper.about, ho, resolve, Target.leads, Sem.run_pure], ?_⟩
  rw [Oper.semAt_plain F _ _ (by rw [ho]; intro c hc'; cases hc')]
  simp [execOp, ho, resolve, invoke, builtin, hs, hx, hrun, Result.andThen]
  exact hK _ _ h
def matrix_Rows.Post (w : World) (r : List (List ByteArray)) (c : Int) (e : Ending) (w' : World) : Prop := ∃ v : Value, e = .returned (.tuple #[v, .int .i64 c]) ∧ SRows w' w.heap.size (fun _ => True) v r ∧ Below w.heap.size w w'
/-- Between two rounds: out's box, its rows, each's box. -/
def RowsI (w : World) (H ob bn c : Nat) (A : Option Addr) (n : Nat) (vs : List (List ByteArray)) (seq : List (List Nat)) (i : Nat) (V : World) : Prop :=
  (∃ v, V.heap[ob]? = some (.cells #[v] 29 (0, 0)) ∧ SRows V w.heap.size (fun k => k ≠ ob ∧ k ≠ bn ∧ (k < H ∨ H + 3 < k)) v ((seq.take i).map (rowOf vs))) ∧ V.heap[bn]? = some (.cells #[.slice A n c] 27 (0, 0)) ∧ Below w.heap.size w V
theorem RowsI.kept {w V V' : World} {H ob bn c : Nat} {A : Option Addr} {n : Nat} {vs : List (List ByteArray)} {seq : List (List Nat)} {i : Nat} {row : Option Nat} (h : RowsI w H ob bn c A n vs seq i V) (hg : V.grownBy V' row) (hrow : ∀ q, row = some q → H ≤ q ∧ q ≤ H + 3) (ho : ob < H) (hb : bn < H) (hw : w.heap.size ≤ H) : RowsI w H ob bn c A n vs seq i V' := by
  obtain ⟨⟨v, h1, h2⟩, h3, h4⟩ := h
  refine ⟨⟨v, blk_grown h1 hg (fun e => by have := hrow _ e.symm; omega), Kd.S_grown h2 hg (fun k hk e => by have := hrow _ e.symm; omega)⟩, blk_grown h3 hg (fun e => by have := hrow _ e.symm; omega), h4.grown hg h4.size (fun k e => by have := hrow _ e; omega)⟩
attribute [local go_sem] Oper.semAt_some
set_option maxHeartbeats 8000000 in
set_option maxRecDepth 100000 in
theorem matrix_Rows.walk (A : Option Addr) (c : Nat) (L : List S49) (w : World) (e : Int) (he : matrix_check.f L = some e) (hL : L.length ≤ 1000000) (hlc : L.length ≤ c) (hr : Kd.C k49 w A L.length L)
    (hok : e = 0 → (∀ v ∈ L.map (·.f1), 0 < v.length ∧ v.length ≤ 1000000) ∧ (allRows (L.map (·.f1))).length ≤ 1000000) :
    Calls Tryd.prog 12 #[.slice A L.length c] w (matrix_Rows.Post w (if e = 0 then allRows (L.map (·.f1)) else []) e) := by
  by_cases h0 : e = 0
  case neg =>
    rw [if_neg h0]
    have h0' : (e != 0) = true := bne_iff_ne.2 h0
    have HN := Aside0.mk h0
    have HE := Aside0.mk he
    have HR := Aside0.mk hr
    clear h0 he hr hok
    go_enter Tryd.func12, Tryd.ntmps12
    go_wp2_with (go_at_call 22; refine (matrix_check.calls A c L e w HR.out hlc HE.out).mono ?_; rintro e1 w1 ⟨rfl, hb1⟩; have HB := Aside0.mk hb1; clear hb1)
    go_ret2
    exact ⟨_, rfl, Kd.S_nil _ _ _ _ _, HB.out⟩
  rw [if_pos h0]
  obtain ⟨hne, hlen⟩ := hok h0
  subst h0
  obtain ⟨vs, hvs⟩ : ∃ vs, vs = L.map (·.f1) := ⟨_, rfl⟩
  rw [← hvs] at hne hlen ⊢
  obtain ⟨seq, hseq⟩ : ∃ seq, seq = seqs (vs.map List.length) := ⟨_, rfl⟩
  have hpos : ∀ m ∈ vs.map List.length, 0 < m := fun m hm => by obtain ⟨v, hv, rfl⟩ := List.mem_map.1 hm; exact (hne v hv).1
  have hpath : Path (vs.map List.length) seq := by rw [hseq]; exact seqs_path _ hpos
  have hvl : vs.length = L.length := by rw [hvs, List.length_map]
  have hhead : ∃ r, seq = zeros L.length :: r := by
    obtain ⟨r, h⟩ := seqs_head _ hpos
    rw [List.length_map, hvl] at h
    exact ⟨r, by rw [hseq]; exact h⟩
  have hall : allRows vs = seq.map (rowOf vs) := by rw [hseq]; exact allRows_seqs vs
  rw [hall] at hlen ⊢
  rw [List.length_map] at hlen
  have HR := Aside0.mk hr
  have HE := Aside0.mk he
  have HV := Aside0.mk hvs
  have HP := Aside0.mk hpath
  have HH := Aside0.mk hhead
  have HN := Aside0.mk hne
  have HVL := Aside0.mk hvl
  clear hr he hvs hpath hhead hne hpos hall hseq hvl
  refine callsIn_wide.1 (?_ : CallsIn Fence.wide 1 _ _ _ _ _)
  refine callsIn_of_wp_marks Tryd.func12 rfl trivial ?_ rfl
  simp only [Tryd.ntmps12, List.size_toArray, List.length_cons, List.length_nil, Nat.reduceAdd, Nat.reduceSub, Array.replicate_succ, Array.replicate_zero, List.push_toArray, List.append_toArray, List.nil_append, List.cons_append]
  refine (wpIn_wide (n := 1)).2 ?_
  go_wp2_with (first
    | (go_at_call 22; refine (matrix_check.calls A c L 0 w HR.out hlc HE.out).mono ?_; rintro e1 w1 ⟨rfl, hb1⟩; have HB := Aside0.mk hb1; clear hb1)
    | (go_at_call 23; refine (each_call A L.length c _).mono ?_; rintro e1 w2 ⟨rfl, hw2⟩; rw [hw2]; clear hw2))
  obtain ⟨w3, hw3⟩ : ∃ w3, w3 = (w1.alloc (.cells #[.slice none 0 0] 29)).alloc (.cells #[.slice A L.length c] 27) := ⟨_, rfl⟩
  have hsz3 : w3.heap.size = w1.heap.size + 2 := by rw [hw3]; simp
  have hB3 : Below w.heap.size w w3 := by rw [hw3]; exact below_alloc (below_alloc HB.out _) _
  have hb0 : w3.heap[w1.heap.size]? = some (.cells #[.slice none 0 0] 29 (0, 0)) := by rw [hw3]; exact blk_below (blk_new w1 _) (below_alloc (Below.refl _ _) _)
  have hb1 : w3.heap[w1.heap.size + 1]? = some (.cells #[.slice A L.length c] 27 (0, 0)) := by
    have h := blk_new (w1.alloc (.cells #[.slice none 0 0] 29)) (.cells #[.slice A L.length c] 27)
    rw [World.size_alloc] at h
    rw [hw3]
    exact h
  rw [← hw3]
  have hw1 := HB.out.size
  refine (wpIn_wide (n := 1)).1 ?_
  refine range_each (w1.heap.size + 1) c A L vs HV.out w seq HP.out HH.out HN.out hL HR.out hB3.size rfl rfl (RowsI w w3.heap.size w1.heap.size (w1.heap.size + 1) c A L.length vs seq) (fun i V h => h.2.2) (fun i V h => (blk_cell h.2.1 0).trans rfl) (fun i V V' row h hg hrow => h.kept hg hrow (by omega) (by omega) (by omega)) ⟨⟨_, hb0, Kd.S_nil _ _ _ _ _⟩, hb1, hB3⟩
    (fun b => { tmps := #[.slice A L.length c, undef, .slice none 0 0, .int .i64 0, .int .i64 0, .pointer (some ⟨w1.heap.size, 0, none⟩), .slice (some ⟨b, 0, none⟩) L.length L.length, undef, .slice A L.length c, .int .i64 0, .int .i64 0, .bool false, undef, .slice A L.length c, .func (.func 28) #[] #[.pointer (some ⟨w1.heap.size + 1, 0, none⟩)], .slice (some ⟨b, 0, none⟩) L.length L.length, undef, undef, undef, undef, undef, undef, undef, undef, undef, undef, undef], defers := [] }) ?assign ?body ?done
  case assign =>
    intro l b V K hK
    gi_wp2
    exact hK
  case body =>
    intro l i b V d cs hI hst hro hb hcs hV
    have hcl : cs.length = L.length := by rw [hro.2.1, HVL.out]
    obtain ⟨W2, hcp, hW2, hg2, hs2⟩ := copy_run hcs hcl
    have mk2 := run_mk 23 9 (.string ⟨#[]⟩) 16 L.length Tryd.underlying23 (by kernel_rfl) rfl (by omega) (by omega)
    obtain ⟨⟨v, hbox, hS⟩, hbn, hBV⟩ := hI
    have hist : i < seq.length := (List.getElem?_eq_some_iff.1 hst).1
    have hlen' : ((seq.take i).map (rowOf vs)).length ≤ 1000000 := by rw [List.length_map, List.length_take]; omega
    have hVlt := blk_lt hbn
    have hWV : w.heap.size ≤ V.heap.size := hBV.size
    have hS2 : SRows W2 w.heap.size (fun k => (k ≠ w1.heap.size ∧ k ≠ w1.heap.size + 1 ∧ (k < w3.heap.size ∨ w3.heap.size + 3 < k)) ∧ ¬ k = V.heap.size) v ((seq.take i).map (rowOf vs)) :=
      Kd.S_grown (Kd.S_elderB hS V.heap.size (Nat.le_refl _)) hg2 (fun k _ => by simp)
    obtain ⟨v1, w4, hap, hS4, hg4⟩ := S_append_run hS2 (own_row hW2 (base := w.heap.size) hWV hcl hL) (fun k hk => by
        subst hk
        refine ⟨⟨by omega, by omega, by omega⟩, fun e => ?_⟩
        have := Kd.S_lt hS _ e.symm
        omega) (fun k hk => ⟨by omega, by omega, by omega⟩) (by omega) (by omega)
    obtain ⟨A4, c4, rfl⟩ := Kd.S_slice hS4
    have hbox2 := blk_grown hbox hg2 (by simp)
    have hbox4 := blk_grown hbox2 hg4 (Kd.S_ne hS2 hbox2 (by decide))
    have hbc := blk_cell hbox2 0
    have hbc4 := blk_cell hbox4 0
    have hbf4 := blk_frozen hbox4 0
    simp only [List.getElem?_toArray, List.getElem?_cons_zero] at hbc hbc4
    have HS4 := Aside0.mk hS4
    have HS2 := Aside0.mk hS2
    have HG4 := Aside0.mk hg4
    have HBX4 := Aside0.mk hbox4
    have HG2 := Aside0.mk hg2
    have HCS := Aside0.mk hcs
    have HBN := Aside0.mk hbn
    have HBV := Aside0.mk hBV
    have HST := Aside0.mk hst
    have HRO := Aside0.mk hro
    clear hS2 hS hS4 hg4 hbox4 hbox2 hbox hg2 hcs hbn hBV hW2 hst hro
    rw [hs2] at hap
    gi_wp2_with (gi_at_builtin; refine wpListIn_app rfl _ _ 29 rfl rfl rfl hap ?_)
    have e0 : (seq.take (i + 1)).map (rowOf vs) = (seq.take i).map (rowOf vs) ++ [cs] := by
      have h := HST.out
      obtain ⟨h1, h2⟩ := List.getElem?_eq_some_iff.1 h
      rw [List.take_succ_eq_append_getElem h1, List.map_append, h2, HRO.out.row]
      rfl
    have e1 : min i seq.length + 1 = ((seq.take i).map (rowOf vs) ++ [cs]).length := by simp
    rw [e1]
    have hg24 := HG2.out
    have hs24 := Nat.le_trans HG2.out.size HG4.out.size
    have hown : ∀ k, v.ownBlock = some k → (k ≠ w1.heap.size ∧ k ≠ w1.heap.size + 1 ∧ (k < w3.heap.size ∨ w3.heap.size + 3 < k)) ∧ w.heap.size ≤ k := fun k hk => ⟨((Kd.S_R HS2.out).1 k hk).1, Kd.S_base HS2.out k hk⟩
    refine ⟨⟨⟨.slice A4 ((seq.take i).map (rowOf vs) ++ [cs]).length c4, blk_set HBX4.out 0 _, ?_⟩, ?_, ?_⟩, ?_, ?_⟩
    · rw [e0]
      have h := Kd.S_far (p := ⟨w1.heap.size, 0, none⟩) HS4.out (fun k hk => hk.1) (.slice A4 ((seq.take i).map (rowOf vs) ++ [cs]).length c4)
      exact h
    · refine blk_far (p := ⟨w1.heap.size, 0, none⟩) (blk_grown (blk_grown HBN.out HG2.out (by simp)) HG4.out (fun e => ?_)) (by show w1.heap.size + 1 ≠ w1.heap.size; omega) _
      exact (hown _ e.symm).1.2.1 rfl
    · exact ((HBV.out.grown HG2.out HBV.out.size (fun k e => by cases e)).grown HG4.out (Nat.le_trans HBV.out.size HG2.out.size) (fun k e => (hown k e).2)).setCell (p := ⟨w1.heap.size, 0, none⟩) (by show w.heap.size ≤ w1.heap.size; omega) _
    · intro q h1 h2
      rw [Below.heap_setCell _ _ _ _ (by show q ≠ w1.heap.size; omega)]
      rw [HG4.out.block q (by have := HG2.out.size; omega) (fun e => by have := hown _ e.symm; omega)]
      exact HG2.out.block q (by omega) (by simp)
    · simp
      exact hs24
  case done =>
    rintro V ⟨⟨v, hbox, hS⟩, hbn, hBV⟩ hD
    have hbc := blk_cell hbox 0
    simp only [List.getElem?_toArray, List.getElem?_cons_zero] at hbc
    obtain ⟨A4, c4, rfl⟩ := Kd.S_slice hS
    have HS := Aside0.mk hS
    have HD := Aside0.mk hD
    have HBV := Aside0.mk hBV
    clear hS hD hBV hbox hbn
    go_wp2
    refine ⟨by simp, .inl ⟨_, _, rfl, run_takeDeferred HD.out, ?_⟩⟩
    refine ⟨.tuple #[.slice A4 seq.length c4, .int .i64 0], by simp [results, Tryd.results12, go_sem], ?_⟩
    have hS := HS.out
    rw [List.take_of_length_le (Nat.le_refl _), List.length_map] at hS
    exact ⟨_, rfl, Kd.S_mono (Kd.S_grown hS (grown_put _ _ _) (fun k hk e => by injection e with e; omega)) (fun _ _ => trivial), HBV.out.grown (grown_put _ _ _) HBV.out.size (fun k e => by injection e with e; omega)⟩
def matrix_Rows.f (l0 : List S49) : Option (List (List ByteArray) × Int) := (matrix_check.f l0).bind fun e => if l0.length ≤ 1000000 ∧ (e = 0 → (∀ v ∈ l0.map (·.f1), 0 < v.length ∧ v.length ≤ 1000000) ∧ (allRows (l0.map (·.f1))).length ≤ 1000000) then some (if e = 0 then allRows (l0.map (·.f1)) else [], e) else none
theorem matrix_Rows.calls (A0 : Option Addr) (c0 : Nat) (l0 : List (S49)) (r1 : List (List ByteArray)) (r2 : Int) (w : World) (hr0 : Kd.C k49 w A0 l0.length l0) (hc0 : l0.length ≤ c0) (h : matrix_Rows.f l0 = some (r1, r2)) :
    Calls Tryd.prog 12 #[.slice A0 l0.length c0] w fun e w' => ∃ v0_ : Value, e = .returned (.tuple #[v0_, .int .i64 r2]) ∧ Kd.S (Kd.slice 9 Kd.string) 23 w' w.heap.size (fun _ => True) v0_ r1 ∧ Below w.heap.size w w' := by
  unfold matrix_Rows.f at h
  cases he : matrix_check.f l0 with
  | none => rw [he] at h; cases h
  | some e =>
    rw [he] at h
    simp only [Option.bind_some] at h
    by_cases hc : l0.length ≤ 1000000 ∧ (e = 0 → (∀ v ∈ l0.map (·.f1), 0 < v.length ∧ v.length ≤ 1000000) ∧ (allRows (l0.map (·.f1))).length ≤ 1000000)
    case neg => rw [if_neg hc] at h; cases h
    rw [if_pos hc] at h
    injection h with h
    injection h with h1 h2
    subst h1 h2
    exact matrix_Rows.walk A0 c0 l0 w e he hc.1 hc0 hr0 hc.2

end Go.Proofs.YtifgdhmbjlfnhaaDoor.M
