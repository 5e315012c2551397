-- Written by wip/xprint.py: the kit's print with functions proved by hand in their places. Not trusted: Lean checks it.
import Derived.Test.YtckfpbkckffjjaaDoorXx0
namespace Go.Proofs.YtckfpbkckffjjaaDoor.X
open Go.RowKit Go.Proofs.YtckfpbkckffjjaaDoorW.PrintWords Go.Proofs.YtckfpbkckffjjaaDoorW.PrintLast Go.Proofs.YtckfpbkckffjjaaDoorW.PrintMore
attribute [local go_sem] max2_int min2_int max_two min_two max_three min_three max_four min_four   -- for this text's walks alone
set_option linter.unusedVariables false
set_option linter.unusedSimpArgs false

/-! ### strings_TrimLeft: function 18 -/
def strings_TrimLeft.f (a0 a1 : ByteArray) : Option ByteArray := if a1.data.toList.all (fun b => decide (b.toNat < 128)) = true ∧ a1.size < 4294967281 then some ⟨(Lib.trimLeftS a0.data.toList a1.data.toList).toArray⟩ else none
theorem strings_TrimLeft.calls (a0 : ByteArray) (a1 : ByteArray) (r : ByteArray) (w : World) (h : strings_TrimLeft.f a0 a1 = some r) :
    Calls Tryd.prog 18 #[.string a0, .string a1] w fun e w' => e = .returned (.string r) ∧ Below w.heap.size w w' := by
  unfold strings_TrimLeft.f at h
  by_cases hc : a1.data.toList.all (fun b => decide (b.toNat < 128)) = true ∧ a1.size < 4294967281
  case neg => rw [if_neg hc] at h; cases h
  rw [if_pos hc] at h
  injection h with h
  subst h
  refine Any.strings_TrimLeft_laid Tryd.lays161 (by kernel_rfl) a0 a1 w hc.2 (fun j b hb => ?_)
  have := List.all_eq_true.1 hc.1 b (List.mem_of_getElem? hb)
  exact of_decide_eq_true this

theorem bytes_drop (s : ByteArray) (i : Nat) (h : i < s.size) : (bytesOf s).drop i = (s[i].toNat : Int) :: (bytesOf s).drop (i + 1) := by
  have hl : i < (bytesOf s).length := by rw [bytesOf_length]; exact h
  rw [List.drop_eq_getElem_cons hl]
  congr 1
  simp [bytesOf]
  rfl
theorem bytes_end (s : ByteArray) (i : Nat) (h : s.size ≤ i) : (bytesOf s).drop i = [] := List.drop_eq_nil_of_le (by rw [bytesOf_length]; exact h)
theorem strOfNums_bytesOf (s : ByteArray) : strOfNums (bytesOf s) = s := by
  unfold strOfNums bytesOf
  rw [List.map_map]
  have : (fun n : Int => UInt8.ofNat n.toNat) ∘ (fun b : UInt8 => (b.toNat : Int)) = id := by
    funext b; simp
  rw [this, List.map_id]
theorem u8_lo (b : UInt8) : 0 ≤ (b.toNat : Int) := by omega
theorem u8_hi (b : UInt8) : (b.toNat : Int) ≤ 255 := by have := b.toNat_lt; omega
theorem strOfNums_drop (s : ByteArray) (i : Nat) : strOfNums ((bytesOf s).drop i) = s.extract i s.size := by
  have h : s.extract i s.size = strOfNums (bytesOf (s.extract i s.size)) := (strOfNums_bytesOf _).symm
  rw [h]
  congr 1
  simp only [bytesOf, ByteArray.data_extract, Array.toList_extract, List.extract_eq_take_drop, List.map_drop, List.map_take]
  rw [List.take_of_length_le (by rw [List.length_drop, List.length_map, data_length]; exact Nat.le_refl _)]

def unU8 (l : List UInt8) : List Int := l.map fun b => (b.toNat : Int)
theorem unU8_append (a b : List UInt8) : unU8 (a ++ b) = unU8 a ++ unU8 b := List.map_append
theorem unU8_length (a : List UInt8) : (unU8 a).length = a.length := List.length_map _
theorem strOfNums_un (l : List UInt8) : strOfNums (unU8 l) = ⟨l.toArray⟩ := by
  unfold strOfNums unU8
  rw [List.map_map]
  have : (fun n : Int => UInt8.ofNat n.toNat) ∘ (fun b : UInt8 => (b.toNat : Int)) = id := by
    funext b; simp
  rw [this, List.map_id]
theorem bytesOf_un (s : ByteArray) : bytesOf s = unU8 s.data.toList := rfl
theorem bytesOf_tail (s : ByteArray) (i : Nat) : bytesOf (s.extract i s.size) = (bytesOf s).drop i := by
  simp only [bytesOf, ByteArray.data_extract, Array.toList_extract, List.extract_eq_take_drop, List.map_drop, List.map_take]
  rw [List.take_of_length_le (by rw [List.length_drop, List.length_map, data_length]; exact Nat.le_refl _)]
theorem bytesOf_cons {s : ByteArray} (h : 0 < s.size) : bytesOf s = (s[0].toNat : Int) :: (bytesOf s).drop 1 := by
  have := bytes_drop s 0 h
  rw [List.drop_zero] at this
  exact this
theorem bytesOf_empty {s : ByteArray} (h : s.size = 0) : bytesOf s = [] := List.eq_nil_of_length_eq_zero (by rw [bytesOf_length]; exact h)
theorem toList_empty {s : ByteArray} (h : s.size = 0) : s.toList.isEmpty = true := by
  rw [Lib.toList_data, List.isEmpty_iff]
  exact List.eq_nil_of_length_eq_zero (by rw [data_length]; exact h)
theorem toList_nonempty {s : ByteArray} (h : 0 < s.size) : (!s.toList.isEmpty) = true := by
  rw [Lib.toList_data]
  cases hd : s.data.toList with
  | nil => have := data_length s; rw [hd] at this; simp at this; omega
  | cons x r => rfl
theorem toList_nonempty' {s : ByteArray} (h : 0 < s.size) : s.toList.isEmpty = false := by
  have := toList_nonempty h
  simpa using this
theorem one_byte {s : ByteArray} (h : s.size = 1) : ∃ c : UInt8, s = ⟨#[c]⟩ := by
  refine ⟨s[0]'(by omega), ?_⟩
  apply ByteArray.ext
  apply Array.ext
  · exact h
  · intro i hi hi'
    have : i = 0 := by simp at hi'; omega
    subst this
    rfl
theorem bytes_take (s : ByteArray) (i : Nat) (h : i < s.size) : (bytesOf s).take (i + 1) = (bytesOf s).take i ++ [(s[i].toNat : Int)] := by
  have hl : i < (bytesOf s).length := by rw [bytesOf_length]; exact h
  rw [List.take_succ_eq_append_getElem hl]
  congr 2
  simp [bytesOf]
  rfl

/-! ### strings_Contains: function 19 -/
def strings_Contains.f (a0 a1 : ByteArray) : Option Bool := if a1.size = 1 then some (decide (0 ≤ Lib.indexByte a0.data.toList (a1.data.toList.headD 0))) else none
theorem strings_Contains.calls (a0 : ByteArray) (a1 : ByteArray) (r : Bool) (w : World) (h : strings_Contains.f a0 a1 = some r) :
    Calls Tryd.prog 19 #[.string a0, .string a1] w fun e w' => e = .returned (.bool r) ∧ Drawn0 w w' := by
  unfold strings_Contains.f at h
  by_cases hc : a1.size = 1
  case neg => rw [if_neg hc] at h; cases h
  rw [if_pos hc] at h
  injection h with h
  subst h
  obtain ⟨c, rfl⟩ := one_byte hc
  exact (Tryd.strings_Contains_one a0 c w).mono fun e w' ⟨h1, h2⟩ => ⟨h1, h2 ▸ Drawn0.refl _⟩

theorem sizeBuilder : (Tryd.prog.info? 63).map (·.size) = some 2 := by kernel_rfl
theorem liesBuilder : liesAt Tryd.prog Tryd.prog.depth 63 (2 / Tryd.prog.cellsOf 63) 0 63 1 = true := by kernel_rfl
theorem infoByte : (Tryd.prog.info? 5).map (fun i => (i.zero, i.size, i.bytes)) = some (some (.int .u8 0), 1, 1) := by kernel_rfl

set_option maxHeartbeats 1000000 in
set_option maxRecDepth 100000 in
theorem copyCheck_used (b : Nat) (w : World) (h0 : w.cell? ⟨b, 0, none⟩ = some (.pointer (some ⟨b, 0, none⟩))) :
    Calls Tryd.prog 49 #[.pointer (some ⟨b, 0, none⟩)] w fun e w' => e = .returned (.tuple #[]) ∧ w' = w := by
  obtain ⟨j, hj, _⟩ := Option.map_eq_some_iff.1 sizeBuilder
  go_enter Tryd.func49, Tryd.ntmps49
  go_wp2
  rw [Lib.run_neq_ptr_same w _ Tryd.underlying61 hj]
  go_wp2
  go_end0
  exact ⟨rfl, rfl⟩

set_option maxHeartbeats 1000000 in
set_option maxRecDepth 100000 in
theorem copyCheck_fresh (b : Nat) (w : World) (h0 : w.cell? ⟨b, 0, none⟩ = some (.pointer none)) (hsh : w.shape? b = some (63, 2)) (hfz : w.frozen? ⟨b, 0, none⟩ = false) :
    Calls Tryd.prog 49 #[.pointer (some ⟨b, 0, none⟩)] w fun e w' => e = .returned (.tuple #[]) ∧ w' = w.setCell ⟨b, 0, none⟩ (.pointer (some ⟨b, 0, none⟩)) := by
  obtain ⟨j, hj, hjs⟩ := Option.map_eq_some_iff.1 sizeBuilder
  go_enter Tryd.func49, Tryd.ntmps49
  go_wp2
  rw [Lib.run_to_unsafe w ⟨b, 0, none⟩ Tryd.underlying61 Tryd.underlying87 hj (by rw [hjs]; decide) hsh (Nat.zero_lt_succ 1)]
  simp only [Result.andThen]
  rw [Oper.upon_value]
  go_wp2
  rw [run_callFunc_extern Tryd.func59 (by kernel_rfl) (by kernel_rfl) (by kernel_rfl) (e := Extern.AbiNoEscape.same) (by kernel_rfl)]
  rw [Lib.run_noEscape]
  simp only [Result.andThen]
  rw [Oper.upon_value]
  go_wp2
  rw [Lib.run_from_unsafe w ⟨b, 0, none⟩ Tryd.underlying87 Tryd.underlying61 hj hsh liesBuilder]
  simp only [Result.andThen]
  rw [Oper.upon_value]
  go_wp2
  go_end0
  exact ⟨rfl, rfl⟩

theorem copyCheck_k (B b : Nat) (bs : List Value) (w : World) (h : Lib.IsBuilderF 63 5 B b bs w) :
    Calls Tryd.prog 49 #[.pointer (some ⟨b, 0, none⟩)] w fun e w' => e = .returned (.tuple #[]) ∧ (Lib.BuilderAtF 63 5 B b (.pointer (some ⟨b, 0, none⟩)) bs w' ∧ Below B w w' ∧ Lib.OthersKept 5 (some b) w w') := by
  rcases h with h | h
  · refine (copyCheck_fresh b w h.cell0 h.shape h.frozen0).mono ?_
    rintro e w' ⟨rfl, rfl⟩
    exact ⟨rfl, h.used _, (Below.refl B w).setCell (p := ⟨b, 0, none⟩) h.1 _, (Lib.OthersKept.refl _ _ w).setCell ⟨b, 0, none⟩ rfl _⟩
  · refine (copyCheck_used b w h.cell0).mono ?_
    rintro e w' ⟨rfl, rfl⟩
    exact ⟨rfl, h, Below.refl B _, Lib.OthersKept.refl _ _ _⟩

set_option maxHeartbeats 2000000 in
set_option maxRecDepth 100000 in
theorem WriteByte_k (B b : Nat) (bs : List Value) (c : Int) (w : World) (h : Lib.IsBuilderF 63 5 B b bs w) (hlen : bs.length + 1 ≤ 140737488355328) (hBw : B ≤ w.heap.size) :
    Calls Tryd.prog 36 #[.pointer (some ⟨b, 0, none⟩), .int .u8 c] w fun e w' => e = .returned .nilIface ∧ (Lib.BuilderAtF 63 5 B b (.pointer (some ⟨b, 0, none⟩)) (bs ++ [.int .u8 c]) w' ∧ Below B w w' ∧ Lib.OthersKept 5 (some b) w w') := by
  obtain ⟨i0, hi, hz0, hz1, hz2⟩ := info_parts infoByte
  go_enter Tryd.func36, Tryd.ntmps36
  go_wp2_with (go_at_call 49; refine (copyCheck_k B b bs _ h).mono ?_)
  rintro e w1 ⟨rfl, h1, hb1, hk1⟩
  obtain ⟨hB, v, hbk, hown, hne⟩ := h1
  have c0 : w1.cell? ⟨b, 0, none⟩ = some (.pointer (some ⟨b, 0, none⟩)) := by rw [Lib.cell_of_heap hbk]; rfl
  have c1 : w1.cell? ⟨b, 1, none⟩ = some v := by rw [Lib.cell_of_heap hbk]; rfl
  go_wp2_with (at_builtin; refine wpList_append_ownF _ rfl _ _ 42 rfl B 5 i0 (.int .u8 0) 1 1 Tryd.underlying42 hi hz0 hz1 hz2 rfl (by decide) _ _ _ rfl (hown.alloc _) ⟨w1.heap.size, 0, none⟩ 1 1 [.int .u8 c] rfl rfl ?c1 ?c2 ?c3 ?c4 ?c5 ?_)
  case c1 =>
    intro j u hj
    match j, hj with
    | 0, hj => simp at hj; subst hj; simp [Addr.add]
  case c2 => intro u hu; simp at hu; subst hu; rfl
  case c3 => unfold maxLen; omega
  case c4 => omega
  case c5 => have := hb1.size; simp; omega
  intro v' w2 hown' hgrow _
  have hlt : b < w1.heap.size := by
    rcases Nat.lt_or_ge b w1.heap.size with h' | h'
    · exact h'
    · simp [Array.getElem?_eq_none h'] at hbk
  have hb2 : w2.heap[b]? = some (.cells #[.pointer (some ⟨b, 0, none⟩), v] 63 (0, 0)) := by
    rw [hgrow.block b (by simp; omega) (fun e => hne e.symm), Lib.alloc_old w1 _ b hlt]
    exact hbk
  have d0 : w2.cell? ⟨b, 0, none⟩ = some (.pointer (some ⟨b, 0, none⟩)) := by rw [Lib.cell_of_heap hb2]; rfl
  have d1 : w2.cell? ⟨b, 1, none⟩ = some v := by rw [Lib.cell_of_heap hb2]; rfl
  have f1 : w2.frozen? ⟨b, 1, none⟩ = false := Lib.frozen_of_heap hb2 1
  obtain ⟨g, cap, rfl⟩ : ∃ g cap, v' = .slice (some ⟨g, 0, none⟩) (bs.length + 1) cap := by
    rcases hown'.2 with ⟨_, h0⟩ | ⟨g, cap, cur, fz, hv, _⟩
    · omega
    · exact ⟨g, cap, hv⟩
  go_wp2
  go_ret
  refine ⟨rfl, ?_, ?_, ((hk1.alloc _).grown hgrow (Lib.ownsRowF_kind (hown.alloc _))).setCell ⟨b, 1, none⟩ rfl _⟩
  · exact Lib.BuilderAtF.put (T := 63) (e := 5) hB hb2 (bs' := bs ++ [.int .u8 c]) (by simpa using hown') (by decide)
  · exact ((hb1.alloc (by have := hb1.size; omega) _).grown hgrow (by have := hb1.size; simp; omega) (fun k hk => (hown.lt k hk).1)).setCell (p := ⟨b, 1, none⟩) hB _

set_option maxHeartbeats 2000000 in
set_option maxRecDepth 100000 in
theorem WriteString_k (B b : Nat) (bs : List Value) (s : ByteArray) (w : World) (h : Lib.IsBuilderF 63 5 B b bs w) (hlen : bs.length + s.size ≤ 140737488355328) (hBw : B ≤ w.heap.size) :
    Calls Tryd.prog 41 #[.pointer (some ⟨b, 0, none⟩), .string s] w fun e w' => e = .returned (.tuple #[.int .i64 s.size, .nilIface]) ∧ (Lib.BuilderAtF 63 5 B b (.pointer (some ⟨b, 0, none⟩)) (bs ++ Lib.strCells s) w' ∧ Below B w w' ∧ Lib.OthersKept 5 (some b) w w') := by
  obtain ⟨i0, hi, hz0, hz1, hz2⟩ := info_parts infoByte
  go_enter Tryd.func41, Tryd.ntmps41
  go_wp2_with (go_at_call 49; refine (copyCheck_k B b bs _ h).mono ?_)
  rintro e w1 ⟨rfl, h1, hb1, hk1⟩
  obtain ⟨hB, v, hbk, hown, hne⟩ := h1
  have c0 : w1.cell? ⟨b, 0, none⟩ = some (.pointer (some ⟨b, 0, none⟩)) := by rw [Lib.cell_of_heap hbk]; rfl
  have c1 : w1.cell? ⟨b, 1, none⟩ = some v := by rw [Lib.cell_of_heap hbk]; rfl
  go_wp2_with (at_builtin; refine Lib.wpList_append_own_stringF _ rfl _ _ 42 9 rfl B 5 i0 Tryd.underlying42 Tryd.underlying9 hi hz0 hz1 hz2 _ _ _ rfl hown s rfl ?c3 ?c4 ?c5 ?_)
  case c3 => unfold maxLen; omega
  case c4 => omega
  case c5 => have := hb1.size; omega
  intro v' w2 hown' hgrow _
  have hlt : b < w1.heap.size := by
    rcases Nat.lt_or_ge b w1.heap.size with h' | h'
    · exact h'
    · simp [Array.getElem?_eq_none h'] at hbk
  have hb2 : w2.heap[b]? = some (.cells #[.pointer (some ⟨b, 0, none⟩), v] 63 (0, 0)) := by
    rw [hgrow.block b hlt (fun e => hne e.symm)]
    exact hbk
  have d0 : w2.cell? ⟨b, 0, none⟩ = some (.pointer (some ⟨b, 0, none⟩)) := by rw [Lib.cell_of_heap hb2]; rfl
  have d1 : w2.cell? ⟨b, 1, none⟩ = some v := by rw [Lib.cell_of_heap hb2]; rfl
  have f1 : w2.frozen? ⟨b, 1, none⟩ = false := Lib.frozen_of_heap hb2 1
  obtain ⟨ao, n', cap, rfl⟩ : ∃ ao n' cap, v' = .slice ao n' cap := by
    rcases hown'.2 with ⟨hv, _⟩ | ⟨g, cap, cur, fz, hv, _⟩
    · exact ⟨_, _, _, hv⟩
    · exact ⟨_, _, _, hv⟩
  go_wp2
  go_ret2
  refine ⟨rfl, ?_, ?_, (hk1.grown hgrow (Lib.ownsRowF_kind hown)).setCell ⟨b, 1, none⟩ rfl _⟩
  · exact Lib.BuilderAtF.put (T := 63) (e := 5) hB hb2 (bs' := bs ++ Lib.strCells s) (by simpa [Lib.strCells_length] using hown') (by decide)
  · exact (hb1.grown hgrow (by have := hb1.size; omega) (fun k hk => (hown.lt k hk).1)).setCell (p := ⟨b, 1, none⟩) hB _

theorem _root_.Go.Lib.BuilderAtF.belowA {T e : TypeId} {B b : Nat} {p : Value} {bs : List Value} {w w1 : World} (h : Lib.BuilderAtF T e B b p bs w) (hb : Below w.heap.size w w1) : Lib.BuilderAtF T e B b p bs w1 := by
  have hlt := h.lt
  obtain ⟨hB, v, hbk, hown, hne⟩ := h
  exact ⟨hB, v, (hb.block b hlt).trans hbk, hown.kept (row := none) ⟨hb.os, hb.tape, hb.output, hb.size, fun i hi _ => hb.block i hi⟩ (by cases v.ownBlock <;> simp), hne⟩
/-! the builder told by numbers -/
def isU8 (xs : List Int) : Prop := ∀ x ∈ xs, 0 ≤ x ∧ x ≤ 255
def Bld (B b : Nat) (xs : List Int) (w : World) : Prop := isU8 xs ∧ Lib.IsBuilderF 63 5 B b (nums .u8 xs) w
theorem isU8_snoc {xs : List Int} {c : Int} (h : isU8 xs) (h0 : 0 ≤ c) (h1 : c ≤ 255) : isU8 (xs ++ [c]) := by
  intro x hx
  rcases List.mem_append.1 hx with hx | hx
  · exact h x hx
  · simp at hx; subst hx; exact ⟨h0, h1⟩
theorem isU8_bytesOf (s : ByteArray) : isU8 (bytesOf s) := by
  intro x hx
  simp only [bytesOf, List.mem_map] at hx
  obtain ⟨b, _, rfl⟩ := hx
  have := b.toNat_lt
  omega
theorem isU8_append {xs ys : List Int} (h : isU8 xs) (h' : isU8 ys) : isU8 (xs ++ ys) := by
  intro x hx
  rcases List.mem_append.1 hx with hx | hx
  · exact h x hx
  · exact h' x hx
theorem nums_byteCells {xs : List Int} (h : isU8 xs) : nums .u8 xs = Lib.byteCells (xs.map fun x => UInt8.ofNat x.toNat) := by
  unfold nums Lib.byteCells
  rw [List.map_map]
  apply List.map_congr_left
  intro x hx
  have := h x hx
  simp only [Function.comp]
  congr 1
  have : x.toNat < 256 := by omega
  simp [Nat.mod_eq_of_lt this]
  omega
theorem nums_strCells (s : ByteArray) : Lib.strCells s = nums .u8 (bytesOf s) := by
  simp [Lib.strCells, nums, bytesOf, List.map_map, Function.comp]
theorem Bld.new (w : World) (B : Nat) (hB : B ≤ w.heap.size) : Bld B w.heap.size [] (w.alloc (.cells #[.pointer none, .slice none 0 0] 63)) :=
  ⟨(fun x hx => by cases hx), Or.inl ⟨hB, .slice none 0 0, heap_alloc_new w _, World.ownsRowF_nil _ _ _ _, by simp [Value.ownBlock]⟩⟩
theorem Bld.drew {B b : Nat} {xs : List Int} {w : World} (h : Bld B b xs w) : Bld B b xs w.drew := ⟨h.1, h.2.imp Lib.BuilderAtF.drew Lib.BuilderAtF.drew⟩
theorem Bld.drewN {B b : Nat} {xs : List Int} {w : World} (h : Bld B b xs w) (n : Nat) : Bld B b xs (w.drewN n) := h
theorem Bld.byte {B b : Nat} {xs : List Int} {w : World} (h : Bld B b xs w) (c : Int) (h0 : 0 ≤ c) (h1 : c ≤ 255) (hlen : xs.length + 1 ≤ 140737488355328) (hBw : B ≤ w.heap.size) :
    Calls Tryd.prog 36 #[.pointer (some ⟨b, 0, none⟩), .int .u8 c] w fun e w' => e = .returned .nilIface ∧ Bld B b (xs ++ [c]) w' ∧ Below B w w' ∧ Lib.OthersKept 5 (some b) w w' := by
  refine (WriteByte_k B b _ c w h.2 (by simpa [nums] using hlen) hBw).mono ?_
  rintro e w' ⟨rfl, h2, h3, h4⟩
  exact ⟨rfl, ⟨isU8_snoc h.1 h0 h1, Or.inr (by rw [nums_append]; exact h2)⟩, h3, h4⟩
theorem Bld.str {B b : Nat} {xs : List Int} {w : World} (h : Bld B b xs w) (s : ByteArray) (hlen : xs.length + s.size ≤ 140737488355328) (hBw : B ≤ w.heap.size) :
    Calls Tryd.prog 41 #[.pointer (some ⟨b, 0, none⟩), .string s] w fun e w' => e = .returned (.tuple #[.int .i64 s.size, .nilIface]) ∧ Bld B b (xs ++ bytesOf s) w' ∧ Below B w w' ∧ Lib.OthersKept 5 (some b) w w' := by
  refine (WriteString_k B b _ s w h.2 (by simpa [nums] using hlen) hBw).mono ?_
  rintro e w' ⟨rfl, h2, h3, h4⟩
  exact ⟨rfl, ⟨isU8_append h.1 (isU8_bytesOf s), Or.inr (by rw [nums_append, ← nums_strCells]; exact h2)⟩, h3, h4⟩
theorem Bld.string {B b : Nat} {xs : List Int} {w : World} (h : Bld B b xs w) (hBw : B ≤ w.heap.size) :
    Calls Tryd.prog 34 #[.pointer (some ⟨b, 0, none⟩)] w fun e w' => e = .returned (.string (strOfNums xs)) ∧ Bld B b xs w' ∧ Below B w w' ∧ Lib.OthersKept 5 (some b) w w' := by
  have h2 := h.2
  rw [nums_byteCells h.1] at h2
  refine (Tryd.Builder_String_any_k B b _ w h2 hBw).mono ?_
  rintro e w' ⟨rfl, h3, h4, h5⟩
  exact ⟨rfl, ⟨h.1, by rw [nums_byteCells h.1]; exact h3⟩, h4, h5⟩

theorem plainElem_val {P : Program} {e : TypeId} {v : Value} {d : DataW Unit} {ps : List MemPlace} (h : plainElem P e v = some (d, ps)) : ∃ l : Lit, d = .lit l ∧ v = l.value ∧ ps = [] := by
  unfold plainElem at h
  split at h
  · cases h; exact ⟨_, rfl, rfl, rfl⟩
  · split at h
    · rename_i hq
      cases h; exact ⟨_, rfl, by rw [hq.1]; rfl, rfl⟩
    · cases h
  · split at h
    · cases h; exact ⟨_, rfl, by simp [Lit.value], rfl⟩
    · cases h
  · cases h

/-- Block b is a map of at most n entries; what stands at each key. -/
def MapIs {κ : Type} (kl : κ → Lit) (w : World) (P : Program) (K E : TypeId) (b n : Nat) (F : κ → Option Lit) : Prop :=
  ∃ D : DataW Unit, Maps.IsMap D ∧ w.ownsMap P K (plainElem P E) b n D ∧ ∀ k, (∀ x, F k = some x → Maps.has D (kl k) = true ∧ ∀ z, D.atKey (kl k) z = .lit x) ∧ (F k = none → Maps.has D (kl k) = false)

section
variable {κ : Type} {kl : κ → Lit} {w w' : World} {P : Program} {K E : TypeId} {b n : Nat} {F : κ → Option Lit}
theorem MapIs.made (w : World) (P : Program) (K E : TypeId) : MapIs kl (w.alloc (.map #[] 0)) P K E w.heap.size 0 (fun _ => none) :=
  ⟨.map [], Maps.isMap_empty, World.ownsMap_made w P K _, fun k => ⟨(fun x h => by cases h), fun _ => rfl⟩⟩
theorem MapIs.kept {row : Option Nat} (h : MapIs kl w P K E b n F) (hg : w.grownBy w' row) (hne : some b ≠ row) : MapIs kl w' P K E b n F := by
  obtain ⟨D, h1, h2, h3⟩ := h
  exact ⟨D, h1, h2.kept hg hne, h3⟩
theorem MapIs.lt (h : MapIs kl w P K E b n F) : b < w.heap.size := by
  obtain ⟨D, h1, h2, h3⟩ := h
  exact h2.lt
theorem MapIs.alloc (h : MapIs kl w P K E b n F) (o : Obj) : MapIs kl (w.alloc o) P K E b n F := by
  obtain ⟨D, h1, h2, h3⟩ := h
  exact ⟨D, h1, h2.alloc o, h3⟩
theorem MapIs.drew (h : MapIs kl w P K E b n F) : MapIs kl w.drew P K E b n F := h
theorem MapIs.drewN (h : MapIs kl w P K E b n F) (m : Nat) : MapIs kl (w.drewN m) P K E b n F := h
theorem MapIs.mono {n' : Nat} (h : MapIs kl w P K E b n F) (hn : n ≤ n') : MapIs kl w P K E b n' F := by
  obtain ⟨D, h1, h2, h3⟩ := h
  exact ⟨D, h1, h2.mono hn, h3⟩
theorem MapIs.same (h : MapIs kl w P K E b n F) (hb : w'.heap[b]? = w.heap[b]?) : MapIs kl w' P K E b n F := by
  obtain ⟨D, h1, ⟨es, clock, e1, e2⟩, h3⟩ := h
  exact ⟨D, h1, ⟨es, clock, hb.trans e1, e2⟩, h3⟩
theorem MapIs.put [DecidableEq κ] {t : TypeId} (h : MapIs kl w P K E b n F) (hk : ∀ a, WideAt.IsKeyLit (kl a)) (hinj : ∀ a c, kl a = kl c → a = c) (hK : Go.Maps.Keyed P K) (ht : P.underlying t = some (.map K E)) (hn : n < maxLen) {key val : Value} (k : κ) (x : Lit)
    (hkey : keyOf P K key = some (kl k)) (hv : plainElem (H := Unit) P E val = some (.lit x, [])) :
    ∃ w', (Instr.mapUpdate t (.map (some b)) key val).run P w = .ok () w' ∧ MapIs kl w' P K E b (n + 1) (fun k' => if k' = k then some x else F k') ∧ w.grownBy w' (some b) := by
  obtain ⟨D, h1, h2, h3⟩ := h
  obtain ⟨w', e1, e2, e3⟩ := h2.update hK ht hn hkey hv
  refine ⟨w', e1, ⟨_, h1.put _ _, e2, fun k' => ?_⟩, e3⟩
  by_cases hkk : k' = k
  · subst hkk
    simp only [if_true]
    refine ⟨fun y hy => ?_, fun hy => by cases hy⟩
    cases hy
    exact ⟨Maps.has_put_same h1 (hk _) _, fun z => Maps.atKey_put_same h1 (hk _) _ _⟩
  · have hne : kl k' ≠ kl k := fun e => hkk (hinj _ _ e)
    simp only [if_neg hkk]
    refine ⟨fun y hy => ?_, fun hy => ?_⟩
    · rw [Maps.has_put_other hne]
      exact ⟨((h3 k').1 y hy).1, fun z => by rw [Maps.atKey_put_other hne]; exact ((h3 k').1 y hy).2 z⟩
    · rw [Maps.has_put_other hne]
      exact (h3 k').2 hy
end
section
variable {κ : Type} {kl : κ → Lit} (w : World) {P : Program} {K E : TypeId} {b n : Nat} {F : κ → Option Lit} {ops : Array Oper} {rest : List Oper} {o : Oper} {a : Act} {Q : Exit → Act → World → Prop}
theorem wpList_look_ok (hg : o.guard = none) (m x : Operand) (t : TypeId) (hop : o.op = Op.lookup t m x true) (hK : Go.Maps.Keyed P K) (ht : P.underlying t = some (.map K E))
    (zl : Lit) (hz : (zeroValue E).run P w = .ok zl.value w) (hzd : plainElem (H := Unit) P E zl.value = some (.lit zl, []))
    (hm : a.eval m = .map (some b)) (h : MapIs kl w P K E b n F) (key : Value) (k : κ) (hx : a.eval x = key) (hkey : keyOf P K key = some (kl k))
    (hKK : wpList P ops Q rest (a.put o.dst (.tuple #[((F k).getD zl).value, .bool (F k).isSome])) w) :
    wpList P ops Q (o :: rest) a w := by
  obtain ⟨D, h1, h2, h3⟩ := h
  refine wpList_lookup_own_ok w hg m x t hop K E hK ht (plainElem P E) hz (.lit zl) [] hzd b n D hm h2 key (kl k) hx hkey (fun v ps hv => ?_)
  obtain ⟨l, e1, rfl, _⟩ := plainElem_val hv
  cases hF : F k with
  | none =>
    have h4 := (h3 k).2 hF
    rw [Maps.atKey_of_not_has h4] at e1
    cases e1
    rw [h4]
    rw [hF] at hKK
    exact hKK
  | some y =>
    obtain ⟨h4, h5⟩ := (h3 k).1 y hF
    rw [h5] at e1
    cases e1
    rw [h4]
    rw [hF] at hKK
    exact hKK
theorem wpList_look (hg : o.guard = none) (m x : Operand) (t : TypeId) (hop : o.op = Op.lookup t m x false) (hK : Go.Maps.Keyed P K) (ht : P.underlying t = some (.map K E))
    (zl : Lit) (hz : (zeroValue E).run P w = .ok zl.value w) (hzd : plainElem (H := Unit) P E zl.value = some (.lit zl, []))
    (hm : a.eval m = .map (some b)) (h : MapIs kl w P K E b n F) (key : Value) (k : κ) (hx : a.eval x = key) (hkey : keyOf P K key = some (kl k))
    (hKK : wpList P ops Q rest (a.put o.dst ((F k).getD zl).value) w) :
    wpList P ops Q (o :: rest) a w := by
  obtain ⟨D, h1, h2, h3⟩ := h
  refine wpList_plain hg fun K' hK' => ?_
  obtain ⟨v, ps, hrun, hv⟩ := h2.lookup hK ht hz hzd hkey
  obtain ⟨l, e1, rfl, _⟩ := plainElem_val hv
  unfold Oper.wp
  simp only [execOp, hop, hm, hx, hrun, Result.andThen, Sem.run_bind, Sem.run_pure]
  refine hK' _ _ ?_
  cases hF : F k with
  | none =>
    have h4 := (h3 k).2 hF
    rw [Maps.atKey_of_not_has h4] at e1
    cases e1
    rw [hF] at hKK
    exact hKK
  | some y =>
    obtain ⟨h4, h5⟩ := (h3 k).1 y hF
    rw [h5] at e1
    cases e1
    rw [hF] at hKK
    exact hKK
theorem wpList_mput [DecidableEq κ] (hg : o.guard = none) (m x v : Operand) (t : TypeId) (hop : o.op = Op.mapUpdate t m x v) (hk : ∀ a, WideAt.IsKeyLit (kl a)) (hinj : ∀ a c, kl a = kl c → a = c) (hK : Go.Maps.Keyed P K) (ht : P.underlying t = some (.map K E))
    (hm : a.eval m = .map (some b)) (h : MapIs kl w P K E b n F) (hn : n < maxLen) (key val : Value) (k : κ) (xl : Lit) (hx : a.eval x = key) (hv : a.eval v = val) (hkey : keyOf P K key = some (kl k)) (hval : plainElem (H := Unit) P E val = some (.lit xl, []))
    (hKK : ∀ w', MapIs kl w' P K E b (n + 1) (fun k' => if k' = k then some xl else F k') → w.grownBy w' (some b) → wpList P ops Q rest (a.put o.dst undef) w') :
    wpList P ops Q (o :: rest) a w := by
  refine wpList_plain hg fun K' hK' => ?_
  obtain ⟨w', hrun, r1, r2⟩ := h.put hk hinj hK ht hn k xl hkey hval
  unfold Oper.wp
  simp [execOp, hop, hm, hx, hv, hrun, Result.andThen]
  exact hK' _ _ (hKK w' r1 r2)
end
def klU8 (c : Int) : Lit := .int .u8 c
def klStr (s : ByteArray) : Lit := .string s.data.toList
theorem klU8_inj : ∀ a c, klU8 a = klU8 c → a = c := fun a c h => by injection h
theorem klStr_inj : ∀ a c, klStr a = klStr c → a = c := fun a c h => by
  injection h with h
  exact ByteArray.ext (Array.ext' h)
theorem u8_plain {P : Program} {e : TypeId} (he : P.underlying e = some (.int .u8)) (c : Int) (h0 : 0 ≤ c) (h1 : c ≤ 255) : plainElem (H := Unit) P e (.int .u8 c) = some (.lit (.int .u8 c), []) :=
  plainElem_int he (by have e1 : IntKind.u8.min = 0 := rfl; have e2 : IntKind.u8.max = 255 := rfl; simp only [Lit.wf, Bool.and_eq_true, decide_eq_true_eq, e1, e2]; omega)
theorem u8_key {P : Program} {e : TypeId} (he : P.underlying e = some (.int .u8)) (c : Int) (h0 : 0 ≤ c) (h1 : c ≤ 255) : keyOf P e (.int .u8 c) = some (klU8 c) :=
  Maps.keyOf_int_mk he (by have e1 : IntKind.u8.min = 0 := rfl; have e2 : IntKind.u8.max = 255 := rfl; simp only [Lit.wf, Bool.and_eq_true, decide_eq_true_eq, e1, e2]; omega)

def markI (c : Int) : Option Int := if c = 116 then some 9 else if c = 110 then some 10 else if c = 92 then some 92 else if c = 34 then some 34 else none
def markF (c : Int) : Option Lit := (markI c).map (.int .u8)
def hexI (c : Int) : Int := if 48 ≤ c ∧ c ≤ 57 then c - 48 else if 97 ≤ c ∧ c ≤ 102 then c - 87 else -1
theorem hexI_u8 : ∀ u : UInt8, Lib.indexByte [48, 49, 50, 51, 52, 53, 54, 55, 56, 57, 97, 98, 99, 100, 101, 102] u = hexI u.toNat := by
  intro u
  have h : ∀ n : Fin 256, Lib.indexByte [48, 49, 50, 51, 52, 53, 54, 55, 56, 57, 97, 98, 99, 100, 101, 102] (UInt8.ofNat n.val) = hexI (n.val : Int) := by decide +kernel
  have := h ⟨u.toNat, u.toNat_lt⟩
  simpa using this
theorem or16 (P R : Int) (h0 : 0 ≤ P) (h1 : P ≤ 15) (h2 : 0 ≤ R) (h3 : R ≤ 15) : bits BinOp.or IntKind.i64 (P * 16) R % 256 = P * 16 + R := by
  have h : ∀ a b : Fin 16, bits BinOp.or IntKind.i64 ((a.val : Int) * 16) (b.val : Int) % 256 = (a.val : Int) * 16 + (b.val : Int) := by decide +kernel
  have := h ⟨P.toNat, by omega⟩ ⟨R.toNat, by omega⟩
  rw [show ((P.toNat : Nat) : Int) = P by omega, show ((R.toNat : Nat) : Int) = R by omega] at this
  exact this
theorem hexI_range (c : Int) : -1 ≤ hexI c ∧ hexI c ≤ 15 := by
  unfold hexI
  (repeat' split) <;> omega
/-- A quoted word off a list of bytes: what it tells, and what stands behind it. -/
def quotedL (acc : List Int) (s : List Int) : Option (List Int × List Int) :=
  match s with
  | [] => none
  | c :: s =>
    if c = 34 then some (acc, s)
    else if c = 92 then
      match s with
      | [] => none
      | e :: s =>
        if e = 120 then
          match s with
          | h :: l :: s => if hexI h < 0 ∨ hexI l < 0 then none else quotedL (acc ++ [hexI h * 16 + hexI l]) s
          | _ => none
        else match markI e with
          | none => none
          | some t => quotedL (acc ++ [t]) s
    else if c < 32 ∨ c > 126 then none
    else quotedL (acc ++ [c]) s
theorem quotedL_nil (acc : List Int) : quotedL acc [] = none := by rw [quotedL.eq_def]
theorem quotedL_end (acc s : List Int) {c : Int} (h : c = 34) : quotedL acc (c :: s) = some (acc, s) := by rw [quotedL.eq_def]; simp only; rw [if_pos h]
theorem quotedL_plain (acc s : List Int) {c : Int} (h : c ≠ 34) (h1 : c ≠ 92) (h2 : ¬ (c < 32 ∨ c > 126)) : quotedL acc (c :: s) = quotedL (acc ++ [c]) s := by rw [quotedL.eq_def]; simp only; rw [if_neg h, if_neg h1, if_neg h2]
theorem quotedL_bad (acc s : List Int) {c : Int} (h : c ≠ 34) (h1 : c ≠ 92) (h2 : c < 32 ∨ c > 126) : quotedL acc (c :: s) = none := by rw [quotedL.eq_def]; simp only; rw [if_neg h, if_neg h1, if_pos h2]
theorem quotedL_cut (acc : List Int) {c : Int} (h : c = 92) : quotedL acc [c] = none := by rw [quotedL.eq_def]; simp only; rw [if_neg (by omega), if_pos h]
theorem quotedL_mark (acc s : List Int) {c e : Int} (h : c = 92) (h1 : e ≠ 120) : quotedL acc (c :: e :: s) = match markI e with | none => none | some t => quotedL (acc ++ [t]) s := by rw [quotedL.eq_def]; simp only; rw [if_neg (by omega), if_pos h, if_neg h1]
theorem quotedL_x0 (acc s : List Int) {c e : Int} (h : c = 92) (h1 : e = 120) (h2 : s.length < 2) : quotedL acc (c :: e :: s) = none := by
  rw [quotedL.eq_def]; simp only; rw [if_neg (by omega), if_pos h, if_pos h1]
  match s, h2 with
  | [], _ => rfl
  | [_], _ => rfl
theorem quotedL_x1 (acc s : List Int) {c e a b : Int} (h : c = 92) (h1 : e = 120) (h2 : hexI a < 0 ∨ hexI b < 0) : quotedL acc (c :: e :: a :: b :: s) = none := by rw [quotedL.eq_def]; simp only; rw [if_neg (by omega), if_pos h, if_pos h1, if_pos h2]
theorem quotedL_x (acc s : List Int) {c e a b : Int} (h : c = 92) (h1 : e = 120) (h2 : ¬ (hexI a < 0 ∨ hexI b < 0)) : quotedL acc (c :: e :: a :: b :: s) = quotedL (acc ++ [hexI a * 16 + hexI b]) s := by rw [quotedL.eq_def]; simp only; rw [if_neg (by omega), if_pos h, if_pos h1, if_neg h2]
def quotedR : Option (List Int × List Int) → ByteArray × ByteArray × Bool
  | none => (⟨#[]⟩, ⟨#[]⟩, false)
  | some p => (strOfNums p.1, strOfNums p.2, true)

/-! ### words_quoted: function 20 -/
set_option maxHeartbeats 1000000 in
theorem marks_calls (w : World) : Calls Tryd.prog 33 #[] w fun e w' => e = .returned (.map (some w.heap.size)) ∧ MapIs klU8 w' Tryd.prog 5 5 w.heap.size 4 markF ∧ Below w.heap.size w w' := by
  have hmm := @run_makeMap Tryd.prog
  have h0 : MapIs klU8 (w.alloc (.map #[] 0)) Tryd.prog 5 5 w.heap.size 0 (fun _ => none) := MapIs.made w Tryd.prog 5 5
  have hb0 : Below w.heap.size w (w.alloc (.map #[] 0)) := (Below.refl _ _).alloc (Nat.le_refl _) _
  have hk : ∀ a, WideAt.IsKeyLit (klU8 a) := fun a => trivial
  have hK : Go.Maps.Keyed Tryd.prog 5 := Maps.int_keyed Tryd.underlying5
  obtain ⟨w1, r1, m1, g1⟩ := h0.put (t := 64) hk klU8_inj hK Tryd.underlying64 (by decide) 34 (.int .u8 34) (u8_key Tryd.underlying5 34 (by decide) (by decide)) (u8_plain Tryd.underlying5 34 (by decide) (by decide))
  obtain ⟨w2, r2, m2, g2⟩ := m1.put (t := 64) hk klU8_inj hK Tryd.underlying64 (by decide) 92 (.int .u8 92) (u8_key Tryd.underlying5 92 (by decide) (by decide)) (u8_plain Tryd.underlying5 92 (by decide) (by decide))
  obtain ⟨w3, r3, m3, g3⟩ := m2.put (t := 64) hk klU8_inj hK Tryd.underlying64 (by decide) 110 (.int .u8 10) (u8_key Tryd.underlying5 110 (by decide) (by decide)) (u8_plain Tryd.underlying5 10 (by decide) (by decide))
  obtain ⟨w4, r4, m4, g4⟩ := m3.put (t := 64) hk klU8_inj hK Tryd.underlying64 (by decide) 116 (.int .u8 9) (u8_key Tryd.underlying5 116 (by decide) (by decide)) (u8_plain Tryd.underlying5 9 (by decide) (by decide))
  have hb : Below w.heap.size w w4 := (((hb0.grown g1 hb0.size (fun k e => by cases e; exact Nat.le_refl _)).grown g2 (hb0.grown g1 hb0.size (fun k e => by cases e; exact Nat.le_refl _)).size (fun k e => by cases e; exact Nat.le_refl _)).grown g3 (Nat.le_trans (Nat.le_trans hb0.size g1.size) g2.size) (fun k e => by cases e; exact Nat.le_refl _)).grown g4 (Nat.le_trans (Nat.le_trans (Nat.le_trans hb0.size g1.size) g2.size) g3.size) (fun k e => by cases e; exact Nat.le_refl _)
  have hm : MapIs klU8 w4 Tryd.prog 5 5 w.heap.size 4 markF := by
    have e : (fun k' : Int => if k' = 116 then some (Lit.int .u8 9) else if k' = 110 then some (Lit.int .u8 10) else if k' = 92 then some (Lit.int .u8 92) else if k' = 34 then some (Lit.int .u8 34) else none) = markF := by
      funext c
      unfold markF markI
      (repeat' split) <;> rfl
    rw [← e]
    exact m4
  clear h0 hb0 m1 m2 m3 m4 g1 g2 g3 g4
  go_enter Tryd.func33, Tryd.ntmps33
  go_wp2
  go_ret
  exact ⟨rfl, hm, hb⟩
theorem hexP_calls (p P : Int) (h0 : 0 ≤ p) (h1 : p ≤ 255) (hP : hexI p = P) (w : World) :
    Calls Tryd.prog 35 #[.string ⟨#[48, 49, 50, 51, 52, 53, 54, 55, 56, 57, 97, 98, 99, 100, 101, 102]⟩, .int .u8 p] w fun e w' => e = .returned (.int .i64 P) ∧ w' = w := by
  have h := Tryd.strings_IndexByte ⟨#[48, 49, 50, 51, 52, 53, 54, 55, 56, 57, 97, 98, 99, 100, 101, 102]⟩ p w
  have e : Lib.indexByte (⟨#[48, 49, 50, 51, 52, 53, 54, 55, 56, 57, 97, 98, 99, 100, 101, 102]⟩ : ByteArray).data.toList p.toNat.toUInt8 = P := by
    have h2 := hexI_u8 p.toNat.toUInt8
    rw [show ((p.toNat.toUInt8.toNat : Nat) : Int) = p by simp; omega] at h2
    rw [← hP, ← h2]
  rw [e] at h
  exact h
def words_quoted.f (a0 : ByteArray) : Option (ByteArray × ByteArray × Bool) := if a0.size ≤ 140737488351232 then some (quotedR (quotedL [] (bytesOf a0))) else none
def words_quoted.Post (w : World) (q : Option (List Int × List Int)) (e : Ending) (w' : World) : Prop := e = .returned (.tuple #[.string (quotedR q).1, .string (quotedR q).2.1, .bool (quotedR q).2.2]) ∧ Below w.heap.size w w'
theorem MapIs.others {κ : Type} {kl : κ → Lit} {w w' : World} {P : Program} {K E : TypeId} {b n : Nat} {F : κ → Option Lit} {e : TypeId} {bb : Nat} (h : MapIs kl w P K E b n F) (hk : Lib.OthersKept e (some bb) w w') (hne : b ≠ bb) : MapIs kl w' P K E b n F := by
  obtain ⟨D, h1, ⟨es, clock, e1, e2⟩, h3⟩ := h
  exact ⟨D, h1, ⟨es, clock, hk b _ e1 (fun e => hne (by cases e; rfl)) (fun c fz e => by cases e), e2⟩, h3⟩
set_option maxHeartbeats 8000000 in
set_option maxRecDepth 100000 in
theorem words_quoted.walk (s : ByteArray) (w : World) (hs : s.size ≤ 140737488351232) :
    Calls Tryd.prog 20 #[.string s] w fun e w' => words_quoted.Post w (quotedL [] (bytesOf s)) e w' := by
  generalize hq : quotedL [] (bytesOf s) = q
  have HQ := Aside0.mk hq
  clear hq
  go_enter Tryd.func20, Tryd.ntmps20
  go_wp2_with (go_at_call 33; refine (marks_calls _).mono ?_; rintro e w1 ⟨rfl, hm1, hb1⟩)
  have HB1 := Aside0.mk (show Bld w.heap.size w.heap.size [] w1 from ⟨(fun x hx => by cases hx), (Bld.new w _ (Nat.le_refl _)).2.imp (fun h => Lib.BuilderAtF.belowA h hb1) (fun h => Lib.BuilderAtF.belowA h hb1)⟩)
  have hm2 : MapIs klU8 w1 Tryd.prog 5 5 (w.heap.size + 1) 4 markF := by simpa using hm1
  have HM1 := Aside0.mk hm2
  clear hm2
  have HW1 := Aside0.mk (((Below.refl w.heap.size w).alloc (Nat.le_refl _) _).trans (hb1.mono (by simp)))
  clear hm1 hb1
  go_loopg [0] s.size (fun m v0 wr => ∃ (s' : ByteArray) (xs : List Int), v0 = .string s' ∧ Aside0 (quotedL xs (bytesOf s') = q) ∧ Aside0 (s'.size ≤ m) ∧ Aside0 (xs.length + s'.size ≤ s.size) ∧ Aside0 (Bld w.heap.size w.heap.size xs wr) ∧ Aside0 (MapIs klU8 wr Tryd.prog 5 5 (w.heap.size + 1) 4 markF) ∧ Aside0 (Below w.heap.size w wr))
  case atStart => exact ⟨s, [], rfl, HQ, ⟨Nat.le_refl _⟩, ⟨by simp⟩, HB1, HM1, HW1⟩
  case round =>
    clear HQ HM1 HW1
    obtain ⟨s', xs, rfl, HA, HM, HX, HB, HT, HW⟩ := hrel
    have hs' : s'.size ≤ 140737488351232 := by have := HX.out; omega
    by_cases h0 : s'.size = 0
    · have e0 : s'.toList.isEmpty = true := toList_empty h0
      have h1 := HA.out
      rw [bytesOf_empty h0, quotedL_nil] at h1
      go_wp2
      go_ret3
      exact ⟨by rw [← h1]; rfl, HW.out⟩
    have hp : 0 < s'.size := by omega
    have e0 : (!s'.toList.isEmpty) = true := toList_nonempty hp
    have HC := Aside0.mk (bytesOf_cons hp)
    obtain ⟨t, ht⟩ : ∃ t, t = s'.extract 1 s'.size := ⟨_, rfl⟩
    have htb : bytesOf t = (bytesOf s').drop 1 := by rw [ht, bytesOf_tail]
    have hts : t.size + 1 = s'.size := by rw [ht, ByteArray.size_extract]; omega
    obtain ⟨c, hc⟩ : ∃ c : Int, (s'[0].toNat : Int) = c := ⟨_, rfl⟩
    have hA := HA.out
    rw [HC.out, ← htb, hc] at hA
    have HA' := Aside0.mk hA
    have HTs := Aside0.mk hts
    have hclo : 0 ≤ c := by rw [← hc]; exact u8_lo _
    have hchi : c ≤ 255 := by rw [← hc]; exact u8_hi _
    replace ht := ht.symm
    have htl : t.size ≤ 140737488351232 := by omega
    clear hA HC HA h0 htb hts
    have hBw : w.heap.size ≤ wr.heap.size := HW.out.size
    have hx : xs.length + 1 ≤ 140737488355328 := by have := HX.out; omega
    by_cases c1 : c = 34
    · subst c1
      have h1 := HA'.out
      rw [quotedL_end _ _ rfl] at h1
      have H1 := Aside0.mk h1
      clear h1
      go_wp2_with (go_at_call 34; refine (Bld.string HB.out hBw).mono ?_; rintro e w1 ⟨rfl, hb1, hb2, hb3⟩)
      go_ret3
      exact ⟨by rw [← H1.out]; show _ = Ending.returned (.tuple #[.string (strOfNums xs), .string (strOfNums (bytesOf t)), .bool true]); rw [strOfNums_bytesOf]; rfl, HW.out.trans hb2⟩
    have c1b : (c == 34) = false := beq_eq_false_iff_ne.2 c1
    by_cases c2 : c = 92
    case neg =>
      have c2b : (c == 92) = false := beq_eq_false_iff_ne.2 c2
      by_cases c3 : c < 32 ∨ c > 126
      · have h1 := HA'.out
        rw [quotedL_bad _ _ c1 c2 c3] at h1
        clear c1 c2
        go_wp2
        all_goals (first | omega | (go_ret3; exact ⟨by rw [← h1]; rfl, HW.out⟩))
      · have h1 := HA'.out
        rw [quotedL_plain _ _ c1 c2 c3] at h1
        have H1 := Aside0.mk h1
        clear h1 c1 c2
        go_wp2_with (go_at_call 36; refine (Bld.byte HB.out c hclo hchi hx hBw).mono ?_; rintro e w1 ⟨rfl, hb1, hb2, hb3⟩)
        all_goals first | omega | skip
        go_roundg (gk - 1)
        case measure => have := HM.out; have := HTs.out; omega
        case rel => exact ⟨t, _, rfl, H1, ⟨by have := HM.out; have := HTs.out; omega⟩, ⟨by have := HX.out; have := HTs.out; simp; omega⟩, ⟨hb1⟩, ⟨HT.out.others hb3 (by omega)⟩, ⟨HW.out.trans hb2⟩⟩
    subst c2
    by_cases t0 : t.size = 0
    · have e1 : t.toList.isEmpty = true := toList_empty t0
      have h1 := HA'.out
      rw [bytesOf_empty t0, quotedL_cut _ rfl] at h1
      go_wp2
      go_ret3
      exact ⟨by rw [← h1]; rfl, HW.out⟩
    have tp : 0 < t.size := by omega
    have e1 : t.toList.isEmpty = false := toList_nonempty' tp
    have HC := Aside0.mk (bytesOf_cons tp)
    obtain ⟨u, hu⟩ : ∃ u, u = t.extract 1 t.size := ⟨_, rfl⟩
    have hub : bytesOf u = (bytesOf t).drop 1 := by rw [hu, bytesOf_tail]
    have hus : u.size + 1 = t.size := by rw [hu, ByteArray.size_extract]; omega
    obtain ⟨d, hd⟩ : ∃ d : Int, (t[0].toNat : Int) = d := ⟨_, rfl⟩
    have hA := HA'.out
    rw [HC.out, ← hub, hd] at hA
    have HA2 := Aside0.mk hA
    have HUs := Aside0.mk hus
    have hdlo : 0 ≤ d := by rw [← hd]; exact u8_lo _
    have hdhi : d ≤ 255 := by rw [← hd]; exact u8_hi _
    replace hu := hu.symm
    have hul : u.size ≤ 140737488351232 := by omega
    clear hA HC HA' hub hus t0 c1
    by_cases d1 : d = 120
    case neg =>
      have d1b : (d == 120) = false := beq_eq_false_iff_ne.2 d1
      have h1 := HA2.out
      rw [quotedL_mark _ _ rfl d1] at h1
      cases hmk : markI d with
      | none =>
        rw [hmk] at h1
        have H1 := Aside0.mk h1
        have hmf : markF d = none := by simp [markF, hmk]
        clear h1 hmk d1
        go_wp2_with fail
        go_quiet ((fail))
        have HW2 := Aside0.mk (pw_below_drewN HW.out nq)
        go_wp2_with (at_lookup; refine wpList_look_ok _ rfl _ _ 64 rfl (Go.Maps.int_keyed Tryd.underlying5) Tryd.underlying64 (.int .u8 0) (Tryd.zeroValue5 _) (u8_plain Tryd.underlying5 0 (by decide) (by decide)) rfl HT.out _ d rfl (u8_key Tryd.underlying5 d hdlo hdhi) ?_)
        go_ret3
        exact ⟨by rw [← H1.out]; rfl, HW2.out⟩
      | some tt =>
        rw [hmk] at h1
        have H1 := Aside0.mk h1
        have hmf : markF d = some (.int .u8 tt) := by simp [markF, hmk]
        have htt : 0 ≤ tt ∧ tt ≤ 255 := by
          revert hmk
          unfold markI
          (repeat' split) <;> (intro h; first | (cases h; omega) | cases h)
        obtain ⟨ht0, ht1⟩ := htt
        have hv : (Lit.int .u8 tt).value = .int .u8 tt := rfl
        clear h1 hmk d1
        go_wp2_with fail
        go_quiet ((fail))
        have HW2 := Aside0.mk (pw_below_drewN HW.out nq)
        have HB2 := Aside0.mk (HB.out.drewN nq)
        have HT2 := Aside0.mk (HT.out.drewN nq)
        clear HB HT HW
        generalize wr.drewN nq = W2 at *
        go_wp2_with (first
          | (at_lookup; refine wpList_look_ok _ rfl _ _ 64 rfl (Go.Maps.int_keyed Tryd.underlying5) Tryd.underlying64 (.int .u8 0) (Tryd.zeroValue5 _) (u8_plain Tryd.underlying5 0 (by decide) (by decide)) rfl HT2.out _ d rfl (u8_key Tryd.underlying5 d hdlo hdhi) ?_)
          | (go_at_call 36; refine (Bld.byte HB2.out tt ht0 ht1 hx HW2.out.size).mono ?_; rintro e w1 ⟨rfl, hb1, hb2, hb3⟩))
        go_roundg (gk - 2)
        case measure => have := HM.out; have := HTs.out; have := HUs.out; omega
        case rel => exact ⟨u, _, rfl, H1, ⟨by have := HM.out; have := HTs.out; have := HUs.out; omega⟩, ⟨by have := HX.out; have := HTs.out; have := HUs.out; simp; omega⟩, ⟨hb1⟩, ⟨HT2.out.others hb3 (by omega)⟩, ⟨HW2.out.trans hb2⟩⟩
    subst d1
    by_cases u2 : u.size < 2
    · have h1 := HA2.out
      rw [quotedL_x0 _ _ rfl rfl (by rw [bytesOf_length]; exact u2)] at h1
      have u3 : decide (u.size < 2) = true := decide_eq_true u2
      go_wp2_with fail
      go_quiet ((fail))
      go_wp2
      go_ret3
      exact ⟨by rw [← h1]; rfl, pw_below_drewN HW.out _⟩
    have u3 : decide (u.size < 2) = false := decide_eq_false u2
    have up : 0 < u.size := by omega
    have up1 : 1 < u.size := by omega
    obtain ⟨v, hv⟩ : ∃ v, v = u.extract 2 u.size := ⟨_, rfl⟩
    have hvb : bytesOf v = (bytesOf u).drop 2 := by rw [hv, bytesOf_tail]
    have hvs : v.size + 2 = u.size := by rw [hv, ByteArray.size_extract]; omega
    obtain ⟨p, hpp⟩ : ∃ p : Int, (u[0].toNat : Int) = p := ⟨_, rfl⟩
    obtain ⟨r, hr⟩ : ∃ r : Int, (u[1].toNat : Int) = r := ⟨_, rfl⟩
    have hA := HA2.out
    rw [bytesOf_cons up] at hA
    have hd1 := bytes_drop u 1 up1
    rw [hd1, ← hvb, hpp, hr] at hA
    have HA3 := Aside0.mk hA
    have HVs := Aside0.mk hvs
    have hplo : 0 ≤ p := by rw [← hpp]; exact u8_lo _
    have hphi : p ≤ 255 := by rw [← hpp]; exact u8_hi _
    have hrlo : 0 ≤ r := by rw [← hr]; exact u8_lo _
    have hrhi : r ≤ 255 := by rw [← hr]; exact u8_hi _
    replace hv := hv.symm
    clear hA HA2 hd1 hvb hvs u2
    obtain ⟨hp1, hp2⟩ := hexI_range p
    obtain ⟨hr1, hr2⟩ := hexI_range r
    generalize hP : hexI p = P at *
    generalize hR : hexI r = R at *
    have HP := Aside0.mk hP
    have HR := Aside0.mk hR
    clear hP hR
    go_wp2_with fail
    go_quiet ((fail))
    have HW2 := Aside0.mk (pw_below_drewN HW.out nq)
    have HB2 := Aside0.mk (HB.out.drewN nq)
    have HT2 := Aside0.mk (HT.out.drewN nq)
    clear HB HT HW hBw
    generalize wr.drewN nq = W2 at *
    go_wp2_with fail
    go_quiet ((first | (go_at_call 35; exact Calls.quiet_of_same (hexP_calls p P hplo hphi HP.out _)) | (go_at_call 35; exact Calls.quiet_of_same (hexP_calls r R hrlo hrhi HR.out _))))
    have HW3 := Aside0.mk (pw_below_drewN HW2.out nq)
    have HB3 := Aside0.mk (HB2.out.drewN nq)
    have HT3 := Aside0.mk (HT2.out.drewN nq)
    clear HB2 HT2 HW2
    generalize W2.drewN nq = W3 at *
    have hBw3 : w.heap.size ≤ W3.heap.size := HW3.out.size
    by_cases hneg : P < 0 ∨ R < 0
    · have h1 := HA3.out
      rw [quotedL_x1 _ _ rfl rfl (by rw [HP.out, HR.out]; exact hneg)] at h1
      have H1 := Aside0.mk h1
      clear h1
      go_wp2_with fail
      all_goals first | omega | (go_ret3; exact ⟨by rw [← H1.out]; rfl, HW3.out⟩)
    · have h1 := HA3.out
      rw [quotedL_x _ _ rfl rfl (by rw [HP.out, HR.out]; exact hneg), HP.out, HR.out] at h1
      have H1 := Aside0.mk h1
      have hP0 : 0 ≤ P := by omega
      have hR0 : 0 ≤ R := by omega
      have hor := or16 P R hP0 hp2 hR0 hr2
      clear h1 hneg hp1 hr1
      go_wp2_with (go_at_call 36; rw [hor]; refine (Bld.byte HB3.out (P * 16 + R) (by omega) (by omega) hx hBw3).mono ?_; rintro e w1 ⟨rfl, hb1, hb2, hb3⟩)
      go_roundg (gk - 4)
      case measure => have := HM.out; have := HTs.out; have := HUs.out; have := HVs.out; omega
      case rel => exact ⟨v, _, rfl, H1, ⟨by have := HM.out; have := HTs.out; have := HUs.out; have := HVs.out; omega⟩, ⟨by have := HX.out; have := HTs.out; have := HUs.out; have := HVs.out; simp; omega⟩, ⟨hb1⟩, ⟨HT3.out.others hb3 (by omega)⟩, ⟨HW3.out.trans hb2⟩⟩
theorem words_quoted.calls (a0 : ByteArray) (r1 : ByteArray) (r2 : ByteArray) (r3 : Bool) (w : World) (h : words_quoted.f a0 = some (r1, r2, r3)) :
    Calls Tryd.prog 20 #[.string a0] w fun e w' => e = .returned (.tuple #[.string r1, .string r2, .bool r3]) ∧ Below w.heap.size w w' := by
  unfold words_quoted.f at h
  by_cases hc : a0.size ≤ 140737488351232
  case neg => rw [if_neg hc] at h; cases h
  rw [if_pos hc] at h
  injection h with h
  have hw := words_quoted.walk a0 w hc
  unfold words_quoted.Post at hw
  rw [h] at hw
  exact hw

/-! ### words_plain: function 21 -/
def words_plain.f (a0 : Int) : Option (Bool) := if a0 ≥ 33 then (if a0 ≤ 126 then (some (a0 != 34)) else (some false)) else (some false)
set_option maxHeartbeats 8000000 in
set_option maxRecDepth 100000 in
theorem words_plain.calls (a0 : Int) (r : Bool) (w : World) (h : words_plain.f a0 = some r) :
    Calls Tryd.prog 21 #[.int .u8 a0] w fun e w' => e = .returned (.bool r) ∧ Drawn0 w w' := by
  have H : (if a0 ≥ 33 then (if a0 ≤ 126 then (some (a0 != 34)) else (some false)) else (some false)) = some r := h
  clear h
  by_cases c2 : a0 ≥ 33
  · rw [if_pos c2] at H
    have c2b0 : decide (33 ≤ a0) = true := decide_eq_true c2
    clear c2
    by_cases c3 : a0 ≤ 126
    · rw [if_pos c3] at H
      have c3b0 : decide (a0 ≤ 126) = true := decide_eq_true c3
      clear c3
      obtain rfl := Option.some.inj H
      go_enter Tryd.func21, Tryd.ntmps21
      go_wp2
      go_ret
      exact ⟨by first | rfl | (simp; done) | (simp [*]; done), by repeat (first | exact Drawn0.refl _ | apply Drawn0.step)⟩
    · rw [if_neg c3] at H
      have c3b0 : decide (a0 ≤ 126) = false := decide_eq_false c3
      clear c3
      obtain rfl := Option.some.inj H
      go_enter Tryd.func21, Tryd.ntmps21
      go_wp2
      go_ret
      exact ⟨by first | rfl | (simp; done) | (simp [*]; done), by repeat (first | exact Drawn0.refl _ | apply Drawn0.step)⟩
  · rw [if_neg c2] at H
    have c2b0 : decide (33 ≤ a0) = false := decide_eq_false c2
    clear c2
    obtain rfl := Option.some.inj H
    go_enter Tryd.func21, Tryd.ntmps21
    go_wp2
    go_ret
    exact ⟨by first | rfl | (simp; done) | (simp [*]; done), by repeat (first | exact Drawn0.refl _ | apply Drawn0.step)⟩

end Go.Proofs.YtckfpbkckffjjaaDoor.X
