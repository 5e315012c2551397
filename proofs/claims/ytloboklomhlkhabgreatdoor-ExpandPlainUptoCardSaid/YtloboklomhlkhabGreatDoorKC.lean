/- An abstract machine that the kernel runs, and the proof that what it comes to the program's calls come to: part C. -/
import Derived.Test.YtloboklomhlkhabGreatDoorKB
import Derived.Lib.MakeNoZero
import Derived.MapKept
import Derived.Laws.StructEq
import Derived.Laws.IdiomStrings
import Derived.Laws.LoneSync
import Derived.Lib.Builder
set_option linter.unusedVariables false
set_option linter.unusedSimpArgs false
/- Kev: what the library does with bytes and places. -/
namespace Go.Kev
open Go.RowKit
variable {c : Ctx} {P : Program} {o : Oper} {env : Env} {s : S} {lb : Nat}
theorem s_cpl {t : TypeId} {x : Operand} {y : O} (ho : o.op = .unOp .xor t x) (hx : compO c.nG x = some y) : Sound c P o (opCpl y) := by
  intro call lb env s k r hc hl hf h
  obtain ⟨kd, n, hb, h⟩ := onInt_some h
  obtain ⟨hk, h⟩ := cnd_none h
  obtain ⟨hr, h⟩ := cnd_none h
  cases n with
  | negSucc n => cases h
  | ofNat n =>
    have hkd : kd = .u64 := by cases kd <;> first | rfl | cases hk
    subst hkd
    refine ⟨_, _, _, h, op_pure fun e w a hops => ?_⟩
    have hv := hops x (by simp [ho, Op.operands]) y hx
    rw [hb] at hv
    refine ⟨.inl ?_, trivial⟩
    have hb2 := (bit_ok (k := .u64) (x := 18446744073709551615) (y := n) (by rfl) hr).2.2
    simp only [execOp, ho, hv.1, rho, Op.unary, Op.intBits, Sem.run_bind, Sem.run_pure, Result.andThen_ok]
    have hx2 : Nat.xor 18446744073709551615 n = Nat.xor n 18446744073709551615 := Nat.xor_comm _ _
    rw [hx2] at hb2
    rw [← hb2]
    rfl
theorem usd_some (ats : Array TypeId) (ty : TypeId) (a : Addr) (l q : Nat) : Builtin.unsafeSliceData_ ats ty #[.slice (some a) l q] =
    (if q ≠ 0 then pure (.pointer (some a)) else do
      if (← viewAt a.block).isSome then pure (.pointer (some a)) else pure (.pointer (some ⟨← newObj (.view a (← elemOf ty)), 0, none⟩))) := rfl
theorem usd_none (ats : Array TypeId) (ty : TypeId) (l q : Nat) : Builtin.unsafeSliceData_ ats ty #[.slice none l q] = pure (.pointer none) := rfl
theorem s_usd {t el : TypeId} {x : Operand} {y : O} (ho : o.op = .call ⟨.builtin .unsafeSliceData, #[x], #[t]⟩) (hx : compO c.nG x = some y) : Sound c P o (opUsd y) := by
  intro call lb env s k r hc hl hf h
  rcases onSlc_some h with ⟨id, off, n, cp, ex, hb, h⟩ | ⟨_, h⟩
  · obtain ⟨hc0, h⟩ := cnd_none' h
    have hc0 : cp ≠ 0 := fun x => by rw [x] at hc0; cases hc0
    refine ⟨_, _, _, h, op_pure fun e w a hops => ?_⟩
    have hv := hops x (by simp [ho, Op.operands, Call.operands]) y hx
    rw [hb] at hv
    obtain ⟨v1, v2, v3, v4⟩ := hv
    have hne : (if ex = true then cp else e.M id - off / e.sz id) ≠ 0 := by
      split
      · exact hc0
      · have := (v4 (by simpa using ‹¬ ex = true›)).2.2
        omega
    refine ⟨.inl ?_, v2⟩
    obtain ⟨cs, hcs⟩ := run_builtin (P := P) ho a
    rw [hcs]
    simp only [builtin, List.map_toArray, List.map_cons, List.map_nil, v1, rho, usd_some, if_pos hne, Sem.run_bind, Sem.run_pure, Result.andThen_ok]
  rcases onNils_some h with ⟨hb, h⟩ | ⟨_, h⟩
  · refine ⟨_, _, _, h, op_pure fun e w a hops => ?_⟩
    have hv := hops x (by simp [ho, Op.operands, Call.operands]) y hx
    rw [hb] at hv
    refine ⟨.inl ?_, trivial⟩
    obtain ⟨cs, hcs⟩ := run_builtin (P := P) ho a
    rw [hcs]
    simp only [builtin, List.map_toArray, List.map_cons, List.map_nil, hv.1, rho, usd_none, Sem.run_bind, Sem.run_pure, Result.andThen_ok]
  · cases h
/-- a type whose variables are bytes, one cell each -/
def u8B (P : Program) (t : TypeId) : Bool :=
  match P.underlying t with
  | some (.int .u8) => true
  | _ => false
theorem u8B_spec {t : TypeId} (h : u8B P t = true) : P.underlying t = some (.int .u8) := by
  unfold u8B at h
  split at h
  · assumption
  · cases h
def byteB (P : Program) (t : TypeId) : Bool := u8B P t && (sizeB P t == some 1)
theorem byteB_spec {t : TypeId} (h : byteB P t = true) : P.underlying t = some (.int .u8) ∧ sizeB P t = some 1 := by
  unfold byteB at h
  rw [Bool.and_eq_true] at h
  exact ⟨u8B_spec h.1, by simpa using h.2⟩
theorem shape_of {w : World} {b : Nat} {cs : Array Value} {ty : TypeId} {fz : Nat × Nat} (h : w.heap[b]? = some (.cells cs ty fz)) : w.shape? b = some (ty, cs.size) := by
  simp [World.shape?, h]
theorem liesAt_bytes {ty u : TypeId} (h1 : P.underlying ty = some (.int .u8)) (h2 : sizeB P ty = some 1) (h3 : P.underlying u = some (.int .u8)) {count off n : Nat} (h : off + n ≤ count) : ∀ d, liesAt P (d + 1) ty count off u n = true := by
  intro d
  have hc : P.cellsOf ty = 1 := by
    unfold Program.cellsOf
    unfold sizeB at h2
    rw [h2]; rfl
  have hr : ∀ k, rowAt P (sameLayout P P.depth · u) (k + 1) ty count off n = true := by
    intro k
    have hf : sameLayout P P.depth ty u = true := by
      obtain ⟨m, hm⟩ : ∃ m, P.depth = m + 1 := ⟨2 * (P.types.size + Made.depth) + 1, rfl⟩
      rw [hm, sameLayout, h1, h3]
      simp
    simp only [rowAt, hc, Nat.one_ne_zero, if_false, Nat.div_one, Nat.mod_one, hf]
    simp [h]
  obtain ⟨m, hm⟩ : ∃ m, P.depth = m + 1 := ⟨2 * (P.types.size + Made.depth) + 1, rfl⟩
  rw [liesAt, hm]
  rw [hm] at hr
  rw [hr m]
  rfl
theorem run_loadBytes {w : World} {b : Nat} : ∀ (xs : List Nat) (off : Nat) (acc : ByteArray), (∀ i, i < xs.length → w.cell? ⟨b, off + i, none⟩ = some (.int .u8 (Int.ofNat (xs.getD i 0)))) →
    (loadBytes ⟨b, off, none⟩ acc xs.length).run P w = .ok ⟨acc.data ++ (xs.map UInt8.ofNat).toArray⟩ w
  | [], off, acc, h => by simp [loadBytes]
  | x :: xs, off, acc, h => by
    have h0 := h 0 (by simp)
    simp only [Nat.add_zero, List.getD_cons_zero] at h0
    rw [List.length_cons, loadBytes]
    simp only [Sem.run_bind, run_load, h0, Result.andThen_ok]
    rw [addr_add, run_loadBytes xs (off + 1) _ (fun i hi => by
      have := h (i + 1) (by simp; omega)
      rw [List.getD_cons_succ] at this
      rw [show off + 1 + i = off + (i + 1) by omega]
      exact this)]
    simp [ByteArray.push]
theorem freeze_wrote (w : World) (a : Addr) (n : Nat) : Wrote w (w.freeze a n) a.block := by
  unfold World.freeze
  split
  · exact .refl w _
  · exact ⟨by simp, fun j hj => by simp only [Array.getElem?_modify]; rw [if_neg (fun x => hj x.symm)], rfl, rfl, rfl⟩
theorem freeze_at {w : World} {b off n : Nat} {cs : Array Value} {ty : TypeId} {x y : Nat} (hn : n ≠ 0) (h : w.heap[b]? = some (.cells cs ty (x, y))) :
    (w.freeze ⟨b, off, none⟩ n).heap[b]? = some (.cells cs ty (if x == y then (off, off + n) else (min x off, max y (off + n)))) := by
  unfold World.freeze
  rw [if_neg hn]
  simp only [Array.getElem?_modify, if_true, h]
  rfl
theorem ustr_eq (t u ty : TypeId) (rt : TypeId) (p : Option Addr) (k : IntKind) (n : Nat) (hn : n ≤ 9223372036854775807) (w : World) (ht : P.underlying t = some (.pointer ty)) :
    (Builtin.unsafeString_ #[t, u] rt #[.pointer p, .int k n]).run P w =
      if n = 0 then .ok (.string .empty) w else match p with
        | none => (runtimePanic (.error "unsafe.String: ptr is nil and len is not zero") : Sem Value).run P w
        | some a => ((variablesAt a ty n).run P w).andThen fun b w => if b then ((loadBytes a .empty n).run P w).andThen fun s w => .ok (.string s) (w.freeze a n)
          else .halt (.unsupported (.unsafePointer "String: not so many bytes at ptr")) w := by
  have h0 : Builtin.unsafeString_ #[t, u] rt #[.pointer p, .int k n] = (do
      let m ← asInt (.int k n)
      let some pt := (#[t, u][0]? : Option TypeId) | stuck "unsafe.String: no argument types"
      if m < 0 then runtimePanic (.error "unsafe.String: len out of range")
      if m > IntKind.i64.max then unsupported (.unsafePointer "String: a length above the largest int")
      match p with
      | none =>
        if m = 0 then pure (.string .empty)
        else runtimePanic (.error "unsafe.String: ptr is nil and len is not zero")
      | some a =>
        if m = 0 then pure (.string .empty)
        else if ← variablesAt a (← elemOf pt) m.toNat then do
          let s ← loadBytes a .empty m.toNat
          freeze a m.toNat
          pure (.string s)
        else unsupported (.unsafePointer "String: not so many bytes at ptr")) := rfl
  have hm : ¬ (9223372036854775807 < (n : Int)) := by omega
  have hz : ¬ ((n : Int) < 0) := by omega
  have he : (elemOf t).run P w = .ok ty w := by simp [elemOf, run_underlying ht]
  rw [h0]
  cases p with
  | none => by_cases h : n = 0 <;> simp [asInt, asIntOf, hm, hz, h, IntKind.max, IntKind.signed, IntKind.bits]
  | some a => by_cases h : n = 0 <;> simp [asInt, asIntOf, hm, hz, h, IntKind.max, IntKind.signed, IntKind.bits, he]
theorem onNilp_some {β : Type} {x : V} {a : Option β} {r : β} (h : x.onNilp a none = some r) : x = .nilp ∧ a = some r := by
  cases x <;> first
    | exact ⟨rfl, h⟩
    | cases h
theorem onPtr_cases {β : Type} {x : V} {f : Nat → Nat → Option β} {g : Option β} {r : β} (h : x.onPtr f g = some r) : (∃ a b, x = .ptr a b ∧ f a b = some r) ∨ ((∀ a b, x ≠ .ptr a b) ∧ g = some r) := by
  cases x <;> first | exact .inl ⟨_, _, rfl, h⟩ | exact .inr ⟨(fun _ _ e => by cases e), h⟩
theorem s_ustr {t u ty : TypeId} {x1 x2 : Operand} {y1 y2 : O} (ho : o.op = .call ⟨.builtin .unsafeString, #[x1, x2], #[t, u]⟩) (ht : P.underlying t = some (.pointer ty)) (hty : byteB P ty = true) (h1 : compO c.nG x1 = some y1) (h2 : compO c.nG x2 = some y2) : Sound c P o (opUstr ty y1 y2) := by
  intro call lb env s k r hc hl hf h
  obtain ⟨b1, b2⟩ := byteB_spec hty
  obtain ⟨k2, n, hn, h⟩ := onNat_some h
  have empty : ∀ e : Emb, rho e (.str 0 0) = .string ByteArray.empty := fun e => by
    simp only [rho]
    congr 1
  have zero : n = 0 → k (.str 0 0) s = some r → (∀ e : Emb, ∃ p, rho e (y1.ev env) = .pointer p) → ∃ v s' l, k v s' = some r ∧ Loc c lb s s' l (opAct P c.nG o env v) := by
    intro h0 hk hp
    subst h0
    refine ⟨_, _, _, hk, op_pure fun e w a hops => ?_⟩
    have v1 := hops x1 (by simp [ho, Op.operands, Call.operands]) y1 h1
    have v2 := hops x2 (by simp [ho, Op.operands, Call.operands]) y2 h2
    obtain ⟨p, hp⟩ := hp e
    rw [hp] at v1
    rw [hn] at v2
    refine ⟨.inl ?_, by show 0 < 256 ^ 0; decide⟩
    obtain ⟨cs, hcs⟩ := run_builtin (P := P) ho a
    have hu := ustr_eq (P := P) t u ty o.type p k2 0 (by omega) w ht
    rw [hcs, empty]
    simp only [builtin, List.map_toArray, List.map_cons, List.map_nil, v1.1, v2.1, rho, Sem.run_bind, Int.ofNat_eq_natCast, hu, if_true, Result.andThen_ok, Sem.run_pure]
  rcases cnd_cases h with ⟨h0, h⟩ | ⟨h0, h⟩
  · have h0 : n = 0 := Nat.eq_of_beq_eq_true h0
    rcases onPtr_cases h with ⟨id, off, hb, h⟩ | ⟨_, h⟩
    · exact zero h0 h fun e => ⟨_, by rw [hb]; rfl⟩
    · obtain ⟨hb, h⟩ := onNilp_some h
      exact zero h0 h fun e => ⟨_, by rw [hb]; rfl⟩
  · have hn0 : n ≠ 0 := fun x => by rw [x] at h0; cases h0
    obtain ⟨hnb, h⟩ := cnd_none h
    rw [Nat.ble_eq] at hnb
    obtain ⟨id, off, hb, h⟩ := onPtr_some h
    obtain ⟨row, hrow, h⟩ := onRow_some h
    obtain ⟨hro, h⟩ := cnd_none' h
    obtain ⟨hrty, h⟩ := cnd_none h
    have hrty : row.ty = ty := Nat.eq_of_beq_eq_true hrty
    obtain ⟨hlen, h⟩ := takeK_some h
    rw [dropL_eq] at hlen h
    obtain ⟨xs, hxs, h⟩ := packK_some h
    have hxn : xs.length = n := by
      have := congrArg List.length hxs
      rw [List.length_take, List.length_map] at this
      omega
    obtain ⟨s', hk, n1, n2, n3⟩ := setOb_spec s id (.row ⟨row.cells, row.len, row.ex, row.esz, row.ty, 0, Nat.max row.hi (Nat.add off n), row.ro⟩)
    have h9 := (hk (fun s => k (.str n (packL (xs.map UInt8.ofNat))) (touch lb id 1 s))).symm.trans h
    obtain ⟨l, hL⟩ := op_set (c := c) (P := P) (o := o) (env := env) (lb := lb) (v := .str n (packL (xs.map UInt8.ofNat))) hf n1 n2 n3 hrow (by simp [Ob.rw, hro]) fun e w a hob hd hops => by
      have v1 := hops x1 (by simp [ho, Op.operands, Call.operands]) y1 h1
      have v2 := hops x2 (by simp [ho, Op.operands, Call.operands]) y2 h2
      rw [hb] at v1
      rw [hn] at v2
      have hob' : RowR e w id row := hob
      obtain ⟨r1, cs, x, y, r2, r3, r4, r5, r6, r7⟩ := hob'
      have hfit : e.b id + off + n ≤ cs.size := by
        have : off + n ≤ row.cells.length := by rw [List.length_drop] at hlen; omega
        cases hx : row.ex with
        | true => have := r4 hx; omega
        | false => obtain ⟨_, q1, q2⟩ := r5 hx; omega
      have hcell : ∀ i, i < xs.length → w.cell? ⟨e.f id, e.b id + off + i, none⟩ = some (.int .u8 (Int.ofNat (xs.getD i 0))) := by
        intro i hi
        have h1 : row.cells[off + i]? = some (.int .u8 (Int.ofNat (xs.getD i 0))) := by
          have := congrArg (·[i]?) hxs
          simp only [List.getElem?_take_of_lt (show i < n by omega), List.getElem?_drop, List.getElem?_map] at this
          rw [this, List.getElem?_eq_getElem hi]
          simp [List.getD, List.getElem?_eq_getElem hi]
        have h2 := (RowR.cell hob h1).1
        rw [Nat.add_assoc, h2]
        rfl
      have hva : (variablesAt ⟨e.f id, e.b id + off, none⟩ ty n).run P w = .ok true w := by
        have hc1 : P.cellsOf ty = 1 := by unfold Program.cellsOf; unfold sizeB at b2; rw [b2]; rfl
        have hl2 := liesAt_bytes (P := P) b1 b2 b1 (count := cs.size) (off := e.b id + off) (n := n) hfit (2 * (P.types.size + Made.depth) + 1)
        rw [hrty] at r2
        simp only [variablesAt, Sem.run_bind, run_program, Result.andThen_ok, run_shape, shape_of r2, Sem.run_pure, hc1, Nat.div_one]
        exact congrArg (fun b => Result.ok b w) hl2
      have hlb := run_loadBytes (P := P) xs (e.b id + off) .empty hcell
      rw [hxn] at hlb
      refine ⟨w.freeze ⟨e.f id, e.b id + off, none⟩ n, freeze_wrote w _ n, ?_, .inl ?_, by rw [← hxn]; exact pack_lt xs⟩
      · have hfr := freeze_at (off := e.b id + off) hn0 r2
        have hmax1 : row.hi ≤ Nat.max row.hi (off + n) := Nat.le_max_left _ _
        have hmax2 : off + n ≤ Nat.max row.hi (off + n) := Nat.le_max_right _ _
        by_cases hxy : (x == y) = true
        · rw [if_pos hxy] at hfr
          refine ⟨r1, cs, _, _, hfr, ⟨r3.1, by omega⟩, r4, r5, r6, fun j q1 q2 => ⟨Nat.zero_le _, ?_⟩⟩
          show j < Nat.max row.hi (off + n)
          omega
        · rw [if_neg hxy] at hfr
          refine ⟨r1, cs, _, _, hfr, ⟨r3.1, by omega⟩, r4, r5, r6, fun j q1 q2 => ⟨Nat.zero_le _, ?_⟩⟩
          show j < Nat.max row.hi (off + n)
          by_cases hj : e.b id + j < e.b id + off + n
          · omega
          · have hjy : e.b id + j < y := by
              rcases Nat.le_total y (e.b id + off + n) with z | z
              · rw [Nat.max_eq_right z] at q2; omega
              · rw [Nat.max_eq_left z] at q2; exact q2
            by_cases hxj : x ≤ e.b id + j
            · have := (r7 j hxj hjy).2; omega
            · have hne : x ≠ y := fun z => hxy (by rw [z]; exact beq_self_eq_true y)
              have := (r7 (x - e.b id) (by omega) (by omega)).2; omega
      · obtain ⟨bs, hbs⟩ := run_builtin (P := P) ho a
        have hu := ustr_eq (P := P) t u ty o.type (some ⟨e.f id, e.b id + off, none⟩) k2 n hnb w ht
        rw [if_neg hn0] at hu
        simp only [hva, Result.andThen_ok, if_true, hlb] at hu
        rw [hbs]
        simp only [builtin, List.map_toArray, List.map_cons, List.map_nil, v1.1, v2.1, rho, Sem.run_bind, Int.ofNat_eq_natCast, hu, Result.andThen_ok, Sem.run_pure]
        congr 4
        have hsb := sbytes_packL (xs.map UInt8.ofNat)
        rw [List.length_map, hxn] at hsb
        show (ByteArray.empty.data ++ (xs.map UInt8.ofNat).toArray) = (sbytes n (packL (xs.map UInt8.ofNat))).toArray
        rw [hsb]
        show (#[] ++ (xs.map UInt8.ofNat).toArray : Array UInt8) = _
        simp
    exact ⟨_, _, _, h9, hL⟩
end Go.Kev
/- Kev: append and copy. -/
namespace Go.Kev
open Go.RowKit
open Classical
variable {c : Ctx} {P : Program} {o : Oper} {env : Env} {s : S} {lb : Nat}
/-- what is looked at first, and then a step that may lean on it -/
theorem Loc.after_read {act : Act1} {id : Nat} {ob : Ob} {s2 : S} {l : List Nat} (ho : hp s id = some ob) (h : Loc c lb (touch lb id 0 s) s2 l (fun e w Q => ObR e w id ob → e.D id → act e w Q)) : ∃ l', Loc c lb s s2 l' act := by
  obtain ⟨l1, h1, h2, h3, h4⟩ := touch_read lb id s
  have hlt : (∀ j, s.nx ≤ j → hp s j = none) → id < s.nx := fun fr => Nat.lt_of_not_le fun x => by rw [fr id x] at ho; cases ho
  have ht : Tr lb s (touch lb id 0 s) l1 := ⟨h1, by rw [nx_touch]; exact Nat.le_refl _, fun j _ => by rw [hp_touch], fun f => by rw [hp_touch, nx_touch]; exact f, fun f x hx => by rw [nx_touch, h4 x hx]; exact hlt f⟩
  refine ⟨l ++ l1, ht.trans h.tr, fun fr e H w hH hR hf => ?_⟩
  have hnx : s.nx ≤ s2.nx := by have := h.tr.nx; rw [nx_touch] at this; exact this
  have hid : H id = some ob := (hH id ((h3 s.nx (hlt fr)).left hnx)).trans ho
  obtain ⟨hd, hob⟩ := hR.ob id ob hid
  have hmix : mix lb s2.nx l (hp s2) H = mix lb s2.nx (l ++ l1) (hp s2) H := by
    funext j
    unfold mix
    by_cases a : Tc lb s2.nx l j
    · rw [if_pos a, if_pos a.right]
    · rw [if_neg a]
      by_cases b : Tc lb s2.nx (l ++ l1) j
      · rw [if_pos b, hH j b, h.tr.keep j (fun x => a x.tc), hp_touch]
      · rw [if_neg b]
  have := h.run (by rw [hp_touch, nx_touch]; exact fr) e H w (fun j t => by rw [hp_touch]; exact hH j t.right) hR (fun j a b => hf j (by rw [nx_touch] at a; exact a) b) hob hd
  rw [hmix, nx_touch] at this
  exact this
abbrev opActF (F : Emb → World → Prop) (P : Program) (nG : Nat) (o : Oper) (env : Env) (v : V) : Act1 := fun e w Q => F e w → opAct P nG o env v e w Q
theorem op_setF {F : Emb → World → Prop} {v : V} {s' : S} {id : Nat} {ob ob' : Ob} (hf : Fresh s) (hs : s'.nx = s.nx) (hl : s'.log = s.log) (hh : ∀ j, hp s' j = if j = id then some ob' else hp s j) (hob : hp s id = some ob) (hrw : ob.rw = true)
    (h : ∀ e w a, F e w → ObR e w id ob → e.D id → Ops c.nG e env a o.op.operands → ∃ w', Wrote w w' (e.f id) ∧ ObR e w' id ob' ∧ Gives P o a w (rho e v) w' ∧ ok e v) :
    ∃ l, Loc c lb s (touch lb id 1 s') l (opActF F P c.nG o env v) :=
  Loc.set hs hl hh hob hrw (hf.lt hob) fun e w Q hb hd hq hF a next Q0 hops hk => by
    obtain ⟨w', h1, h2, h3, h4⟩ := h e w a hF hb hd hops
    exact h3.wp (hk e w' (hq w' h1 h2) (.refl e) h4)
theorem op_newF {F : Emb → World → Prop} {v : V} {s' : S} {ob : Ob} (hlb : lb ≤ s.nx) (hs : s'.nx = s.nx + 1) (hl : s'.log = s.log) (hh : ∀ j, hp s' j = if j = s.nx then some ob else hp s j)
    (h : ∀ e w a, F e w → ¬ e.D s.nx → Ops c.nG e env a o.op.operands → ∃ w' obj M sz za zc, Pushed w w' obj ∧ ObR (e.put s.nx w.heap.size 0 M sz za zc) w' s.nx ob ∧
      Gives P o a w (rho (e.put s.nx w.heap.size 0 M sz za zc) v) w' ∧ ok (e.put s.nx w.heap.size 0 M sz za zc) v) : Loc c lb s s' [] (opActF F P c.nG o env v) :=
  Loc.new hlb hs hl hh fun e w Q hn hq hF a next Q0 hops hk => by
    obtain ⟨w', obj, M, sz, za, zc, h1, h2, h3, h4⟩ := h e w a hF hn hops
    exact h3.wp (hk _ _ (hq w' obj M sz za zc h1 h2) (Emb.le_put e hn _ _ _ _ _ _) h4)
theorem op_pureF {F : Emb → World → Prop} {v : V} (h : ∀ e w a, F e w → Ops c.nG e env a o.op.operands → Gives P o a w (rho e v) w ∧ ok e v) : Loc c lb s s [] (opActF F P c.nG o env v) :=
  Loc.pure fun e w Q q hF a next Q0 hx hk => (h e w a hF hx).1.wp (hk e w q (.refl e) (h e w a hF hx).2)
theorem Fresh.touch (h : Fresh s) (id m : Nat) : Fresh (touch lb id m s) := fun j hj => by rw [nx_touch] at hj; rw [hp_touch]; exact h j hj
/-! ### sources -/
theorem onLen_some {r : Env × S} {y : V} {k : Nat → R} (h : onLen y k = some r) :
    ∃ n, k n = some r ∧ ((∃ b, y = .str n b) ∨ (∃ id off cp ex, y = .slc id off n cp ex) ∨ (n = 0 ∧ ((∃ id ex, y = .slz id ex) ∨ y = .nils))) := by
  rcases onStr_some h with ⟨n, b, rfl, h⟩ | ⟨_, h⟩
  · exact ⟨n, h, .inl ⟨b, rfl⟩⟩
  rcases onSlc_some h with ⟨id, off, n, cp, ex, rfl, h⟩ | ⟨_, h⟩
  · exact ⟨n, h, .inr (.inl ⟨id, off, cp, ex, rfl⟩)⟩
  rcases onSlz_some h with ⟨id, ex, rfl, h⟩ | ⟨_, h⟩
  · exact ⟨0, h, .inr (.inr ⟨rfl, .inl ⟨id, ex, rfl⟩⟩)⟩
  rcases onNils_some h with ⟨rfl, h⟩ | ⟨_, h⟩
  · exact ⟨0, h, .inr (.inr ⟨rfl, .inr rfl⟩)⟩
  · cases h
/-- the length of a source, in the world -/
theorem lenOf_spec {y : V} {n : Nat} (hy : (∃ b, y = .str n b) ∨ (∃ id off cp ex, y = .slc id off n cp ex) ∨ (n = 0 ∧ ((∃ id ex, y = .slz id ex) ∨ y = .nils))) (e : Emb) (w : World) : (Builtin.lenOf (rho e y)).run P w = .ok n w := by
  rcases hy with ⟨b, rfl⟩ | ⟨id, off, cp, ex, rfl⟩ | ⟨rfl, ⟨id, ex, rfl⟩ | rfl⟩
  · simp [rho, Builtin.lenOf, sarr_size]
  · simp [rho, Builtin.lenOf]
  · simp [rho, Builtin.lenOf]
  · simp [rho, Builtin.lenOf]
theorem bytesT_eq (b : Nat) : ∀ n i, (Nat.rec (motive := fun _ => Nat → List V) (fun _ => []) (fun _ ih i => .int .u8 (.ofNat (sget b i)) :: ih (Nat.succ i)) n i : List V) = (List.range n).map fun j => V.int .u8 (Int.ofNat (sget b (i + j)))
  | 0, i => rfl
  | n + 1, i => by
    rw [List.range_succ_eq_map, List.map_cons, List.map_map]
    refine congrArg (V.int .u8 (Int.ofNat (sget b i)) :: ·) ((bytesT_eq b n (i + 1)).trans (List.map_congr_left fun j _ => ?_))
    simp only [Function.comp_apply]
    rw [show i + 1 + j = i + Nat.succ j by omega]
theorem bytesT_spec (n b : Nat) (e : Emb) : rhos e (bytesT n b) = (sbytes n b).map (fun x => Value.int .u8 x.toNat) ∧ oks e (bytesT n b) ∧ (∀ v ∈ bytesT n b, v.one = true) ∧ (bytesT n b).length = n := by
  have h : bytesT n b = (List.range n).map fun j => V.int .u8 (Int.ofNat (sget b j)) := by
    exact (bytesT_eq b n 0).trans (List.map_congr_left fun j _ => by rw [Nat.zero_add])
  rw [h]
  refine ⟨?_, ?_, fun v hv => ?_, by simp⟩
  · rw [rhos_map, sbytes, List.map_map, List.map_map]
    refine List.map_congr_left fun j _ => ?_
    simp only [Function.comp_apply, rho, UInt8.toNat_ofNat', Nat.mod_eq_of_lt (sget_lt b j)]
    rfl
  · rw [oks_iff]
    intro v hv
    rw [List.mem_map] at hv
    obtain ⟨j, _, rfl⟩ := hv
    trivial
  · rw [List.mem_map] at hv
    obtain ⟨j, _, rfl⟩ := hv
    rfl
/-- what a source's first cells are -/
def Src (P : Program) (y : V) (esz n : Nat) (l : List V) (e : Emb) (w : World) : Prop :=
  (∀ w', w'.heap = w.heap → ok e y → (Builtin.firstCells esz n (rho e y)).run P w' = .ok (rhos e l).toArray w') ∧ oks e l ∧ (∀ v ∈ l, v.one = true) ∧ l.length = n * esz
/-- taking the source: it is looked at, then the rest -/
theorem srcCells_some {act : Act1} {esz n : Nat} {y : V} {k : List V → S → R} {r : Env × S} (hf : Fresh s) (hlb : lb ≤ s.nx) (h : srcCells lb esz n y s k = some r) (hn : n = 0 ∨ ∀ id ex, y ≠ .slz id ex) (hn2 : n = 0 ∨ y ≠ .nils)
    {G : S → Prop} (hG : ∀ l s1, k l s1 = some r → Fresh s1 → lb ≤ s1.nx → hp s1 = hp s → s1.nx = s.nx → ∃ s' m, G s' ∧ Loc c lb s1 s' m (fun e w Q => Src P y esz n l e w → act e w Q)) : ∃ s' m, G s' ∧ Loc c lb s s' m act := by
  rcases onStr_some h with ⟨m, b, rfl, h⟩ | ⟨_, h⟩
  · obtain ⟨h1, hb1⟩ := cnd_none h
    obtain ⟨h2, hb2⟩ := cnd_none hb1
    have h1 : esz = 1 := Nat.eq_of_beq_eq_true h1
    rw [Nat.ble_eq] at h2
    clear h hb1
    subst h1
    obtain ⟨s', m', g, L⟩ := hG _ _ hb2 hf hlb rfl rfl
    refine ⟨s', m', g, L.weak fun e w Q _ _ hQ => hQ ?_⟩
    obtain ⟨q1, q2, q3, q4⟩ := bytesT_spec n b e
    refine ⟨fun w' _ _ => ?_, q2, q3, by rw [q4, Nat.mul_one]⟩
    simp only [rho, Builtin.firstCells, Sem.run_pure]
    rw [q1]
    congr 1
    have hx : (sarr m b).extract 0 n = sarr n (ssub b 0 n) := sarr_extract (Nat.zero_le _) h2
    rw [hx]
    apply Array.ext'
    have : (sbytes n (ssub b 0 n)) = sbytes n b := by
      have := (ssub_spec (b := b) (Nat.zero_le n) (Nat.le_refl n)).1
      rw [Nat.sub_zero, List.drop_zero, List.take_of_length_le (by rw [sbytes_length]; exact Nat.le_refl _)] at this
      exact this
    show ((sbytes n (ssub b 0 n)).toArray.map _).toList = _
    rw [this]
    simp
  rcases onSlc_some h with ⟨id, off, len, cp, ex, rfl, h⟩ | ⟨_, h⟩
  · obtain ⟨row, hrow, h⟩ := onRow_some h
    obtain ⟨hlen, h⟩ := takeK_some h
    rw [dropL_eq] at hlen h
    obtain ⟨s', m', g, L⟩ := hG _ _ h (hf.touch id 0) (by rw [nx_touch]; exact hlb) (hp_touch _ _ _ _) (nx_touch _ _ _ _)
    have L' : Loc c lb (touch lb id 0 s) s' m' (fun e w Q => ObR e w id (.row row) → e.D id → act e w Q) := L.weak fun e w Q _ _ hQ hob hd => hQ (by
      obtain ⟨_, g2, g3⟩ := RowR.load (P := P) (r := row) hob hlen
      refine ⟨fun w' hw _ => ?_, g2, g3, by rw [List.length_take]; exact Nat.min_eq_left hlen⟩
      have hob' : ObR e w' id (.row row) := ObR.world hob (by rw [hw])
      simp only [rho, Builtin.firstCells]
      exact (RowR.load (P := P) (r := row) hob' hlen).1)
    obtain ⟨l', L''⟩ := Loc.after_read hrow L'
    exact ⟨s', l', g, L''⟩
  have empty : ∀ (e : Emb) (w : World), n = 0 → (∃ a cp, rho e y = .slice a 0 cp) → Src P y esz n [] e w := fun e w h0 ⟨a, cp, hy⟩ => by
    subst h0
    refine ⟨fun w' _ _ => ?_, trivial, (fun v hv => by cases hv), (by rw [Nat.zero_mul]; rfl)⟩
    rw [hy]
    cases a with
    | none => simp [Builtin.firstCells, rhos]
    | some a =>
      simp only [Builtin.firstCells, Nat.zero_mul]
      exact run_loadCells_list (P := P) (w := w') a [] (fun j v hv => by cases hv)
  rcases onSlz_some h with ⟨id, ex, rfl, h⟩ | ⟨_, h⟩
  · obtain ⟨s', m', g, L⟩ := hG _ _ h hf hlb rfl rfl
    exact ⟨s', m', g, L.weak fun e w Q _ _ hQ => hQ (empty e w (hn.resolve_right fun x => x id ex rfl) ⟨_, _, rfl⟩)⟩
  rcases onNils_some h with ⟨rfl, h⟩ | ⟨_, h⟩
  · obtain ⟨s', m', g, L⟩ := hG _ _ h hf hlb rfl rfl
    exact ⟨s', m', g, L.weak fun e w Q _ _ hQ => hQ (empty e w (hn2.resolve_right fun x => x rfl) ⟨_, _, rfl⟩)⟩
  · cases h
/-! ### append -/
def notInt (P : Program) (u : TypeId) : Bool :=
  match P.underlying u with
  | some (.int _) => false
  | some _ => true
  | none => false
theorem notInt_spec {u : TypeId} (h : notInt P u = true) : ∃ d, P.underlying u = some d ∧ ∀ k, d ≠ .int k := by
  unfold notInt at h
  split at h
  · cases h
  · rename_i d h1 h2
    exact ⟨d, h2, fun k x => h1 k x⟩
  · cases h
theorem run_append_in {t u e rt : TypeId} {size n sLen sCap : Nat} {b : Option Addr} {xv : Value} {news : List Value} {w w' : World} (ht : P.underlying t = some (.slice e)) (hu : notInt P u = true) (hs : sizeB P e = some size)
    (hn : (Builtin.lenOf xv).run P w = .ok n w) (hfc : (Builtin.firstCells size n xv).run P w = .ok news.toArray w) (hle : sLen + n ≤ sCap)
    (hst : ∀ a, b = some a → (storeCells (a.add (sLen * size)) news).run P w = .ok () w') (hb : b = none → w' = w) :
    (Builtin.append_ #[t, u] rt #[.slice b sLen sCap, xv]).run P w = .ok (.slice b (sLen + n) sCap) w' := by
  obtain ⟨d, hd, hdn⟩ := notInt_spec hu
  have hz : (match d with | .int _ => true | _ => false) = false := by cases d <;> first | rfl | exact (hdn _ rfl).elim
  have hl : (sizeOf e).run P w = .ok size w := run_sizeB hs w
  cases b with
  | none =>
    obtain rfl := hb rfl
    simp only [Builtin.append_, List.getElem?_toArray, List.getElem?_cons_zero, List.getElem?_cons_succ, Sem.run_bind, run_underlying ht, Result.andThen_ok, hl, run_underlying hd, Sem.run_pure, hz, Bool.false_eq_true, if_false, hn, hle, if_true, hfc, Bool.not_false]
  | some a =>
    have := hst a rfl
    simp only [Builtin.append_, List.getElem?_toArray, List.getElem?_cons_zero, List.getElem?_cons_succ, Sem.run_bind, run_underlying ht, Result.andThen_ok, hl, run_underlying hd, Sem.run_pure, hz, Bool.false_eq_true, if_false, hn, hle, if_true, hfc, Bool.not_false]
    simp [this]
theorem run_append_out {t u e rt : TypeId} {i : TypeInfo} {z : Value} {n sLen sCap : Nat} {b : Option Addr} {xv : Value} {olds news : List Value} {w : World} (ht : P.underlying t = some (.slice e)) (hu : notInt P u = true) (hi : P.info? e = some i) (hz : i.zero = some z)
    (hn : (Builtin.lenOf xv).run P w = .ok n w) (hfc : (Builtin.firstCells i.size n xv).run P w.drew = .ok news.toArray w.drew) (hfo : (Builtin.firstCells i.size sLen (.slice b sLen sCap)).run P w.drew = .ok olds.toArray w.drew) (hgt : sCap < sLen + n)
    (hb0 : 0 < i.bytes) (hb : (sLen + n) * i.bytes ≤ 140737488355328) :
    (Builtin.append_ #[t, u] rt #[.slice b sLen sCap, xv]).run P w = .ok (.slice (some ⟨w.heap.size, 0, none⟩) (sLen + n) (grownCap w (sLen + n) sCap e))
        (w.drew.alloc (.cells (olds.toArray ++ news.toArray ++ Builtin.zeroCells z.cells (grownCap w (sLen + n) sCap e - (sLen + n))) e)) := by
  obtain ⟨d, hd, hdn⟩ := notInt_spec hu
  have hzz : (match d with | .int _ => true | _ => false) = false := by cases d <;> first | rfl | exact (hdn _ rfl).elim
  have hfit := growslice_fits hgt hb
  have h1 : ¬ (sLen + n ≤ sCap) := by omega
  have h2 : ¬ (281474976710656 < Builtin.nextslicecap (sLen + n) sCap * i.bytes) := by omega
  have h3 : i.bytes ≠ 0 := by omega
  simp only [Builtin.append_, List.getElem?_toArray, List.getElem?_cons_zero, List.getElem?_cons_succ, Sem.run_bind, run_underlying ht, Result.andThen_ok, sizeOf, typeInfo, run_program, hi, run_underlying hd, Sem.run_pure, hzz, Bool.false_eq_true, if_false, hn, h1, Bool.not_false, if_true]
  simp [h2, h3, Question.forced, hfc, hfo, zeroValue, typeInfo, hi, hz, Go.newRow, grownCap]
  congr 2
  apply Array.ext'
  simp [List.append_assoc]
/-- a row that was, and the row that it became: at its place, or at a new one -/
theorem Loc.turn {act : Act1} {s' : S} {id : Nat} {ob ob' : Ob} (hlb : lb ≤ s.nx) (hs : s'.nx = s.nx + 1) (hl : s'.log = (touch lb id 1 s).log) (hh : ∀ j, hp s' j = if j = s.nx then some ob' else if j = id then none else hp s j)
    (ho : hp s id = some ob) (hrw : ob.rw = true) (hrw' : ob'.rw = true) (hlt : id < s.nx)
    (h : ∀ e w (Q : Emb → World → Prop), ObR e w id ob → e.D id → ¬ e.D s.nx → (∀ w' f b M sz za zc, ((Wrote w w' (e.f id) ∧ f = e.f id) ∨ (∃ obj, Pushed w w' obj ∧ f = w.heap.size)) → ObR (e.put s.nx f b M sz za zc) w' s.nx ob' → Q (e.put s.nx f b M sz za zc) w') → act e w Q) :
    ∃ l, Loc c lb s s' l act := by
  obtain ⟨l, h1, h2, h3, h4⟩ := touch_write lb id s
  have h3 := h3 s'.nx (by omega)
  have hmy : Wr lb s'.nx l s.nx := .inl ⟨hlb, by omega⟩
  refine ⟨l, ⟨⟨by rw [hl, h1], by omega, fun j n => ?_, fun f j hj => ?_, fun _ x hx => by rw [h4 x hx]; omega⟩, fun fr e H w hH hR hf => ?_⟩⟩
  · rw [hh, if_neg, if_neg]
    · rintro rfl; exact n h3
    · rintro rfl; exact n hmy
  · rw [hh, if_neg (by omega)]
    split
    · rfl
    · exact f j (by omega)
  · have hn : ¬ e.D s.nx := hf s.nx (Nat.le_refl _) (by omega)
    have hH' : H id = some ob := (hH id h3.tc).trans ho
    obtain ⟨hd, hob⟩ := hR.ob id ob hH'
    refine h e w _ hob hd hn fun w' f b M sz za zc hw ho' => ⟨Emb.le_put e hn _ _ _ _ _ _, fun j => ?_, ?_⟩
    · show e.D j ∨ j = s.nx ↔ _
      rw [hs]
      constructor
      · rintro (x | x)
        · exact .inl x
        · exact .inr (by omega)
      · rintro (x | x)
        · exact .inl x
        · exact .inr (by omega)
    · have key : mix lb s'.nx l (hp s') H = fun j => if j = s.nx then some ob' else if j = id then none else H j := by
        funext j
        unfold mix
        rw [hh]
        by_cases x : j = s.nx
        · subst x; rw [if_pos hmy.tc, if_pos rfl, if_pos rfl]
        · rw [if_neg x, if_neg x]
          by_cases y : j = id
          · subst y; rw [if_pos h3.tc, if_pos rfl, if_pos rfl]
          · rw [if_neg y, if_neg y]
            split
            · exact (hH j ‹_›).symm
            · rfl
      rw [key]
      have hle := Emb.le_put e hn f b M sz za zc
      have hbase := hR.new id ob hH' hrw
      have hf0 : (e.put s.nx f b M sz za zc).f s.nx = f := if_pos rfl
      have hold : ∀ j a, j ≠ id → H j = some a → w'.heap[e.f j]? = w.heap[e.f j]? := by
        intro j a hj ha
        rcases hw with ⟨hw, _⟩ | ⟨obj, hw, _⟩
        · exact hw.other _ fun y => hj (hR.inj j id a ob ha hH' y)
        · exact hw.old (hR.ob j a ha).2.lt
      have hne : ∀ j a, j ≠ id → H j = some a → e.f j ≠ f := by
        intro j a hj ha hx
        rcases hw with ⟨_, rfl⟩ | ⟨obj, _, rfl⟩
        · exact hj (hR.inj j id a ob ha hH' hx)
        · have := (hR.ob j a ha).2.lt; omega
      have live : ∀ j a, j ≠ s.nx → (if j = s.nx then some ob' else if j = id then none else H j) = some a → j ≠ id ∧ H j = some a := by
        intro j a x hj
        rw [if_neg x] at hj
        by_cases y : j = id
        · rw [if_pos y] at hj; cases hj
        · rw [if_neg y] at hj; exact ⟨y, hj⟩
      refine ⟨fun j a hj => ?_, fun i j a b hi hj hff => ?_, fun j a hj hr => ?_, ?_, fun g hg => ?_⟩
      · by_cases x : j = s.nx
        · subst x
          rw [if_pos rfl] at hj
          cases hj
          exact ⟨.inr rfl, ho'⟩
        · obtain ⟨y, hj⟩ := live j a x hj
          obtain ⟨d, r⟩ := hR.ob j a hj
          exact ⟨.inl d, (r.world (hold j a y hj)).le d hle⟩
      · by_cases x : i = s.nx <;> by_cases y : j = s.nx
        · omega
        · obtain ⟨q, hj⟩ := live j b y hj
          rw [x, hf0, hle.f j (hR.ob j b hj).1] at hff
          exact (hne j b q hj hff.symm).elim
        · obtain ⟨q, hi⟩ := live i a x hi
          rw [y, hf0, hle.f i (hR.ob i a hi).1] at hff
          exact (hne i a q hi hff).elim
        · obtain ⟨_, hi⟩ := live i a x hi
          obtain ⟨_, hj⟩ := live j b y hj
          rw [hle.f i (hR.ob i a hi).1, hle.f j (hR.ob j b hj).1] at hff
          exact hR.inj i j a b hi hj hff
      · by_cases x : j = s.nx
        · subst x
          rw [hf0]
          rcases hw with ⟨_, rfl⟩ | ⟨obj, _, rfl⟩
          · exact hbase
          · exact hR.below.size
        · obtain ⟨_, hj⟩ := live j a x hj
          rw [hle.f j (hR.ob j a hj).1]
          exact hR.new j a hj hr
      · rcases hw with ⟨hw, _⟩ | ⟨obj, hw, _⟩
        · exact hR.below.trans ⟨hw.os, hw.tape, hw.output, Nat.le_of_eq hw.size.symm, fun k hk => hw.other k (by omega)⟩
        · exact hw.below hR.below
      · obtain ⟨g1, g2, g3⟩ := hR.glob g hg
        exact ⟨.inl g1, (hle.f g g1).trans g2, (hle.b g g1).trans g3⟩
end Go.Kev
/- Kev: append. -/
namespace Go.Kev
open Go.RowKit
open Classical
variable {c : Ctx} {P : Program} {o : Oper} {env : Env} {s : S} {lb : Nat}
def SrcOf (y : V) (n : Nat) : Prop := (∃ b, y = .str n b) ∨ (∃ id off cp ex, y = .slc id off n cp ex) ∨ (n = 0 ∧ ((∃ id ex, y = .slz id ex) ∨ y = .nils))
theorem SrcOf.slz {y : V} {n : Nat} (h : SrcOf y n) : n = 0 ∨ ∀ id ex, y ≠ .slz id ex := by
  rcases h with ⟨b, rfl⟩ | ⟨id, off, cp, ex, rfl⟩ | ⟨rfl, _⟩
  · exact .inr fun _ _ x => by cases x
  · exact .inr fun _ _ x => by cases x
  · exact .inl rfl
theorem SrcOf.nils {y : V} {n : Nat} (h : SrcOf y n) : n = 0 ∨ y ≠ .nils := by
  rcases h with ⟨b, rfl⟩ | ⟨id, off, cp, ex, rfl⟩ | ⟨rfl, _⟩
  · exact .inr fun x => by cases x
  · exact .inr fun x => by cases x
  · exact .inl rfl
theorem loadCells_zero (a : Addr) (w : World) : (loadCells a 0).run P w = .ok #[] w := run_loadCells_list (P := P) (w := w) a [] (fun j v hv => by cases hv)
theorem SrcOf.none {y : V} (h : SrcOf y 0) (esz : Nat) (e : Emb) (w : World) : (Builtin.firstCells esz 0 (rho e y)).run P w = .ok #[] w := by
  rcases h with ⟨b, rfl⟩ | ⟨id, off, cp, ex, rfl⟩ | ⟨_, ⟨id, ex, rfl⟩ | rfl⟩
  · simp only [rho, Builtin.firstCells, Sem.run_pure]
    congr 1
    apply Array.ext'
    have hx : (sarr 0 b).extract 0 0 = sarr 0 (ssub b 0 0) := sarr_extract (Nat.le_refl _) (Nat.le_refl _)
    rw [hx]
    show ((sbytes 0 (ssub b 0 0)).toArray.map _).toList = _
    rw [sbytes_zero]
    simp
  · simp only [rho, Builtin.firstCells, Nat.zero_mul]
    exact loadCells_zero _ w
  · simp only [rho, Builtin.firstCells, Nat.zero_mul]
    exact loadCells_zero _ w
  · simp [rho, Builtin.firstCells]
theorem size_zeroCells (z : Array Value) (n : Nat) : (Builtin.zeroCells z n).size = n * z.size := by simp [Builtin.zeroCells]
/-- a grown row -/
theorem RowR.grown {e : Emb} {w : World} {id : Nat} {cells : List V} {len esz ty M : Nat} {zs : Array Value} {vals : List Value} (hh : w.heap[e.f id]? = some (.cells (vals.toArray ++ zs) ty (0, 0))) (hb : e.b id = 0) (hs : e.sz id = esz) (hM : e.M id = M)
    (hv : vals = rhos e cells) (hk : oks e cells) (h1 : ∀ v ∈ cells, v.one = true) (hl : cells.length = len) (hz : len + zs.size = M * esz) (h0 : 0 < esz) :
    RowR e w id ⟨cells, len, false, esz, ty, 0, 0, false⟩ := by
  refine RowR.made hh hb hs (fun i v hi => ?_) (Nat.le_of_eq hl) (fun x => by cases x) fun _ => ⟨h0, ?_, ?_⟩
  · have := cells_toArray hk h1 i v hi
    rw [← hv] at this
    refine ⟨?_, this.2⟩
    have hlt : i < vals.toArray.size := by
      rw [List.size_toArray, hv, rhos_len]
      have := (List.getElem?_eq_some_iff.1 hi).1
      exact this
    rw [Array.getElem?_append_left hlt]
    exact this.1
  · rw [Array.size_append, List.size_toArray, hv, rhos_len, hl, hM]; exact hz
  · rw [Array.size_append, List.size_toArray, hv, rhos_len, hl]
    show len ≤ len + zs.size
    omega
theorem RowR.refreeze {e : Emb} {w : World} {id : Nat} {r : Row} (h : RowR e w id r) (h1 : r.hi = 0) (lo hi : Nat) : RowR e w id { r with lo := lo, hi := hi } := by
  obtain ⟨q1, cs, x, y, q2, q3, q4, q5, q6, q7⟩ := h
  exact ⟨q1, cs, x, y, q2, q3, q4, q5, q6, fun j a b => by have := (q7 j a b).2; omega⟩
theorem drew_alloc_pushed (w : World) (obj : Obj) : Pushed w (w.drew.alloc obj) obj := ⟨rfl, rfl, rfl, rfl⟩
section
variable {t u el : TypeId} {it : TypeInfo} {z : Value} {x1 x2 : Operand} {y1 y2 : O}
theorem append_gives {bs : Builtin} (ho : o.op = .call ⟨.builtin .append, #[x1, x2], #[t, u]⟩) {a : Act} {w w' : World} {v1 v2 v : Value} (h1 : a.eval x1 = v1) (h2 : a.eval x2 = v2) (h : ∀ rt, (Builtin.append_ #[t, u] rt #[v1, v2]).run P w = .ok v w') : Gives P o a w v w' := by
  obtain ⟨cs, hcs⟩ := run_builtin (P := P) ho a
  refine .inl ?_
  rw [hcs]
  simp only [builtin, List.map_toArray, List.map_cons, List.map_nil, h1, h2, Sem.run_bind, h, Result.andThen_ok, Sem.run_pure]
theorem s_append_new (ho : o.op = .call ⟨.builtin .append, #[x1, x2], #[t, u]⟩) (ht : P.underlying t = some (.slice el)) (hu : notInt P u = true) (hi : P.info? el = some it) (hz : it.zero = some z) (hzs : z.cells.size = it.size) (hb0 : 0 < it.bytes)
    (h1 : compO c.nG x1 = some y1) (h2 : compO c.nG x2 = some y2) {n : Nat} {k : K} {r : Env × S} (hl : lb ≤ s.nx) (hf : Fresh s) (hy : SrcOf (y2.ev env) n) (hn0 : n ≠ 0)
    (hx : ∀ e : Emb, ok e (y1.ev env) → ∃ b, rho e (y1.ev env) = .slice b 0 0)
    (h : appendNew lb el it.size it.bytes n (y2.ev env) s k = some r) : ∃ v s' l, k v s' = some r ∧ Loc c lb s s' l (opAct P c.nG o env v) := by
  obtain ⟨hby, h⟩ := cnd_none h
  obtain ⟨hez, h⟩ := cnd_none h
  rw [Nat.ble_eq] at hby
  have hby : n * it.bytes ≤ 140737488355328 := hby
  rw [Nat.blt_eq] at hez
  obtain ⟨s', m, g, L⟩ := srcCells_some (c := c) (P := P) (act := opAct P c.nG o env (.slc s.nx 0 n n false)) (G := fun s' => k (.slc s.nx 0 n n false) s' = some r) hf hl h hy.slz hy.nils fun l s1 hk hfs hlb1 hhp hnx => by
    obtain ⟨s', hk, n1, n2, n3⟩ := newRow_some hk
    rw [← hnx]
    refine ⟨s', [], hk, op_newF (F := Src P (y2.ev env) it.size n l) hlb1 n1 n2 n3 fun e w a hF hn hops => ?_⟩
    have v1 := hops x1 (by simp [ho, Op.operands, Call.operands]) y1 h1
    have v2 := hops x2 (by simp [ho, Op.operands, Call.operands]) y2 h2
    obtain ⟨b, hb⟩ := hx e v1.2
    rw [hb] at v1
    obtain ⟨f1, f2, f3, f4⟩ := hF
    have hg := grownCap_ge w n 0 el
    have hle := Emb.le_put e hn w.heap.size 0 (grownCap w n 0 el) it.size ⟨0, 0, none⟩ 0
    obtain ⟨q1, q2⟩ := rhos_le hle l f2
    refine ⟨w.drew.alloc (.cells ((rhos e l).toArray ++ Builtin.zeroCells z.cells (grownCap w n 0 el - n)) el), _, grownCap w n 0 el, it.size, ⟨0, 0, none⟩, 0, drew_alloc_pushed _ _, ?_, append_gives (bs := .append) ho v1.1 v2.1 fun rt => ?_, ?_⟩
    · refine RowR.grown (vals := rhos e l) (zs := Builtin.zeroCells z.cells (grownCap w n 0 el - n)) ?_ (Emb.put_b _ _ _ _ _ _ _ _) (Emb.put_sz _ _ _ _ _ _ _ _) (Emb.put_M _ _ _ _ _ _ _ _) q2.symm q1 f3 f4 ?_ hez
      · rw [Emb.put_f]; exact (drew_alloc_pushed w _).at
      · rw [size_zeroCells, hzs]
        show n * it.size + (grownCap w n 0 el - n) * it.size = _
        rw [← Nat.add_mul]; congr 1; omega
    · have hr := run_append_out (P := P) (rt := rt) (b := b) (sLen := 0) (sCap := 0) (xv := rho e (y2.ev env)) (olds := []) (news := rhos e l) (w := w) ht hu hi hz (lenOf_spec hy e w) (f1 _ rfl v2.2)
        (by cases b with
          | none => simp [Builtin.firstCells]
          | some a => simp only [Builtin.firstCells, Nat.zero_mul]; exact loadCells_zero _ _) (by omega) hb0 (by rw [Nat.zero_add]; exact hby)
      rw [Nat.zero_add] at hr
      rw [hr]
      simp only [rho, Emb.put_f, Emb.put_b, Emb.put_M, Emb.put_sz, Nat.zero_div, Nat.sub_zero, Bool.false_eq_true, if_false, Nat.add_zero]
      simp
    · refine ⟨Emb.put_D _ _ _ _ _ _ _ _, Nat.le_refl _, fun _ => ⟨Nat.zero_mod _, by rw [Emb.put_sz]; exact hez, ?_⟩⟩
      rw [Emb.put_M, Nat.zero_div, Nat.zero_add]
      exact hg
  exact ⟨_, s', m, g, L⟩
theorem s_append_in (ho : o.op = .call ⟨.builtin .append, #[x1, x2], #[t, u]⟩) (ht : P.underlying t = some (.slice el)) (hu : notInt P u = true) (hi : P.info? el = some it)
    (h1 : compO c.nG x1 = some y1) (h2 : compO c.nG x2 = some y2) {n id off len cap : Nat} {ex : Bool} {k : K} {r : Env × S} (hl : lb ≤ s.nx) (hf : Fresh s) (hy : SrcOf (y2.ev env) n) (hb : y1.ev env = .slc id off len cap ex) (hle : len + n ≤ cap)
    (h : srcCells lb it.size n (y2.ev env) s (fun l s => onRow s id (fun r => cnd (cnd ex true (Nat.beq r.esz it.size)) (storeRow ex lb id (Nat.add off (Nat.mul len it.size)) l s fun s => k (.slc id off (Nat.add len n) cap ex) s) none) none) = some r) :
    ∃ v s' l, k v s' = some r ∧ Loc c lb s s' l (opAct P c.nG o env v) := by
  obtain ⟨s', m, g, L⟩ := srcCells_some (c := c) (P := P) (act := opAct P c.nG o env (.slc id off (Nat.add len n) cap ex)) (G := fun s' => k (.slc id off (Nat.add len n) cap ex) s' = some r) hf hl h hy.slz hy.nils fun l s1 hk hfs hlb1 hhp hnx => by
    obtain ⟨row, hrow, hk⟩ := onRow_some hk
    obtain ⟨hez, hk⟩ := cnd_none hk
    obtain ⟨row2, s', hrow2, hro, hfz, hex, hoff, n1, n2, n3, hk⟩ := storeRow_some hk
    rw [hrow] at hrow2
    cases hrow2
    obtain ⟨m, L⟩ := op_setF (c := c) (P := P) (o := o) (env := env) (lb := lb) (v := .slc id off (Nat.add len n) cap ex) (F := Src P (y2.ev env) it.size n l) hfs n1 n2 n3 hrow (by simp [Ob.rw, hro]) fun e w a hF hob hd hops => by
      have v1 := hops x1 (by simp [ho, Op.operands, Call.operands]) y1 h1
      have v2 := hops x2 (by simp [ho, Op.operands, Call.operands]) y2 h2
      rw [hb] at v1
      obtain ⟨v1, q1, q2, q3⟩ := v1
      obtain ⟨f1, f2, f3, f4⟩ := hF
      have hob' : RowR e w id row := hob
      obtain ⟨w', r1, r2, r3⟩ := hob'.store (P := P) (off := Nat.add off (Nat.mul len it.size)) f2 f3 hfz (fun z => hex (.inl z)) (fun z => by
        cases ex with
        | true =>
          have g1 := hex (.inr rfl)
          obtain ⟨_, cs, x, y, _, _, _, q, _⟩ := hob'
          have := (q z).2.2
          omega
        | false =>
          have hez : row.esz = it.size := Nat.eq_of_beq_eq_true hez
          obtain ⟨p1, p2, p3⟩ := q3 rfl
          rw [hob'.1, hez] at p1 p2 p3
          rw [f4, hez]
          have hd2 : off = off / it.size * it.size := by
            have := Nat.div_add_mod off it.size
            rw [p1, Nat.add_zero, Nat.mul_comm] at this
            exact this.symm
          show off + len * it.size + n * it.size ≤ e.M id * it.size
          calc off + len * it.size + n * it.size = (off / it.size + (len + n)) * it.size := by rw [Nat.add_mul, Nat.add_mul, ← hd2]; omega
            _ ≤ e.M id * it.size := Nat.mul_le_mul_right _ (by omega)) hoff
      have hcap : cap ≤ (if ex = true then cap else e.M id - off / e.sz id) := by
        split
        · exact Nat.le_refl _
        · have := (q3 (by simpa using ‹¬ ex = true›)).2.2; omega
      refine ⟨w', r2, r3, append_gives (bs := .append) ho v1 v2.1 fun rt => ?_, q1, hle, q3⟩
      have hr := run_append_in (P := P) (rt := rt) (b := some ⟨e.f id, e.b id + off, none⟩) (sLen := len) (sCap := if ex = true then cap else e.M id - off / e.sz id) (xv := rho e (y2.ev env)) (news := rhos e l) (w := w) (w' := w') ht hu
        (show sizeB P el = some it.size by unfold sizeB; rw [hi]; rfl) (lenOf_spec hy e w) (f1 w rfl v2.2) (by omega) (fun q hq => by
          cases hq
          rw [addr_add, Nat.add_assoc]
          exact r1) (fun x => by cases x)
      simp only [rho]
      exact hr
    exact ⟨_, m, hk, L⟩
  exact ⟨_, s', m, g, L⟩
theorem s_append_grow (ho : o.op = .call ⟨.builtin .append, #[x1, x2], #[t, u]⟩) (ht : P.underlying t = some (.slice el)) (hu : notInt P u = true) (hi : P.info? el = some it) (hz : it.zero = some z) (hzs : z.cells.size = it.size) (hb0 : 0 < it.bytes)
    (h1 : compO c.nG x1 = some y1) (h2 : compO c.nG x2 = some y2) {n id off len cap : Nat} {ex : Bool} {k : K} {r : Env × S} (hl : lb ≤ s.nx) (hf : Fresh s) (hy : SrcOf (y2.ev env) n) (hb : y1.ev env = .slc id off len cap ex) (hgt : ¬ len + n ≤ cap)
    (hby : (len + n) * it.bytes ≤ 140737488355328) (hez : 0 < it.size)
    (h : appendGrow lb el it.size n id off len ex (y2.ev env) s k = some r) : ∃ v s' l, k v s' = some r ∧ Loc c lb s s' l (opAct P c.nG o env v) := by
  obtain ⟨s', m, g, L⟩ := srcCells_some (c := c) (P := P) (act := opAct P c.nG o env (.slc s.nx 0 (len + n) (len + n) false)) (G := fun s' => k (.slc s.nx 0 (len + n) (len + n) false) s' = some r) hf hl h hy.slz hy.nils fun l s1 hk hfs hlb1 hhp hnx => by
    obtain ⟨row, hrow, hk⟩ := onRow_some hk
    obtain ⟨hlen, hk⟩ := takeK_some hk
    rw [dropL_eq] at hlen hk
    rw [← hnx]
    have hlen : len * it.size ≤ (row.cells.drop off).length := hlen
    -- what the world's growing gives
    have grow : ∀ (e : Emb) (w : World) (a : Act), Src P (y2.ev env) it.size n l e w → ObR e w id (.row row) → ¬ e.D s1.nx → Ops c.nG e env a o.op.operands →
        ∀ cp', a.eval x1 = .slice (some ⟨e.f id, e.b id + off, none⟩) len cp' → cp' < len + n →
        ∃ w' obj M, Pushed w w' obj ∧ RowR (e.put s1.nx w.heap.size 0 M it.size ⟨0, 0, none⟩ 0) w' s1.nx ⟨(row.cells.drop off).take (len * it.size) ++ l, (len + n) * it.size, false, it.size, el, 0, 0, false⟩ ∧
          Gives P o a w (rho (e.put s1.nx w.heap.size 0 M it.size ⟨0, 0, none⟩ 0) (.slc s1.nx 0 (len + n) (len + n) false)) w' ∧ len + n ≤ M := by
      intro e w a hF hob hn hops cp' hv1 hcp
      have v2 := hops x2 (by simp [ho, Op.operands, Call.operands]) y2 h2
      obtain ⟨f1, f2, f3, f4⟩ := hF
      have hg := grownCap_ge w (len + n) cp' el
      have hle := Emb.le_put e hn w.heap.size 0 (grownCap w (len + n) cp' el) it.size ⟨0, 0, none⟩ 0
      obtain ⟨_, g2, g3⟩ := RowR.load (P := P) (r := row) hob hlen
      have hob2 : ObR e w.drew id (.row row) := ObR.world hob rfl
      have g1 := (RowR.load (P := P) (r := row) hob2 hlen).1
      have hoks : oks e ((row.cells.drop off).take (len * it.size) ++ l) := oks_append.2 ⟨g2, f2⟩
      obtain ⟨q1, q2⟩ := rhos_le hle _ hoks
      have hlc : ((row.cells.drop off).take (len * it.size) ++ l).length = (len + n) * it.size := by
        rw [List.length_append, List.length_take, Nat.min_eq_left hlen, f4, ← Nat.add_mul]
      refine ⟨w.drew.alloc (.cells ((rhos e ((row.cells.drop off).take (len * it.size) ++ l)).toArray ++ Builtin.zeroCells z.cells (grownCap w (len + n) cp' el - (len + n))) el), _, grownCap w (len + n) cp' el, drew_alloc_pushed _ _, ?_, append_gives (bs := .append) ho hv1 v2.1 fun rt => ?_, hg⟩
      · refine RowR.grown (vals := rhos e ((row.cells.drop off).take (len * it.size) ++ l)) (zs := Builtin.zeroCells z.cells (grownCap w (len + n) cp' el - (len + n))) ?_ (Emb.put_b _ _ _ _ _ _ _ _) (Emb.put_sz _ _ _ _ _ _ _ _) (Emb.put_M _ _ _ _ _ _ _ _) q2.symm q1 (fun v hv => (List.mem_append.1 hv).elim (g3 v) (f3 v)) hlc ?_ hez
        · rw [Emb.put_f]; exact (drew_alloc_pushed w _).at
        · rw [size_zeroCells, hzs, ← Nat.add_mul]; congr 1; omega
      · have hr := run_append_out (P := P) (rt := rt) (b := some ⟨e.f id, e.b id + off, none⟩) (sLen := len) (sCap := cp') (xv := rho e (y2.ev env)) (olds := rhos e ((row.cells.drop off).take (len * it.size))) (news := rhos e l) (w := w) ht hu hi hz (lenOf_spec hy e w) (f1 _ rfl v2.2)
          (by simp only [Builtin.firstCells]; exact g1) hcp hb0 hby
        rw [hr]
        simp only [rho, Emb.put_f, Emb.put_b, Emb.put_M, Emb.put_sz, Nat.zero_div, Nat.sub_zero, Bool.false_eq_true, if_false, Nat.add_zero, rhos_append]
        simp
    rcases cnd_cases hk with ⟨hex, hk⟩ | ⟨hex, hk⟩
    · subst hex
      obtain ⟨s', hk, n1, n2, n3⟩ := newRow_some hk
      rw [nx_touch] at hk n1 n3
      rw [hp_touch] at n3
      rw [appL_eq] at n3
      have L0 : Loc c lb (touch lb id 0 s1) s' [] (fun e w Q => ObR e w id (.row row) → e.D id → opActF (Src P (y2.ev env) it.size n l) P c.nG o env (.slc s1.nx 0 (len + n) (len + n) false) e w Q) :=
        Loc.new (by rw [nx_touch]; exact hlb1) (by rw [nx_touch]; exact n1) n2 (by rw [nx_touch, hp_touch]; exact n3) fun e w Q hn hq hob hd hF a next Q0 hops hk2 => by
          rw [nx_touch] at hn hq
          have v1 := hops x1 (by simp [ho, Op.operands, Call.operands]) y1 h1
          rw [hb] at v1
          obtain ⟨w', obj, M, p1, p2, p3, p4⟩ := grow e w a hF hob hn hops cap (by rw [v1.1]; simp [rho]) (by omega)
          refine p3.wp (hk2 _ _ (hq w' obj M it.size ⟨0, 0, none⟩ 0 p1 p2) (Emb.le_put e hn _ _ _ _ _ _) ⟨Emb.put_D _ _ _ _ _ _ _ _, Nat.le_refl _, fun _ => ⟨Nat.zero_mod _, by rw [Emb.put_sz]; exact hez, by rw [Emb.put_M, Nat.zero_div, Nat.zero_add]; exact p4⟩⟩)
      obtain ⟨l', L1⟩ := Loc.after_read hrow L0
      exact ⟨s', l', hk, L1⟩
    · subst hex
      obtain ⟨hro, hk⟩ := cnd_none' hk
      obtain ⟨hrex, hk⟩ := cnd_none' hk
      obtain ⟨hre, hk⟩ := cnd_none hk
      obtain ⟨hrt, hk⟩ := cnd_none hk
      obtain ⟨hfz, hk⟩ := cnd_none hk
      have hre : row.esz = it.size := Nat.eq_of_beq_eq_true hre
      have hrt : row.ty = el := Nat.eq_of_beq_eq_true hrt
      have hfz : off + (len + n) * it.size ≤ row.lo ∨ row.hi ≤ off + len * it.size := by
        rcases cnd_cases hfz with ⟨q, _⟩ | ⟨_, q⟩
        · rw [Nat.ble_eq] at q; exact .inl q
        · rw [Nat.ble_eq] at q; exact .inr q
      obtain ⟨hd, hdk, hdg⟩ := T.delK_spec s1.heap id
      rw [hdk] at hk
      rw [appL_eq] at hk
      obtain ⟨s', hk2, n1, n2, n3⟩ := newOb_spec (touch lb id 1 ⟨hd, s1.nx, s1.log⟩) (.row ⟨(row.cells.drop off).take (len * it.size) ++ l, (len + n) * it.size, false, it.size, el, row.lo - off, row.hi - off, false⟩)
      have hk3 := (hk2 (fun id' s => k (.slc id' 0 (len + n) (len + n) false) s)).symm.trans hk
      rw [nx_touch] at hk3 n1 n3
      rw [hp_touch] at n3
      have hlog : (touch lb id 1 ⟨hd, s1.nx, s1.log⟩).log = (touch lb id 1 s1).log := by unfold touch; cases Nat.ble lb id <;> rfl
      have hids : hp ⟨hd, s1.nx, s1.log⟩ = fun j => if j = id then none else hp s1 j := funext fun j => hdg j
      rw [hids] at n3
      obtain ⟨m, L⟩ := Loc.turn (c := c) (act := opActF (Src P (y2.ev env) it.size n l) P c.nG o env (.slc s1.nx 0 (len + n) (len + n) false)) (s := s1) (s' := s') (id := id) (ob := .row row) (ob' := .row ⟨(row.cells.drop off).take (len * it.size) ++ l, (len + n) * it.size, false, it.size, el, row.lo - off, row.hi - off, false⟩)
        hlb1 n1 (n2.trans hlog) n3 hrow (by simp [Ob.rw, hro]) rfl (hfs.lt hrow) fun e w Q hob hid hn hq hF a next Q0 hops hk2 => by
          have v1 := hops x1 (by simp [ho, Op.operands, Call.operands]) y1 h1
          have v2 := hops x2 (by simp [ho, Op.operands, Call.operands]) y2 h2
          rw [hb] at v1
          obtain ⟨v1, q1, q2, q3⟩ := v1
          obtain ⟨p1, p2, p3⟩ := q3 rfl
          have hob' : RowR e w id row := hob
          rw [hob'.1, hre] at p1 p3
          simp only [rho, Bool.false_eq_true, if_false] at v1
          rw [hob'.1, hre] at v1
          by_cases hcp : e.M id - off / it.size < len + n
          · obtain ⟨w', obj, M, g1, g2, g3, g4⟩ := grow e w a hF hob hn hops _ v1 hcp
            have g5 : RowR (e.put s1.nx w.heap.size 0 M it.size ⟨0, 0, none⟩ 0) w' s1.nx ⟨(row.cells.drop off).take (len * it.size) ++ l, (len + n) * it.size, false, it.size, el, row.lo - off, row.hi - off, false⟩ := g2.refreeze rfl _ _
            exact g3.wp (hk2 _ _ (hq w' _ 0 M it.size ⟨0, 0, none⟩ 0 (.inr ⟨obj, g1, rfl⟩) g5) (Emb.le_put e hn _ _ _ _ _ _) ⟨Emb.put_D _ _ _ _ _ _ _ _, Nat.le_refl _, fun _ => ⟨Nat.zero_mod _, by rw [Emb.put_sz]; exact hez, by rw [Emb.put_M, Nat.zero_div, Nat.zero_add]; exact g4⟩⟩)
          · obtain ⟨f1, f2, f3, f4⟩ := hF
            obtain ⟨r1, cs, x, y, r2, r3, r4, r5, r6, r7⟩ := hob'
            have hoff : off = off / it.size * it.size := by
              have := Nat.div_add_mod off it.size
              rw [p1, Nat.add_zero, Nat.mul_comm] at this
              exact this.symm
            have hroom : off + (len + n) * it.size ≤ e.M id * it.size := by
              calc off + (len + n) * it.size = (off / it.size + (len + n)) * it.size := by rw [Nat.add_mul (off / it.size) (len + n) it.size, ← hoff]
                _ ≤ e.M id * it.size := Nat.mul_le_mul_right _ (by omega)
            obtain ⟨_, r5a, r5b⟩ := r5 hrex
            rw [hre] at r5a r5b
            have hexp : (len + n) * it.size = len * it.size + n * it.size := Nat.add_mul _ _ _
            obtain ⟨w', cs', t1, t2, t3, t4, t5⟩ := run_storeCells (P := P) (e.f id) (e.b id + off + len * it.size) row.ty x y (rhos e l) 0 cs w r2
              (fun u hu2 => by
                rw [rhos_map, List.mem_map] at hu2
                obtain ⟨v, hv', rfl⟩ := hu2
                exact one_rho (f3 v hv')) (by rw [rhos_len, f4, r5a]; omega) (fun j a b hc => by
                  rw [rhos_len, f4] at b
                  have := r7 (j - e.b id) (by omega) (by omega)
                  omega)
            rw [rhos_len, f4] at t5
            have hle := Emb.le_put e hn (e.f id) (e.b id + off) (e.M id - off / it.size) it.size ⟨0, 0, none⟩ 0
            have hlc : (row.cells.drop off).length = row.cells.length - off := List.length_drop
            have hrow' : RowR (e.put s1.nx (e.f id) (e.b id + off) (e.M id - off / it.size) it.size ⟨0, 0, none⟩ 0) w' s1.nx ⟨(row.cells.drop off).take (len * it.size) ++ l, (len + n) * it.size, false, it.size, el, row.lo - off, row.hi - off, false⟩ := by
              refine ⟨Emb.put_sz _ _ _ _ _ _ _ _, cs', x, y, ?_, ⟨?_, r3.2⟩, (fun z => by cases z), (fun _ => ⟨hez, ?_, ?_⟩), (fun i v hv => ?_), (fun j a b => ?_)⟩
              · rw [Emb.put_f, ← hrt]; exact t3
              · show ((row.cells.drop off).take (len * it.size) ++ l).length ≤ (len + n) * it.size
                rw [List.length_append, List.length_take, f4]; omega
              · rw [Emb.put_b, Emb.put_M, t4, r5a]
                show e.b id + e.M id * it.size = e.b id + off + (e.M id - off / it.size) * it.size
                rw [Nat.sub_mul, ← hoff]; omega
              · rw [Emb.put_M]
                show (len + n) * it.size ≤ (e.M id - off / it.size) * it.size
                rw [Nat.sub_mul, ← hoff]; omega
              · rw [Emb.put_b]
                have hv : ((row.cells.drop off).take (len * it.size) ++ l)[i]? = some v := hv
                have key : cs'[e.b id + off + i]? = some (rho e v) ∧ ok e v ∧ v.one = true := by
                  rw [t5]
                  by_cases hi : i < len * it.size
                  · rw [List.getElem?_append_left (by rw [List.length_take]; omega), List.getElem?_take_of_lt hi, List.getElem?_drop] at hv
                    rw [if_neg (by omega), Nat.add_assoc]
                    exact r6 (off + i) v hv
                  · rw [List.getElem?_append_right (by rw [List.length_take]; omega), List.length_take, Nat.min_eq_left hlen] at hv
                    have hil : i - len * it.size < l.length := (List.getElem?_eq_some_iff.1 hv).1
                    rw [f4] at hil
                    rw [if_pos (by omega), show e.b id + off + i - (e.b id + off + len * it.size + 0) = i - len * it.size by omega, rhos_get, hv]
                    exact ⟨rfl, (oks_iff e l).1 f2 v (List.mem_of_getElem? hv), f3 v (List.mem_of_getElem? hv)⟩
                obtain ⟨k1, k2, k3⟩ := key
                obtain ⟨m1, m2⟩ := rho_le hle v k2
                exact ⟨by rw [m2]; exact k1, m1, k3⟩
              · rw [Emb.put_b] at a b
                have := r7 (off + j) (by omega) (by omega)
                show row.lo - off ≤ j ∧ j < row.hi - off
                omega
            have hg : Gives P o a w (rho (e.put s1.nx (e.f id) (e.b id + off) (e.M id - off / it.size) it.size ⟨0, 0, none⟩ 0) (.slc s1.nx 0 (len + n) (len + n) false)) w' := by
              refine append_gives (bs := .append) ho v1 v2.1 fun rt => ?_
              have hr := run_append_in (P := P) (rt := rt) (b := some ⟨e.f id, e.b id + off, none⟩) (sLen := len) (sCap := e.M id - off / it.size) (xv := rho e (y2.ev env)) (news := rhos e l) (w := w) (w' := w') ht hu
                (show sizeB P el = some it.size by unfold sizeB; rw [hi]; rfl) (lenOf_spec hy e w) (f1 w rfl v2.2) (by omega) (fun q hq => by
                  cases hq
                  rw [addr_add]
                  exact t1) (fun x => by cases x)
              rw [hr]
              simp only [rho, Emb.put_f, Emb.put_b, Emb.put_M, Emb.put_sz, Nat.zero_div, Nat.sub_zero, Bool.false_eq_true, if_false, Nat.add_zero]
            exact hg.wp (hk2 _ _ (hq w' _ _ _ it.size ⟨0, 0, none⟩ 0 (.inl ⟨t2, rfl⟩) hrow') hle ⟨Emb.put_D _ _ _ _ _ _ _ _, Nat.le_refl _, fun _ => ⟨Nat.zero_mod _, by rw [Emb.put_sz]; exact hez, by rw [Emb.put_M, Nat.zero_div, Nat.zero_add]; omega⟩⟩)
      exact ⟨s', m, hk3, L⟩
  exact ⟨_, s', m, g, L⟩
end
end Go.Kev
/- Kev: append as a whole; copy. -/
namespace Go.Kev
open Go.RowKit
variable {c : Ctx} {P : Program} {o : Oper} {env : Env} {s : S} {lb : Nat}
theorem s_append {t u el : TypeId} {it : TypeInfo} {z : Value} {x1 x2 : Operand} {y1 y2 : O} (ho : o.op = .call ⟨.builtin .append, #[x1, x2], #[t, u]⟩) (ht : P.underlying t = some (.slice el)) (hu : notInt P u = true) (hi : P.info? el = some it) (hz : it.zero = some z) (hzs : z.cells.size = it.size) (hb0 : 0 < it.bytes)
    (h1 : compO c.nG x1 = some y1) (h2 : compO c.nG x2 = some y2) : Sound c P o (opAppend el it.size it.bytes y1 y2) := by
  intro call lb env s k r hc hl hf h
  obtain ⟨n, h, hy⟩ := onLen_some h
  have same : n = 0 → k (y1.ev env) s = some r → (∀ e : Emb, ∃ b cp, rho e (y1.ev env) = .slice b 0 cp) → ∃ v s' l, k v s' = some r ∧ Loc c lb s s' l (opAct P c.nG o env v) := by
    intro h0 hk hx
    subst h0
    refine ⟨_, _, _, hk, op_pure fun e w a hops => ?_⟩
    have v1 := hops x1 (by simp [ho, Op.operands, Call.operands]) y1 h1
    have v2 := hops x2 (by simp [ho, Op.operands, Call.operands]) y2 h2
    obtain ⟨b, cp, hb⟩ := hx e
    refine ⟨append_gives (bs := .append) ho v1.1 v2.1 fun rt => ?_, v1.2⟩
    rw [hb]
    have hr := run_append_in (P := P) (rt := rt) (b := b) (sLen := 0) (sCap := cp) (n := 0) (xv := rho e (y2.ev env)) (news := []) (w := w) (w' := w) ht hu
      (show sizeB P el = some it.size by unfold sizeB; rw [hi]; rfl) (lenOf_spec hy e w) (SrcOf.none hy _ e w) (Nat.zero_le _) (fun q _ => rfl) (fun _ => rfl)
    rw [hr]
  rcases onSlc_some h with ⟨id, off, len, cap, ex, hb, h⟩ | ⟨_, h⟩
  · rcases cnd_cases h with ⟨hle, h⟩ | ⟨hle, h⟩
    · rw [Nat.ble_eq] at hle
      exact s_append_in ho ht hu hi h1 h2 hl hf hy hb hle h
    · obtain ⟨hby, h⟩ := cnd_none h
      obtain ⟨hez, h⟩ := cnd_none h
      rw [Nat.ble_eq] at hby
      rw [Nat.blt_eq] at hez
      exact s_append_grow ho ht hu hi hz hzs hb0 h1 h2 hl hf hy hb (fun x => by
        have q : Nat.ble (len + n) cap = true := by rw [Nat.ble_eq]; exact x
        have q2 : Nat.ble (Nat.add len n) cap = true := q
        rw [q2] at hle; cases hle) hby hez h
  rcases onSlz_some h with ⟨id, ex, hb, h⟩ | ⟨_, h⟩
  · rcases cnd_cases h with ⟨h0, h⟩ | ⟨h0, h⟩
    · exact same (Nat.eq_of_beq_eq_true h0) h fun e => ⟨_, _, by rw [hb]; rfl⟩
    · obtain ⟨hex, h⟩ := cnd_none h
      subst hex
      exact s_append_new ho ht hu hi hz hzs hb0 h1 h2 hl hf hy (fun x => by rw [x] at h0; cases h0) (fun e he => by
        rw [hb] at he ⊢
        exact ⟨_, by simp only [rho]; rw [he.2 rfl]⟩) h
  rcases onNils_some h with ⟨hb, h⟩ | ⟨_, h⟩
  · rcases cnd_cases h with ⟨h0, h⟩ | ⟨h0, h⟩
    · exact same (Nat.eq_of_beq_eq_true h0) (by rw [hb]; exact h) fun e => ⟨_, _, by rw [hb]; rfl⟩
    · exact s_append_new ho ht hu hi hz hzs hb0 h1 h2 hl hf hy (fun x => by rw [x] at h0; cases h0) (fun e he => by rw [hb]; exact ⟨_, rfl⟩) h
  · cases h
/-! ### copy -/
theorem run_copy {t u e rt : TypeId} {size m dLen dCap : Nat} {b : Option Addr} {xv : Value} {news : List Value} {w w' : World} (ht : P.underlying t = some (.slice e)) (hs : sizeB P e = some size)
    (hn : (Builtin.lenOf xv).run P w = .ok m w) (hfc : (Builtin.firstCells size (Nat.min m dLen) xv).run P w = .ok news.toArray w)
    (hst : ∀ a, b = some a → (storeCells a news).run P w = .ok () w') (hb : b = none → w' = w) :
    (Builtin.copy_ #[t, u] rt #[.slice b dLen dCap, xv]).run P w = .ok (goInt (Nat.min m dLen)) w' := by
  have hl : (sizeOf e).run P w = .ok size w := run_sizeB hs w
  cases b with
  | none =>
    obtain rfl := hb rfl
    simp only [Builtin.copy_, List.getElem?_toArray, List.getElem?_cons_zero, List.getElem?_cons_succ, Sem.run_bind, run_underlying ht, Result.andThen_ok, hn, hl, hfc, Sem.run_pure]
  | some a =>
    have := hst a rfl
    simp only [Builtin.copy_, List.getElem?_toArray, List.getElem?_cons_zero, List.getElem?_cons_succ, Sem.run_bind, run_underlying ht, Result.andThen_ok, hn, hl, hfc, Sem.run_pure, this]
theorem min_eq (m n : Nat) : cnd (Nat.ble m n) m n = Nat.min m n := by
  rw [cnd_eq]
  show _ = min m n
  by_cases h : m ≤ n
  · rw [if_pos (by rw [Nat.ble_eq]; exact h), Nat.min_eq_left h]
  · rw [if_neg (fun x => h (by rw [Nat.ble_eq] at x; exact x)), Nat.min_eq_right (by omega)]
theorem s_copy {t u el : TypeId} {esz : Nat} {x1 x2 : Operand} {y1 y2 : O} (ho : o.op = .call ⟨.builtin .copy, #[x1, x2], #[t, u]⟩) (ht : P.underlying t = some (.slice el)) (hs : sizeB P el = some esz)
    (h1 : compO c.nG x1 = some y1) (h2 : compO c.nG x2 = some y2) : Sound c P o (opCopy esz y1 y2) := by
  intro call lb env s k r hc hl hf h
  obtain ⟨n, h, hy1⟩ := onLen_some h
  obtain ⟨m, h, hy2⟩ := onLen_some h
  have gives : ∀ {a : Act} {w w' : World} {v1 v2 v : Value}, a.eval x1 = v1 → a.eval x2 = v2 → (∀ rt, (Builtin.copy_ #[t, u] rt #[v1, v2]).run P w = .ok v w') → Gives P o a w v w' := by
    intro a w w' v1 v2 v e1 e2 hr
    obtain ⟨cs, hcs⟩ := run_builtin (P := P) ho a
    refine .inl ?_
    rw [hcs]
    simp only [builtin, List.map_toArray, List.map_cons, List.map_nil, e1, e2, Sem.run_bind, hr, Result.andThen_ok, Sem.run_pure]
  have h : srcCells lb esz (cnd (Nat.ble m n) m n) (y2.ev env) s (fun l s => (y1.ev env).onSlc (fun id off _ _ _ => cnd (Nat.beq (cnd (Nat.ble m n) m n) 0) (k (goI 0) s) (storeRow true lb id off l s fun s => k (goI (cnd (Nat.ble m n) m n)) s)) ((y1.ev env).onSlz (fun _ _ => k (goI 0) s) ((y1.ev env).onNils (k (goI 0) s) none))) = some r := h
  rw [min_eq] at h
  have hsrc : Nat.min m n = 0 ∨ ∀ id ex, y2.ev env ≠ .slz id ex := by
    rcases hy2 with ⟨b, q⟩ | ⟨id, off, cp, ex, q⟩ | ⟨rfl, _⟩
    · exact .inr fun _ _ x => by rw [q] at x; cases x
    · exact .inr fun _ _ x => by rw [q] at x; cases x
    · exact .inl (Nat.zero_min n)
  have hsrc2 : Nat.min m n = 0 ∨ y2.ev env ≠ .nils := by
    rcases hy2 with ⟨b, q⟩ | ⟨id, off, cp, ex, q⟩ | ⟨rfl, _⟩
    · exact .inr fun x => by rw [q] at x; cases x
    · exact .inr fun x => by rw [q] at x; cases x
    · exact .inl (Nat.zero_min n)
  have key : ∃ v, ∃ s' l, k v s' = some r ∧ Loc c lb s s' l (opAct P c.nG o env v) := by
    refine ⟨goI (Nat.min m n), ?_⟩
    refine srcCells_some (c := c) (P := P) (act := opAct P c.nG o env (goI (Nat.min m n))) (G := fun s' => k (goI (Nat.min m n)) s' = some r) hf hl h hsrc hsrc2 fun l s1 hk hfs hlb1 hhp hnx => ?_
    have zero : Nat.min m n = 0 → k (goI 0) s1 = some r → (∀ e : Emb, ∃ b cp, rho e (y1.ev env) = .slice b n cp) → ∃ s' m', k (goI (Nat.min m n)) s' = some r ∧ Loc c lb s1 s' m' (opActF (Src P (y2.ev env) esz (Nat.min m n) l) P c.nG o env (goI (Nat.min m n))) := by
      intro h0 hk hx
      refine ⟨s1, [], by rw [h0]; exact hk, op_pureF fun e w a hF hops => ?_⟩
      have v1 := hops x1 (by simp [ho, Op.operands, Call.operands]) y1 h1
      have v2 := hops x2 (by simp [ho, Op.operands, Call.operands]) y2 h2
      obtain ⟨b, cp, hb⟩ := hx e
      obtain ⟨f1, f2, f3, f4⟩ := hF
      have hl0 : l = [] := by rw [h0, Nat.zero_mul] at f4; exact List.length_eq_zero_iff.1 f4
      subst hl0
      rw [hb] at v1
      refine ⟨gives v1.1 v2.1 fun rt => ?_, trivial⟩
      exact run_copy (P := P) (w' := w) ht hs (lenOf_spec hy2 e w) (f1 w rfl v2.2) (fun q _ => rfl) (fun _ => rfl)
    rcases onSlc_some hk with ⟨id, off, len, cp, ex, hb, hk⟩ | ⟨_, hk⟩
    · have hnl : n = len := by
        rcases hy1 with ⟨b, q⟩ | ⟨id, off, cp, ex, q⟩ | ⟨rfl, ⟨id, ex, q⟩ | q⟩ <;> rw [hb] at q <;> cases q
        rfl
      subst hnl
      rcases cnd_cases hk with ⟨h0, hk⟩ | ⟨h0, hk⟩
      · exact zero (Nat.eq_of_beq_eq_true h0) hk fun e => ⟨_, _, by rw [hb]; rfl⟩
      · obtain ⟨row, s', hrow, hro, hfz, hex, hoff, n1, n2, n3, hk⟩ := storeRow_some hk
        obtain ⟨m', L⟩ := op_setF (c := c) (P := P) (o := o) (env := env) (lb := lb) (v := goI (Nat.min m n)) (F := Src P (y2.ev env) esz (Nat.min m n) l) hfs n1 n2 n3 hrow (by simp [Ob.rw, hro]) fun e w a hF hob hd hops => by
          have v1 := hops x1 (by simp [ho, Op.operands, Call.operands]) y1 h1
          have v2 := hops x2 (by simp [ho, Op.operands, Call.operands]) y2 h2
          rw [hb] at v1
          obtain ⟨f1, f2, f3, f4⟩ := hF
          have hob' : RowR e w id row := hob
          obtain ⟨w', r1, r2, r3⟩ := hob'.store (P := P) (off := off) f2 f3 hfz (fun z => hex (.inl z)) (fun z => by
            have g1 := hex (.inr rfl)
            obtain ⟨_, cs, x, y, _, _, _, q, _⟩ := hob'
            have := (q z).2.2
            omega) hoff
          refine ⟨w', r2, r3, gives v1.1 v2.1 fun rt => ?_, trivial⟩
          simp only [rho]
          exact run_copy (P := P) (w' := w') ht hs (lenOf_spec hy2 e w) (f1 w rfl v2.2) (fun q hq => by cases hq; exact r1) (fun x => by cases x)
        exact ⟨_, m', hk, L⟩
    rcases onSlz_some hk with ⟨id, ex, hb, hk⟩ | ⟨_, hk⟩
    · have hn0 : n = 0 := by
        rcases hy1 with ⟨b, q⟩ | ⟨id, off, cp, ex, q⟩ | ⟨h0, _⟩
        · rw [hb] at q; cases q
        · rw [hb] at q; cases q
        · exact h0
      exact zero (by rw [hn0]; exact Nat.min_zero m) hk fun e => ⟨_, _, by rw [hb, hn0]; rfl⟩
    rcases onNils_some hk with ⟨hb, hk⟩ | ⟨_, hk⟩
    · have hn0 : n = 0 := by
        rcases hy1 with ⟨b, q⟩ | ⟨id, off, cp, ex, q⟩ | ⟨h0, _⟩
        · rw [hb] at q; cases q
        · rw [hb] at q; cases q
        · exact h0
      exact zero (by rw [hn0]; exact Nat.min_zero m) hk fun e => ⟨_, _, by rw [hb, hn0]; rfl⟩
    · cases hk
  exact key
end Go.Kev
/- Kev: equality. -/
namespace Go.Kev
open Go.RowKit
variable {c : Ctx} {P : Program} {o : Oper} {env : Env} {s : S} {lb : Nat}
/-- the kinds of a struct's cells -/
def fieldB (P : Program) (t : TypeId) : Nat → Bool
  | 0 => match P.underlying t with | some (.int _) => true | _ => false
  | 1 => match P.underlying t with | some .string => true | _ => false
  | _ => match P.underlying t with | some .bool => true | _ => false
def flatB (P : Program) : List Field → Nat → List Nat → Bool
  | [], _, [] => true
  | f :: fs, i, c :: l => !(f.name == "_") && (Nat.beq f.offset i && (fieldB P f.type c && flatB P fs (i + 1) l))
  | _, _, _ => false
/-- Does the way of holding two values against each other fit the type? -/
def eqB (P : Program) (t : TypeId) : EqT → Bool
  | .int => match P.underlying t with | some (.int _) => true | _ => false
  | .str => match P.underlying t with | some .string => true | _ => false
  | .bool => match P.underlying t with | some .bool => true | _ => false
  | .slc => match P.underlying t with | some (.slice _) => true | _ => false
  | .mp => match P.underlying t with | some (.map _ _) => true | _ => false
  | .fn => match P.underlying t with | some (.func _ _ _) => true | _ => false
  | .ptr => match P.underlying t with | some (.pointer e) => (match sizeB P e with | some (_ + 1) => true | _ => false) | _ => false
  | .st l => match P.underlying t with | some (.struct fs) => !P.stoodInHeld t && (!P.eqGuardType P.depth t && flatB P fs.toList 0 l) | _ => false
  | .ifc g l => (match P.underlying t with | some (.interface ms) => !g || true | _ => false) && l.all fun u => (match P.underlying u with | some (.int _) => true | _ => false) && (match P.info? u with | some i => i.comparable | none => false)
theorem isSlc_rho {x : V} (h : x.isSlc = true) (e : Emb) : ∃ a l c', rho e x = .slice (some a) l c' := by
  cases x <;> first | exact ⟨_, _, _, rfl⟩ | cases h
theorem isMap_rho {x : V} (h : x.isMap = true) (e : Emb) : ∃ a, rho e x = .map (some a) := by
  cases x <;> first | exact ⟨_, rfl⟩ | cases h
theorem isFn_rho {x : V} (h : x.isFn = true) (e : Emb) : ∃ a b c', rho e x = .func a b c' := by
  cases x <;> first | exact ⟨_, _, _, rfl⟩ | cases h
theorem onNilm_some {β : Type} {x : V} {a b : Option β} {r : β} (h : x.onNilm a b = some r) : (x = .nilm ∧ a = some r) ∨ (x ≠ .nilm ∧ b = some r) := by
  cases x <;> first | exact .inl ⟨rfl, h⟩ | exact .inr ⟨(fun e => by cases e), h⟩
theorem onNilf_some {β : Type} {x : V} {a b : Option β} {r : β} (h : x.onNilf a b = some r) : (x = .nilf ∧ a = some r) ∨ (x ≠ .nilf ∧ b = some r) := by
  cases x <;> first | exact .inl ⟨rfl, h⟩ | exact .inr ⟨(fun e => by cases e), h⟩
theorem onNili_some {β : Type} {x : V} {a b : Option β} {r : β} (h : x.onNili a b = some r) : (x = .nili ∧ a = some r) ∨ (x ≠ .nili ∧ b = some r) := by
  cases x <;> first | exact .inl ⟨rfl, h⟩ | exact .inr ⟨(fun e => by cases e), h⟩
theorem onIfc_cases {β : Type} {x : V} {f : Nat → V → Option β} {g : Option β} {r : β} (h : x.onIfc f g = some r) : (∃ a b, x = .ifc a b ∧ f a b = some r) ∨ ((∀ a b, x ≠ .ifc a b) ∧ g = some r) := by
  cases x <;> first | exact .inl ⟨_, _, rfl, h⟩ | exact .inr ⟨(fun _ _ e => by cases e), h⟩
theorem eqInt_some {x y : V} {b : Bool} (h : eqInt x y = some b) : ∃ k m n, x = .int k m ∧ y = .int k n ∧ b = (m == n) := by
  unfold eqInt at h
  obtain ⟨k, m, hx, h1⟩ := onInt_some h
  obtain ⟨k', n, hy, h2⟩ := onInt_some h1
  obtain ⟨hk, h3⟩ := cnd_none h2
  obtain rfl := keq_eq hk
  injection h3 with h4
  exact ⟨k, m, n, hx, hy, by rw [← h4, ieq_iff]; rfl⟩
theorem memL_mem {t : Nat} : ∀ {l : List Nat}, memL t l = true → t ∈ l
  | [], h => by cases h
  | x :: l, h => by
    rcases cnd_cases (show cnd (Nat.beq x t) true (memL t l) = true from h) with ⟨h, _⟩ | ⟨_, h⟩
    · rw [Nat.eq_of_beq_eq_true h]; exact List.mem_cons_self ..
    · exact List.mem_cons_of_mem _ (memL_mem h)
theorem onStr_none {β : Type} {x : V} {f : Nat → Nat → Option β} {r : β} (h : x.onStr f none = some r) : ∃ n b, x = .str n b ∧ f n b = some r := by
  rcases onStr_some h with h | ⟨_, h⟩
  · exact h
  · cases h
theorem sarr_beq {n b m d : Nat} (h1 : b < 256 ^ n) (h2 : d < 256 ^ m) : (sarr n b == sarr m d) = seq n b m d := by
  rw [seq_eq h1 h2, Bool.eq_iff_iff, MapKept.bytes_beq, decide_eq_true_iff]
  constructor
  · intro h
    have := congrArg (fun x : ByteArray => x.data.toList) h
    exact this
  · intro h
    show (⟨(sbytes n b).toArray⟩ : ByteArray) = ⟨(sbytes m d).toArray⟩
    rw [h]
theorem eq_int {t : TypeId} {k : IntKind} (ht : P.underlying t = some (.int k)) {x y : V} {b : Bool} (h : eqInt x y = some b) (d : Nat) (e : Emb) (w : World) :
    (Op.equalIn (d + 1) t (rho e x) (rho e y)).run P w = .ok b w := by
  obtain ⟨k', m, n, rfl, rfl, rfl⟩ := eqInt_some h
  simp only [Op.equalIn, Sem.run_bind, run_underlying ht, Result.andThen_ok, rho]
  simp
theorem eq_ifc {t t1 : TypeId} {ms : Array (String × TypeId)} {it : TypeInfo} {v v2 : Value} {d : Nat} {b : Bool} {w : World} (ht : P.underlying t = some (.interface ms)) (hti : (typeInfo t1).run P w = .ok it w) (hc : it.comparable = true)
    (h : (Op.equalIn (d + 1) t1 v v2).run P w = .ok b w) : (Op.equalIn (d + 2) t (.iface t1 v) (.iface t1 v2)).run P w = .ok b w := by
  rw [Op.equalIn]
  simp only [Sem.run_bind, run_underlying ht, Result.andThen_ok]
  simp only [ne_eq, not_true, if_false, Sem.run_bind, hti, Result.andThen_ok, hc, Bool.not_true, Bool.false_eq_true]
  exact h
set_option maxHeartbeats 4000000 in
theorem eq1_spec {t : TypeId} {c : Nat} (hf : fieldB P t c = true) {x y : V} {b : Bool} (h : eq1 c x y = some b) (e : Emb) (hx : ok e x) (hy : ok e y) (d : Nat) (w : World) :
    (Op.equalIn (d + 1) t (rho e x) (rho e y)).run P w = .ok b w := by
  match c, hf, h with
  | 0, hf, h =>
    simp only [fieldB] at hf
    split at hf
    · rename_i ht; exact eq_int ht h d e w
    · cases hf
  | 1, hf, h =>
    simp only [fieldB] at hf
    split at hf
    · rename_i ht
      change x.onStr _ none = some b at h
      obtain ⟨n, b1, rfl, h1⟩ := onStr_none h
      obtain ⟨m, b2, rfl, h2⟩ := onStr_none h1
      injection h2 with h3
      subst h3
      simp only [Op.equalIn, Sem.run_bind, run_underlying ht, Result.andThen_ok, rho, sarr_beq hx hy, Sem.run_pure]
    · cases hf
  | c + 2, hf, h =>
    simp only [fieldB] at hf
    split at hf
    · rename_i ht
      change x.onBool _ none = some b at h
      obtain ⟨n, rfl, h4⟩ := onBool_some h
      obtain ⟨m, rfl, h5⟩ := onBool_some h4
      injection h5 with h6
      subst h6
      simp only [Op.equalIn, Sem.run_bind, run_underlying ht, Result.andThen_ok, rho, Sem.run_pure]
      cases n <;> cases m <;> rfl
    · cases hf
theorem field_agg {t : TypeId} {c : Nat} (hf : fieldB P t c = true) : aggB P t = some false ∧ ∃ n, sizeB P t = some n := by
  have key : ∀ d, P.underlying t = some d → (∀ fs, d ≠ .struct fs) → (∀ n e, d ≠ .array n e) → aggB P t = some false ∧ ∃ n, sizeB P t = some n := by
    intro d hd h1 h2
    refine ⟨?_, ?_⟩
    · unfold aggB
      rw [hd]
      cases d <;> first | rfl | exact (h1 _ rfl).elim | exact (h2 _ _ rfl).elim
    · unfold sizeB
      cases hi : P.info? t with
      | none => unfold Program.underlying at hd; rw [hi] at hd; cases hd
      | some i => exact ⟨_, rfl⟩
  match c, hf with
  | 0, hf =>
    simp only [fieldB] at hf
    split at hf
    · rename_i ht; exact key _ ht (fun _ e => by cases e) (fun _ _ e => by cases e)
    · cases hf
  | 1, hf =>
    simp only [fieldB] at hf
    split at hf
    · rename_i ht; exact key _ ht (fun _ e => by cases e) (fun _ _ e => by cases e)
    · cases hf
  | c + 2, hf =>
    simp only [fieldB] at hf
    split at hf
    · rename_i ht; exact key _ ht (fun _ e => by cases e) (fun _ _ e => by cases e)
    · cases hf
theorem eqCells_spec {e : Emb} {xs ys : List V} (hx : oks e xs) (hy : oks e ys) (hx1 : ∀ v ∈ xs, v.one = true) (hy1 : ∀ v ∈ ys, v.one = true) (d : Nat) (w : World) : ∀ {l : List Nat} {fs : List Field} {i : Nat} {b : Bool}, flatB P fs i l = true → eqCells l (xs.drop i) (ys.drop i) = some b →
    (Op.eqFields (d + 1) (rhos e xs).toArray (rhos e ys).toArray fs).run P w = .ok b w
  | [], [], i, b, _, h => by cases h; simp [Op.eqFields]
  | [], f :: fs, i, b, hf, _ => by simp [flatB] at hf
  | c :: l, [], i, b, hf, _ => by simp [flatB] at hf
  | c :: l, f :: fs, i, b, hf, h => by
    simp only [flatB, Bool.and_eq_true] at hf
    obtain ⟨f1, f2, f3, f4⟩ := hf
    have f2 := Nat.eq_of_beq_eq_true f2
    cases hxd : xs.drop i with
    | nil => rw [hxd] at h; cases h
    | cons x r =>
      cases hyd : ys.drop i with
      | nil => rw [hxd, hyd] at h; cases h
      | cons y r' =>
        rw [hxd, hyd] at h
        have hxi : xs[i]? = some x := by
          have := congrArg (·[0]?) hxd
          simpa [List.getElem?_drop] using this
        have hyi : ys[i]? = some y := by
          have := congrArg (·[0]?) hyd
          simpa [List.getElem?_drop] using this
        have hxr : xs.drop (i + 1) = r := by rw [← List.tail_drop, hxd]; rfl
        have hyr : ys.drop (i + 1) = r' := by rw [← List.tail_drop, hyd]; rfl
        have h : Option.rec none (fun t => cnd t (eqCells l r r') (some false)) (eq1 c x y) = some b := h
        obtain ⟨g1, n, g2⟩ := field_agg f3
        have px := part_spec (P := P) hx hx1 g1 g2 (fun z => by cases z) (off := i) (fun _ => by rw [hxi]; rfl) w
        have py := part_spec (P := P) hy hy1 g1 g2 (fun z => by cases z) (off := i) (fun _ => by rw [hyi]; rfl) w
        have ex : partV (cnd false n 0) i xs = x := by rw [partV, cnd_false, if_pos rfl, hxi]; rfl
        have ey : partV (cnd false n 0) i ys = y := by rw [partV, cnd_false, if_pos rfl, hyi]; rfl
        rw [ex] at px
        rw [ey] at py
        have hn : f.name ≠ "_" := by simpa using f1
        cases he : eq1 c x y with
        | none => rw [he] at h; cases h
        | some t =>
          rw [he] at h
          have hq := eq1_spec f3 he e px.2 py.2 d w
          rw [Op.eqFields]
          simp only [if_pos hn, f2, Sem.run_bind, px.1, py.1, hq, Result.andThen_ok]
          rcases cnd_cases (show cnd t (eqCells l r r') (some false) = some b from h) with ⟨rfl, h1⟩ | ⟨rfl, h1⟩
          · have := eqCells_spec hx hy hx1 hy1 d w (i := i + 1) f4 (by rw [hxr, hyr]; exact h1)
            simpa using this
          · cases h1
            simp
set_option maxHeartbeats 2000000 in
theorem eq_spec {t : TypeId} {q : EqT} (hq : eqB P t q = true) {x y : V} {b : Bool} (h : eqV q x y = some b) (e : Emb) (hx : ok e x) (hy : ok e y) (d : Nat) (w : World) :
    (Op.equalIn (d + 2) t (rho e x) (rho e y)).run P w = .ok b w := by
  cases q with
  | int =>
    simp only [eqB] at hq
    split at hq
    · rename_i ht; exact eq_int ht h (d + 1) e w
    · cases hq
  | str =>
    simp only [eqB] at hq
    split at hq
    · rename_i ht
      change x.onStr _ none = some b at h
      obtain ⟨n, b1, rfl, h1⟩ := onStr_none h
      obtain ⟨m, b2, rfl, h2⟩ := onStr_none h1
      injection h2 with h3
      subst h3
      simp only [Op.equalIn, Sem.run_bind, run_underlying ht, Result.andThen_ok, rho, sarr_beq hx hy, Sem.run_pure]
    · cases hq
  | bool =>
    simp only [eqB] at hq
    split at hq
    · rename_i ht
      change x.onBool _ none = some b at h
      obtain ⟨n, rfl, h4⟩ := onBool_some h
      obtain ⟨m, rfl, h5⟩ := onBool_some h4
      injection h5 with h6
      subst h6
      simp only [Op.equalIn, Sem.run_bind, run_underlying ht, Result.andThen_ok, rho, Sem.run_pure]
      cases n <;> cases m <;> rfl
    · cases hq
  | slc =>
    simp only [eqB] at hq
    split at hq
    · rename_i ht
      change x.onNils _ _ = some b at h
      rcases onNils_some h with ⟨rfl, h7⟩ | ⟨_, h7⟩
      · rcases onNils_some h7 with ⟨rfl, h8⟩ | ⟨_, h8⟩
        · injection h8 with h9; subst h9
          simp only [Op.equalIn, Sem.run_bind, run_underlying ht, Result.andThen_ok, rho, Sem.run_pure, Option.isNone_none, Option.isNone_some]
        · obtain ⟨h1, h10⟩ := cnd_none h8
          injection h10 with h11; subst h11
          obtain ⟨a, l, c', q⟩ := isSlc_rho h1 e
          simp only [Op.equalIn, Sem.run_bind, run_underlying ht, Result.andThen_ok, rho, Sem.run_pure, Option.isNone_none, Option.isNone_some, q]
      · obtain ⟨h1, h12⟩ := cnd_none h7
        rcases onNils_some h12 with ⟨rfl, h13⟩ | ⟨_, h13⟩
        · injection h13 with h14; subst h14
          obtain ⟨a, l, c', q⟩ := isSlc_rho h1 e
          simp only [Op.equalIn, Sem.run_bind, run_underlying ht, Result.andThen_ok, rho, Sem.run_pure, Option.isNone_none, Option.isNone_some, q]
        · cases h13
    · cases hq
  | mp =>
    simp only [eqB] at hq
    split at hq
    · rename_i ht
      change x.onNilm _ _ = some b at h
      rcases onNilm_some h with ⟨rfl, h15⟩ | ⟨_, h15⟩
      · rcases onNilm_some h15 with ⟨rfl, h16⟩ | ⟨_, h16⟩
        · injection h16 with h17; subst h17
          simp only [Op.equalIn, Sem.run_bind, run_underlying ht, Result.andThen_ok, rho, Sem.run_pure, Option.isNone_none, Option.isNone_some]
        · obtain ⟨h1, h18⟩ := cnd_none h16
          injection h18 with h19; subst h19
          obtain ⟨a, q⟩ := isMap_rho h1 e
          simp only [Op.equalIn, Sem.run_bind, run_underlying ht, Result.andThen_ok, rho, Sem.run_pure, Option.isNone_none, Option.isNone_some, q]
      · obtain ⟨h1, h20⟩ := cnd_none h15
        rcases onNilm_some h20 with ⟨rfl, h21⟩ | ⟨_, h21⟩
        · injection h21 with h22; subst h22
          obtain ⟨a, q⟩ := isMap_rho h1 e
          simp only [Op.equalIn, Sem.run_bind, run_underlying ht, Result.andThen_ok, rho, Sem.run_pure, Option.isNone_none, Option.isNone_some, q]
        · cases h21
    · cases hq
  | fn =>
    simp only [eqB] at hq
    split at hq
    · rename_i ht
      change x.onNilf _ _ = some b at h
      rcases onNilf_some h with ⟨rfl, h23⟩ | ⟨_, h23⟩
      · rcases onNilf_some h23 with ⟨rfl, h24⟩ | ⟨_, h24⟩
        · injection h24 with h25; subst h25
          simp only [Op.equalIn, Sem.run_bind, run_underlying ht, Result.andThen_ok, rho, Sem.run_pure, Option.isNone_none, Option.isNone_some]
        · obtain ⟨h1, h26⟩ := cnd_none h24
          injection h26 with h27; subst h27
          obtain ⟨a, _, _, q⟩ := isFn_rho h1 e
          simp only [Op.equalIn, Sem.run_bind, run_underlying ht, Result.andThen_ok, rho, Sem.run_pure, Option.isNone_none, Option.isNone_some, q]
      · obtain ⟨h1, h28⟩ := cnd_none h23
        rcases onNilf_some h28 with ⟨rfl, h29⟩ | ⟨_, h29⟩
        · injection h29 with h30; subst h30
          obtain ⟨a, _, _, q⟩ := isFn_rho h1 e
          simp only [Op.equalIn, Sem.run_bind, run_underlying ht, Result.andThen_ok, rho, Sem.run_pure, Option.isNone_none, Option.isNone_some, q]
        · cases h29
    · cases hq
  | ptr =>
    simp only [eqB] at hq
    split at hq
    · rename_i el ht
      split at hq
      · rename_i n hn
        change x.onPtr _ _ = some b at h
        rcases onPtr_cases h with ⟨a, i, rfl, h31⟩ | ⟨_, h31⟩
        · rcases onPtr_cases h31 with ⟨a', j, rfl, h32⟩ | ⟨_, h32⟩
          · obtain ⟨h1, h33⟩ := cnd_none h32
            injection h33 with h34; subst h34
            obtain rfl := Nat.eq_of_beq_eq_true h1
            have hs : (sizeOf el).run P w = .ok (n + 1) w := run_sizeB hn w
            simp only [Op.equalIn, Sem.run_bind, run_underlying ht, Result.andThen_ok, rho, hs, sameAddr]
            simp
            rw [Bool.eq_iff_iff, beq_iff_eq, Nat.beq_eq, Addr.mk.injEq]
            simp
          · obtain ⟨rfl, h35⟩ := onNilp_some h32
            injection h35 with h36; subst h36
            simp only [Op.equalIn, Sem.run_bind, run_underlying ht, Result.andThen_ok, rho, Sem.run_pure, Option.isNone_none, Option.isNone_some]
        · obtain ⟨rfl, h37⟩ := onNilp_some h31
          rcases onPtr_cases h37 with ⟨a', j, rfl, h38⟩ | ⟨_, h38⟩
          · injection h38 with h39; subst h39
            simp only [Op.equalIn, Sem.run_bind, run_underlying ht, Result.andThen_ok, rho, Sem.run_pure, Option.isNone_none, Option.isNone_some]
          · obtain ⟨rfl, h40⟩ := onNilp_some h38
            injection h40 with h41; subst h41
            simp only [Op.equalIn, Sem.run_bind, run_underlying ht, Result.andThen_ok, rho, Sem.run_pure, Option.isNone_none, Option.isNone_some]
      · cases hq
    · cases hq
  | st l =>
    simp only [eqB] at hq
    split at hq
    · rename_i fs ht
      simp only [Bool.and_eq_true, Bool.not_eq_true'] at hq
      obtain ⟨q1, q2, q3⟩ := hq
      change x.onAgg _ none = some b at h
      obtain ⟨a, rfl, h1⟩ := onAgg_some h
      obtain ⟨a', rfl, h2⟩ := onAgg_some h1
      have hf : P.fieldsOf t = fs := by simp [Program.fieldsOf, ht]
      simp only [rho]
      rw [run_equalIn_struct (P := P) w (d + 1) t _ _ (by rw [hf]; exact ht) q1, hf]
      exact eqCells_spec hx.1 hy.1 hx.2 hy.2 d w q3 h2
    · cases hq
  | ifc g l =>
    simp only [eqB, Bool.and_eq_true] at hq
    obtain ⟨hq, hl⟩ := hq
    split at hq
    · rename_i ms ht
      change x.onIfc _ _ = some b at h
      rcases onIfc_cases h with ⟨t1, v, rfl, h42⟩ | ⟨_, h42⟩
      · rcases onIfc_cases h42 with ⟨t2, v2, rfl, h43⟩ | ⟨_, h43⟩
        · rcases cnd_cases h43 with ⟨h1, h44⟩ | ⟨h1, h44⟩
          · obtain rfl := Nat.eq_of_beq_eq_true h1
            obtain ⟨h2, h45⟩ := cnd_none h44
            have := List.all_eq_true.1 hl t1 (memL_mem h2)
            rw [Bool.and_eq_true] at this
            obtain ⟨g1, g2⟩ := this
            split at g1
            · rename_i k hk
              split at g2
              · rename_i it hit
                have hti : (typeInfo t1).run P w = .ok it w := by simp [typeInfo, program, hit, Sem.run]
                exact eq_ifc ht hti g2 (eq_int hk h45 d e w)
              · cases g2
            · cases g1
          · injection h44 with h46; subst h46
            have : t1 ≠ t2 := fun x => by subst x; rw [Nat.beq_refl] at h1; cases h1
            simp only [Op.equalIn, Sem.run_bind, run_underlying ht, Result.andThen_ok, rho, Sem.run_pure, if_pos this, ne_eq]
        · rcases onNili_some h43 with ⟨rfl, h47⟩ | ⟨_, h47⟩
          · injection h47 with h48; subst h48
            simp only [Op.equalIn, Sem.run_bind, run_underlying ht, Result.andThen_ok, rho, Sem.run_pure, Option.isNone_none, Option.isNone_some]
          · cases h47
      · rcases onNili_some h42 with ⟨rfl, h49⟩ | ⟨_, h49⟩
        · rcases onIfc_cases h49 with ⟨t2, v2, rfl, h50⟩ | ⟨_, h50⟩
          · injection h50 with h51; subst h51
            simp only [Op.equalIn, Sem.run_bind, run_underlying ht, Result.andThen_ok, rho, Sem.run_pure, Option.isNone_none, Option.isNone_some]
          · rcases onNili_some h50 with ⟨rfl, h52⟩ | ⟨_, h52⟩
            · obtain ⟨_, h53⟩ := cnd_none h52
              injection h53 with h54; subst h54
              simp only [Op.equalIn, Sem.run_bind, run_underlying ht, Result.andThen_ok, rho, Sem.run_pure, Option.isNone_none, Option.isNone_some]
            · cases h52
        · cases h49
    · cases hq
end Go.Kev
/- Kev: maps; equality as an operation; strings to bytes, runes to strings; addresses as numbers and back. -/
namespace Go.Kev
open Go.RowKit
variable {c : Ctx} {P : Program} {o : Oper} {env : Env} {s : S} {lb : Nat}
def keyB (P : Program) (t : TypeId) : EqT → Bool
  | .int => match P.underlying t with | some (.int _) => true | _ => false
  | .str => match P.underlying t with | some .string => true | _ => false
  | _ => false
theorem keyB_spec {t : TypeId} {q : EqT} (h : keyB P t q = true) : (∃ k, q = .int ∧ P.underlying t = some (.int k)) ∨ (q = .str ∧ P.underlying t = some .string) := by
  cases q <;> simp only [keyB] at h
  · split at h
    · rename_i k hk; exact .inl ⟨k, rfl, hk⟩
    · cases h
  · split at h
    · rename_i hk; exact .inr ⟨rfl, hk⟩
    · cases h
  all_goals cases h
theorem onMap2_some {β : Type} {id : Nat} {f : List (V × V) → Option β} {r : β} (h : onMap s id f none = some r) : ∃ es, hp s id = some (.map es) ∧ f es = some r := by
  unfold onMap at h
  unfold hp
  cases hg : s.heap.get id with
  | none => rw [hg] at h; cases h
  | some ob =>
    rw [hg] at h
    cases ob with
    | row row => cases h
    | map es => exact ⟨es, rfl, h⟩
    | sit n b p => cases h
theorem sameNow_spec {t : TypeId} {q : EqT} (hq : keyB P t q = true) {x y : V} {b : Bool} (h : eqV q x y = some b) (e : Emb) (hx : ok e x) (hy : ok e y) :
    ∃ d, P.underlying t = some d ∧ Instr.sameNow d (rho e x) (rho e y) = some b := by
  rcases keyB_spec hq with ⟨k, rfl, ht⟩ | ⟨rfl, ht⟩
  · obtain ⟨k', m, n, rfl, rfl, rfl⟩ := eqInt_some h
    exact ⟨_, ht, by simp [Instr.sameNow, rho]⟩
  · change x.onStr _ none = some b at h
    obtain ⟨n, b1, rfl, h1⟩ := onStr_none h
    obtain ⟨m, b2, rfl, h2⟩ := onStr_none h1
    injection h2 with h3
    subst h3
    exact ⟨_, ht, by simp only [Instr.sameNow, rho, sarr_beq hx hy]⟩
theorem findKey_some {t : TypeId} {d : TypeDesc} {q : EqT} (hq : keyB P t q = true) (hd : P.underlying t = some d) {key : V} {r : Env × S} : ∀ {es : List (V × V)} {k : Option V → R}, findKey q key es k = some r →
    ∃ o, k o = some r ∧ (∀ v, o = some v → ∃ x ∈ es, x.2 = v) ∧ ∀ (e : Emb) (ents : List MapEntry) (i : Nat), ents.map (fun x => (x.key, x.val)) = es.map (fun x => (rho e x.1, rho e x.2)) → ok e key → (∀ x ∈ es, ok e x.1) →
      match o with
      | none => Instr.findNow d (rho e key) ents i = some none
      | some v => ∃ j, Instr.findNow d (rho e key) ents i = some (some (j, rho e v))
  | [], k, h => ⟨none, h, (fun v hv => by cases hv), fun e ents i he _ _ => by
      cases ents with
      | nil => rfl
      | cons a l => cases he⟩
  | x :: es, k, h => by
    have h : Option.rec none (fun b => cnd b (k (some x.2)) (findKey q key es k)) (eqV q key x.1) = some r := h
    cases hb : eqV q key x.1 with
    | none => rw [hb] at h; cases h
    | some b =>
      rw [hb] at h
      have same : ∀ (e : Emb), ok e key → ok e x.1 → Instr.sameNow d (rho e key) (rho e x.1) = some b := fun e h1 h2 => by
        obtain ⟨d', g1, g2⟩ := sameNow_spec hq hb e h1 h2
        rw [hd] at g1
        cases g1
        exact g2
      rcases cnd_cases (show cnd b (k (some x.2)) (findKey q key es k) = some r from h) with ⟨rfl, h1⟩ | ⟨rfl, h1⟩
      · refine ⟨some x.2, h1, fun v hv => by cases hv; exact ⟨x, List.mem_cons_self .., rfl⟩, fun e ents i he hk ho => ?_⟩
        cases ents with
        | nil => cases he
        | cons a l =>
          simp only [List.map_cons, List.cons.injEq, Prod.mk.injEq] at he
          exact ⟨i, by simp only [Instr.findNow, he.1.1, same e hk (ho x (List.mem_cons_self ..)), he.1.2]⟩
      · obtain ⟨o, g1, g2, g3⟩ := findKey_some hq hd h1
        refine ⟨o, g1, fun v hv => by obtain ⟨y, hy, hv⟩ := g2 v hv; exact ⟨y, List.mem_cons_of_mem _ hy, hv⟩, fun e ents i he hk ho => ?_⟩
        cases ents with
        | nil => cases he
        | cons a l =>
          simp only [List.map_cons, List.cons.injEq, Prod.mk.injEq] at he
          have := g3 e l (i + 1) he.2 hk (fun y hy => ho y (List.mem_cons_of_mem _ hy))
          have hs := same e hk (ho x (List.mem_cons_self ..))
          cases o with
          | none => simp only [Instr.findNow, he.1.1, hs]; exact this
          | some v => obtain ⟨j, hj⟩ := this; exact ⟨j, by simp only [Instr.findNow, he.1.1, hs]; exact hj⟩
theorem run_checkKey2 {t : TypeId} {q : EqT} (hq : keyB P t q = true) (v : Value) (b : Bool) (n : Nat) (w : World) : (Instr.checkKey b (n + 1) t v).run P w = .ok () w := by
  rcases keyB_spec hq with ⟨k, _, ht⟩ | ⟨_, ht⟩ <;>
  · unfold Instr.checkKey
    simp only [Sem.run_bind, run_underlying ht, Result.andThen_ok]
    cases v <;> rfl
theorem s_lenMap {t kt vt : TypeId} {x : Operand} {y : O} (ho : o.op = .call ⟨.builtin .len, #[x], #[t]⟩) (ht : P.underlying t = some (.map kt vt)) (hx : compO c.nG x = some y) : Sound c P o (opLenMap y) := by
  intro call lb env s k r hc hl hf h
  obtain ⟨id, hb, h⟩ := onMap_some h
  obtain ⟨es, hes, h⟩ := onMap2_some h
  obtain ⟨l, L⟩ := op_read (c := c) (P := P) (o := o) (env := env) (lb := lb) (v := goI (lenL es)) hes fun e w a hob hd hops => by
    have hv := hops x (by simp [ho, Op.operands, Call.operands]) y hx
    obtain ⟨ents, clock, h1, h2, h3⟩ := hob
    obtain ⟨cs, hcs⟩ := run_builtin (P := P) ho a
    have hlen : ents.size = es.length := by
      have := congrArg List.length h2
      simpa using this
    refine ⟨.inl ?_, trivial⟩
    rw [hcs]
    rw [hb] at hv
    simp only [rho] at hv
    simp only [builtin, List.map_toArray, List.map_cons, List.map_nil, hv.1, Sem.run_bind]
    simp [Builtin.len_, run_underlying ht, MapKept.run_getObj_map h1, rho, goI, hlen, lenL_eq, goInt]
  exact ⟨_, _, _, h, L⟩
theorem s_lookup {t kt vt : TypeId} {q : EqT} {cok : Bool} {it : TypeInfo} {z : Value} {zv : V} {x1 x2 : Operand} {y1 y2 : O} (ho : o.op = .lookup t x1 x2 cok) (ht : P.underlying t = some (.map kt vt)) (hq : keyB P kt q = true)
    (hi : P.info? vt = some it) (hz : it.zero = some z) (hv : valA z = some zv) (h1 : compO c.nG x1 = some y1) (h2 : compO c.nG x2 = some y2) : Sound c P o (opLookup q cok zv y1 y2) := by
  intro call lb env s k r hc hl hf h
  obtain ⟨id, hb, h⟩ := onMap_some h
  obtain ⟨es, hes, h⟩ := onMap2_some h
  obtain ⟨d, hd⟩ : ∃ d, P.underlying kt = some d := by
    rcases keyB_spec hq with ⟨k, _, ht⟩ | ⟨_, ht⟩ <;> exact ⟨_, ht⟩
  obtain ⟨ov, h, hm, hfind⟩ := findKey_some hq hd h
  have run : ∀ {v : V}, (∀ (e : Emb) (w : World) (ents : List MapEntry) , (∀ x ∈ es, ok e x.1 ∧ ok e x.2) → ok e (y2.ev env) → ents.map (fun x => (x.key, x.val)) = es.map (fun x => (rho e x.1, rho e x.2)) →
      ok e v ∧ ∃ (a : Option (Nat × Value)) (u : Value × Bool), Instr.findNow d (rho e (y2.ev env)) ents 0 = some a ∧ (match a with | some (_, v) => u = (v, true) | none => u = (z, false)) ∧ rho e v = (if cok then .tuple #[u.1, .bool u.2] else u.1)) →
      ∃ l, Loc c lb s (touch lb id 0 s) l (opAct P c.nG o env v) := fun {v} hvv =>
    op_read (c := c) (P := P) (o := o) (env := env) (lb := lb) (v := v) hes fun e w a hob hdd hops => by
      have v1 := hops x1 (by simp [ho, Op.operands]) y1 h1
      have v2 := hops x2 (by simp [ho, Op.operands]) y2 h2
      obtain ⟨ents, clock, g1, g2, g3⟩ := hob
      obtain ⟨hov, fa, u, f1, f2, f3⟩ := hvv e w ents.toList g3 v2.2 g2
      refine ⟨.inl ?_, hov⟩
      rw [hb] at v1
      simp only [rho] at v1
      have hzr : (zeroValue vt).run P w = .ok z w := by simp [zeroValue, typeInfo, program, Sem.run, hi, hz]
      have fk := MapKept.run_findKey (P := P) (w := w) (kt := kt) hd f1
      simp only [execOp, ho, v1.1, v2.1, Instr.lookup, Sem.run_bind, run_underlying ht, Result.andThen_ok, MapKept.run_getObj_map g1, Sem.run_pure, run_checkKey2 hq, fk]
      rw [f3]
      cases fa with
      | none => subst f2; simp only [Sem.run_bind, hzr, Result.andThen_ok, Sem.run_pure]
      | some p => obtain ⟨i, pv⟩ := p; subst f2; simp only [Sem.run_bind, Sem.run_pure, Result.andThen_ok]
  cases ov with
  | none =>
    obtain ⟨l, L⟩ := run (v := cnd cok (.tup [zv, .bool false]) zv) fun e w ents ho hk he => by
      have hz2 := valA_spec hv e
      refine ⟨?_, none, (z, false), hfind e ents 0 he hk (fun x hx => (ho x hx).1), rfl, ?_⟩
      · cases cok
        · exact hz2.2
        · exact ⟨hz2.2, trivial, trivial⟩
      · cases cok
        · exact hz2.1
        · show Value.tuple _ = _
          simp only [rhos, hz2.1, rho, if_true]
    exact ⟨_, _, _, h, L⟩
  | some vv =>
    obtain ⟨l, L⟩ := run (v := cnd cok (.tup [vv, .bool true]) vv) fun e w ents ho hk he => by
      obtain ⟨x, hx, hxv⟩ := hm vv rfl
      have hz2 : ok e vv := by rw [← hxv]; exact (ho x hx).2
      obtain ⟨j, hj⟩ := hfind e ents 0 he hk (fun x hx => (ho x hx).1)
      refine ⟨?_, some (j, rho e vv), (rho e vv, true), hj, rfl, ?_⟩
      · cases cok
        · exact hz2
        · exact ⟨hz2, trivial, trivial⟩
      · cases cok
        · rfl
        · rfl
    exact ⟨_, _, _, h, L⟩
theorem appL_app {α : Type} (a b : List α) : appL a b = a ++ b := by
  induction a with
  | nil => rfl
  | cons x l ih => show x :: appL l b = _; rw [ih]; rfl
theorem sameKey {q : EqT} {t : TypeId} (hq : keyB P t q = true) {x y : V} (h : eqV q x y = some true) (e : Emb) (hx : ok e x) (hy : ok e y) : rho e x = rho e y ∧ ∀ n, Instr.sameBits n (rho e y) (rho e x) = true := by
  rcases keyB_spec hq with ⟨k, rfl, ht⟩ | ⟨rfl, ht⟩
  · obtain ⟨k', m, n, rfl, rfl, hb⟩ := eqInt_some h
    have : m = n := by simpa using hb.symm
    subst this
    refine ⟨rfl, fun n => ?_⟩
    cases n <;> simp [rho, Instr.sameBits]
  · change x.onStr _ none = some true at h
    obtain ⟨n, b1, rfl, h1⟩ := onStr_none h
    obtain ⟨m, b2, rfl, h2⟩ := onStr_none h1
    injection h2 with h3
    have hx : b1 < 256 ^ n := hx
    have hy : b2 < 256 ^ m := hy
    rw [seq_eq hx hy, decide_eq_true_iff] at h3
    have h4 : sarr n b1 = sarr m b2 := by
      show (⟨(sbytes n b1).toArray⟩ : ByteArray) = ⟨(sbytes m b2).toArray⟩
      rw [h3]
    have h5 : (sarr m b2 == sarr m b2) = true := by rw [sarr_beq hy hy, seq_eq hy hy, decide_eq_true_iff]
    refine ⟨by simp only [rho, h4], fun z => ?_⟩
    cases z <;> simp [rho, h4, Instr.sameBits, h5]
theorem updL_some {t : TypeId} {d : TypeDesc} {q : EqT} (hq : keyB P t q = true) (hd : P.underlying t = some d) {key v : V} {r : Env × S} : ∀ {es : List (V × V)} {k : List (V × V) → R}, updL q key v es k = some r →
    ∃ j x, es[j]? = some x ∧ eqV q key x.1 = some true ∧ k (es.set j (x.1, v)) = some r ∧ ∀ (e : Emb) (ents : List MapEntry) (i : Nat), ents.map (fun x => (x.key, x.val)) = es.map (fun x => (rho e x.1, rho e x.2)) → ok e key → (∀ x ∈ es, ok e x.1) →
      Instr.findNow d (rho e key) ents i = some (some (i + j, rho e x.2))
  | [], k, h => by cases h
  | x :: es, k, h => by
    have h : Option.rec none (fun b => cnd b (k ((x.1, v) :: es)) (updL q key v es fun l => k (x :: l))) (eqV q key x.1) = some r := h
    cases hb : eqV q key x.1 with
    | none => rw [hb] at h; cases h
    | some b =>
      rw [hb] at h
      have same : ∀ (e : Emb), ok e key → ok e x.1 → Instr.sameNow d (rho e key) (rho e x.1) = some b := fun e h1 h2 => by
        obtain ⟨d', g1, g2⟩ := sameNow_spec hq hb e h1 h2
        rw [hd] at g1
        cases g1
        exact g2
      rcases cnd_cases (show cnd b (k ((x.1, v) :: es)) (updL q key v es fun l => k (x :: l)) = some r from h) with ⟨rfl, h1⟩ | ⟨rfl, h1⟩
      · refine ⟨0, x, rfl, hb, h1, fun e ents i he hk ho => ?_⟩
        cases ents with
        | nil => cases he
        | cons a l =>
          simp only [List.map_cons, List.cons.injEq, Prod.mk.injEq] at he
          simp only [Instr.findNow, he.1.1, same e hk (ho x (List.mem_cons_self ..)), he.1.2, Nat.add_zero]
      · obtain ⟨j, y, g1, g2, g3, g4⟩ := updL_some hq hd h1
        refine ⟨j + 1, y, g1, g2, g3, fun e ents i he hk ho => ?_⟩
        cases ents with
        | nil => cases he
        | cons a l =>
          simp only [List.map_cons, List.cons.injEq, Prod.mk.injEq] at he
          have := g4 e l (i + 1) he.2 hk (fun y hy => ho y (List.mem_cons_of_mem _ hy))
          have hs := same e hk (ho x (List.mem_cons_self ..))
          simp only [Instr.findNow, he.1.1, hs]
          rw [this, show i + 1 + j = i + (j + 1) by omega]
theorem s_insert {t kt vt : TypeId} {q : EqT} {x1 x2 x3 : Operand} {y1 y2 y3 : O} (ho : o.op = .insert t x1 x2 x3 ∨ o.op = .mapUpdate t x1 x2 x3) (ht : P.underlying t = some (.map kt vt)) (hq : keyB P kt q = true)
    (h1 : compO c.nG x1 = some y1) (h2 : compO c.nG x2 = some y2) (h3 : compO c.nG x3 = some y3) : Sound c P o (opInsert q y1 y2 y3) := by
  intro call lb env s k r hc hl hf h
  obtain ⟨id, hb, h⟩ := onMap_some h
  obtain ⟨es, hes, h⟩ := onMap2_some h
  obtain ⟨d, hd⟩ : ∃ d, P.underlying kt = some d := by
    rcases keyB_spec hq with ⟨k, _, ht⟩ | ⟨_, ht⟩ <;> exact ⟨_, ht⟩
  obtain ⟨ov, h, hm, hfind⟩ := findKey_some hq hd h
  cases ov with
  | some v0 =>
    obtain ⟨j, x, hx0, hkx, hu, hfu⟩ := updL_some hq hd h
    obtain ⟨s', hk, n1, n2, n3⟩ := setOb_spec s id (.map (es.set j (x.1, y3.ev env)))
    have h' : k (.tup []) (touch lb id 1 s') = some r := (hk (fun s => k (.tup []) (touch lb id 1 s))).symm.trans hu
    obtain ⟨l, L⟩ := op_set (c := c) (P := P) (o := o) (env := env) (lb := lb) (v := .tup []) hf n1 n2 n3 hes rfl fun e w a hob hdd hops => by
      have v1 := hops x1 (by rcases ho with ho | ho <;> simp [ho, Op.operands]) y1 h1
      have v2 := hops x2 (by rcases ho with ho | ho <;> simp [ho, Op.operands]) y2 h2
      have v3 := hops x3 (by rcases ho with ho | ho <;> simp [ho, Op.operands]) y3 h3
      obtain ⟨ents, clock, g1, g2, g3⟩ := hob
      have hxm : x ∈ es := List.mem_of_getElem? hx0
      have ff := hfu e ents.toList 0 g2 v2.2 (fun x hx => (g3 x hx).1)
      rw [Nat.zero_add] at ff
      have fk := MapKept.run_findKey (P := P) (w := w) (kt := kt) hd ff
      obtain ⟨sk1, sk2⟩ := sameKey hq hkx e v2.2 (g3 x hxm).1
      have hej : ∃ en, ents[j]? = some en ∧ en.key = rho e x.1 := by
        have := congrArg (·[j]?) g2
        simp only [List.getElem?_map, hx0, Option.map_some] at this
        cases hen : ents.toList[j]? with
        | none => rw [hen] at this; cases this
        | some en =>
          rw [hen] at this
          simp only [Option.map_some, Option.some.injEq, Prod.mk.injEq] at this
          exact ⟨en, by simpa using hen, this.1⟩
      obtain ⟨en, hen, henk⟩ := hej
      rw [hb] at v1
      simp only [rho] at v1
      have hstay : (Instr.keyThatStays (((ents[j]?).map (·.key)).getD (rho e (y2.ev env))) (rho e (y2.ev env))).run P w = .ok (rho e (y2.ev env)) w := by
        rw [hen]
        simp only [Option.map_some, Option.getD_some, henk, Instr.keyThatStays, sk2]
        rfl
      let ents' := ents.modify j fun z => { z with key := rho e (y2.ev env), val := rho e (y3.ev env) }
      obtain ⟨w1, w2⟩ := MapKept.heap_set (o' := .map ents' clock) g1
      refine ⟨{ w with heap := w.heap.setIfInBounds (e.f id) (.map ents' clock) }, ⟨?_, fun j hj => w2 j hj, rfl, rfl, rfl⟩, ⟨_, _, w1, ?_, ?_⟩, .inr ⟨?_, rfl⟩, trivial⟩
      · simp
      · apply List.ext_getElem?
        intro i
        have hi := congrArg (·[i]?) g2
        simp only [List.getElem?_map] at hi ⊢
        rw [List.getElem?_set, Array.getElem?_toList, Array.getElem?_modify]
        rw [Array.getElem?_toList] at hi
        by_cases hij : j = i
        · subst hij
          have hlen : j < es.length := (List.getElem?_eq_some_iff.1 hx0).1
          rw [if_pos rfl, if_pos rfl, if_pos hlen, hen]
          simp [sk1]
        · rw [if_neg hij, if_neg hij]
          exact hi
      · intro z hz
        rcases List.mem_or_eq_of_mem_set hz with hz | hz
        · exact g3 z hz
        · subst hz; exact ⟨(g3 x hxm).1, v3.2⟩
      · have hset := MapKept.run_setObj_map (P := P) (.map ents' clock) g1
        rcases ho with ho | ho <;>
        simp only [execOp, ho, v1.1, v2.1, v3.1, Instr.mapUpdate, Sem.run_bind, run_underlying ht, Result.andThen_ok, MapKept.run_getObj_map g1, Sem.run_pure, run_checkKey2 hq, fk, hstay, hset, ents']
    exact ⟨_, _, _, h', L⟩
  | none =>
    obtain ⟨s', hk, n1, n2, n3⟩ := setOb_spec s id (.map (appL es [(y2.ev env, y3.ev env)]))
    have h' : k (.tup []) (touch lb id 1 s') = some r := (hk (fun s => k (.tup []) (touch lb id 1 s))).symm.trans h
    obtain ⟨l, L⟩ := op_set (c := c) (P := P) (o := o) (env := env) (lb := lb) (v := .tup []) hf n1 n2 n3 hes rfl fun e w a hob hdd hops => by
      have v1 := hops x1 (by rcases ho with ho | ho <;> simp [ho, Op.operands]) y1 h1
      have v2 := hops x2 (by rcases ho with ho | ho <;> simp [ho, Op.operands]) y2 h2
      have v3 := hops x3 (by rcases ho with ho | ho <;> simp [ho, Op.operands]) y3 h3
      obtain ⟨ents, clock, g1, g2, g3⟩ := hob
      have ff := hfind e ents.toList 0 g2 v2.2 (fun x hx => (g3 x hx).1)
      have fk := MapKept.run_findKey (P := P) (w := w) (kt := kt) hd ff
      rw [hb] at v1
      simp only [rho] at v1
      obtain ⟨w1, w2⟩ := MapKept.heap_set (o' := .map (ents.push { key := rho e (y2.ev env), val := rho e (y3.ev env), born := clock }) (clock + 1)) g1
      refine ⟨{ w with heap := w.heap.setIfInBounds (e.f id) (.map (ents.push { key := rho e (y2.ev env), val := rho e (y3.ev env), born := clock }) (clock + 1)) }, ⟨?_, fun j hj => w2 j hj, rfl, rfl, rfl⟩, ⟨_, _, w1, ?_, ?_⟩, .inr ⟨?_, rfl⟩, trivial⟩
      · simp
      · rw [appL_app]; simp [g2]
      · intro x hx
        rw [appL_app] at hx
        rcases List.mem_append.1 hx with hx | hx
        · exact g3 x hx
        · simp only [List.mem_singleton] at hx
          subst hx
          exact ⟨v2.2, v3.2⟩
      · have hset := MapKept.run_setObj_map (P := P) (.map (ents.push { key := rho e (y2.ev env), val := rho e (y3.ev env), born := clock }) (clock + 1)) g1
        rcases ho with ho | ho <;>
        simp only [execOp, ho, v1.1, v2.1, v3.1, Instr.mapUpdate, Sem.run_bind, run_underlying ht, Result.andThen_ok, MapKept.run_getObj_map g1, Sem.run_pure, run_checkKey2 hq, fk, hset]
    exact ⟨_, _, _, h', L⟩
def isC : Operand → Bool
  | .const _ => true
  | _ => false
def noMs (P : Program) (t : TypeId) : Bool := match P.underlying t with | some (.interface ms) => ms.isEmpty | _ => false
/-- is no operand's equality held up by the guard? -/
def guardB (P : Program) (t : TypeId) (x1 x2 : Operand) : EqT → Bool
  | .ifc g _ => !g || isC x1 || isC x2 || noMs P t
  | .int => false
  | .str => false
  | _ => true
theorem guardIn_nil {t : TypeId} (h : noMs P t = true) (d : Nat) (w : World) : (Op.eqGuardIn (d + 1) t .nilIface .nilIface).run P w = .ok false w := by
  unfold noMs at h
  split at h
  · rename_i ms hms
    rw [Op.eqGuardIn]
    simp only [Sem.run_bind, run_underlying hms, Result.andThen_ok, h, Bool.not_true, Sem.run_pure]
  · cases h
theorem guard_nil {op : BinOp} {t : TypeId} {x1 x2 : Operand} (h : (isC x1 || isC x2 || noMs P t) = true) (ho : op = .eql ∨ op = .neq) (w : World) : (eqGuard op t x1 x2 .nilIface .nilIface).run P w = .ok () w := by
  have hh : isC x1 = true ∨ isC x2 = true ∨ (isC x1 = false ∧ isC x2 = false ∧ noMs P t = true) := by
    revert h
    cases isC x1 <;> cases isC x2 <;> cases noMs P t <;> decide
  have hg := fun h => guardIn_nil (P := P) (t := t) h 9999 w
  rcases hh with hh | hh | ⟨g1, g2, g3⟩
  · cases x1 <;> first | (cases hh; done) | (rcases ho with rfl | rfl <;> rfl)
  · cases x2 <;> first | (cases hh; done) | (cases x1 <;> rcases ho with rfl | rfl <;> rfl)
  · have hg := hg g3
    cases x1 <;> first | (cases g1; done) | skip
    all_goals cases x2 <;> first | (cases g2; done) | skip
    all_goals
      rcases ho with rfl | rfl <;>
      · show (Sem.run P (Op.eqGuardIn Op.maxDepth t Value.nilIface Value.nilIface >>= fun b => if b = true then unsupported _ else pure ()) w) = _
        rw [Sem.run_bind, show (Op.eqGuardIn Op.maxDepth t .nilIface .nilIface).run P w = .ok false w from hg]
        rfl
theorem s_eq {b : BinOp} {t u : TypeId} {q : EqT} {x1 x2 : Operand} {y1 y2 : O} {neg : Bool} (ho : o.op = .binOp b t x1 x2 u) (hb : b = if neg then .neq else .eql) (hq : eqB P t q = true) (hg : guardB P t x1 x2 q = true)
    (h1 : compO c.nG x1 = some y1) (h2 : compO c.nG x2 = some y2) : Sound c P o (opEq neg q y1 y2) := by
  intro call lb env s k r hc hl hf h
  have h : Option.rec none (fun b => k (.bool (cnd neg (not b) b)) s) (eqV q (y1.ev env) (y2.ev env)) = some r := h
  cases he : eqV q (y1.ev env) (y2.ev env) with
  | none => rw [he] at h; cases h
  | some bb =>
    rw [he] at h
    refine ⟨_, _, _, h, op_pure fun e w a hops => ?_⟩
    have v1 := hops x1 (by simp [ho, Op.operands]) y1 h1
    have v2 := hops x2 (by simp [ho, Op.operands]) y2 h2
    have hr : (Op.equal t (rho e (y1.ev env)) (rho e (y2.ev env))).run P w = .ok bb w := eq_spec hq he e v1.2 v2.2 9998 w
    have hgd : (eqGuard b t x1 x2 (rho e (y1.ev env)) (rho e (y2.ev env))).run P w = .ok () w ∧ (binOp b t (rho e (y1.ev env)) (rho e (y2.ev env))).run P w = .ok (.bool (if neg then !bb else bb)) w := by
      generalize y1.ev env = x at he hr
      generalize y2.ev env = y at he hr
      clear h
      have hbb : b = .eql ∨ b = .neq := by cases neg <;> simp at hb <;> simp [hb]
      have fin : ∀ {X Y : Value}, (Op.equal t X Y).run P w = .ok bb w → (∀ op, op = .eql ∨ op = .neq → binOp op t X Y = if op = .neq then (do pure (.bool (!(← Op.equal t X Y)))) else (do pure (.bool (← Op.equal t X Y)))) →
          (binOp b t X Y).run P w = .ok (.bool (if neg then !bb else bb)) w := by
        intro X Y hXY hh
        rw [hh b hbb, hb]
        cases neg
        · simp [Sem.run_bind, hXY]
        · simp [Sem.run_bind, hXY]
      have triv : ∀ {X Y : Value}, (∀ op, op = .eql ∨ op = .neq → eqGuard op t x1 x2 X Y = pure ()) → (eqGuard b t x1 x2 X Y).run P w = .ok () w := fun h => by rw [h b hbb]; rfl
      cases x with
      | nili =>
        refine ⟨?_, fin hr (fun op h => by rcases h with rfl | rfl <;> rfl)⟩
        cases y with
        | nili =>
          cases q <;> first | (cases he; done) | skip
          rename_i g l
          cases g
          · cases he
          · exact guard_nil hg hbb w
        | _ => exact triv (fun op h => by rcases h with rfl | rfl <;> rfl)
      | agg xs =>
        cases q with
        | st l =>
          have he1 : y.onAgg (fun b => eqCells l xs b) none = some bb := he
          obtain ⟨ys, rfl, _⟩ := onAgg_some he1
          refine ⟨?_, fin hr (fun op h => by rcases h with rfl | rfl <;> rfl)⟩
          simp only [eqB] at hq
          split at hq
          · simp only [Bool.and_eq_true, Bool.not_eq_true'] at hq
            exact run_eqGuard_agg (P := P) (w := w) b t x1 x2 _ _ hq.2.1
          · cases hq
        | _ => exfalso; first | (cases hg; done) | (cases he; done)
      | _ =>
        first
        | (exfalso; cases q <;> first | (cases hg; done) | (cases he; done))
        | exact ⟨triv (fun op h => by rcases h with rfl | rfl <;> rfl), fin hr (fun op h => by rcases h with rfl | rfl <;> rfl)⟩
    refine ⟨.inl ?_, trivial⟩
    simp only [execOp, ho, v1.1, v2.1, Sem.run_bind, hgd.1, hgd.2, Result.andThen_ok, Sem.run_pure, rho]
    cases neg <;> rfl
end Go.Kev
/- Kev: strings to bytes, runes to strings; addresses that forget their type. -/
namespace Go.Kev
open Go.RowKit
variable {c : Ctx} {P : Program} {o : Oper} {env : Env} {s : S} {lb : Nat}
theorem s_convSB {t u el : TypeId} {x : Operand} {y : O} (ho : o.op = .convert t u x) (ht : P.underlying t = some .string) (hu : P.underlying u = some (.slice el)) (hel : P.underlying el = some (.int .u8)) (hx : compO c.nG x = some y) :
    Sound c P o (opConvSB el y) := by
  intro call lb env s k r hc hl hf h
  rcases onStr_some h with ⟨n, b, hb, h⟩ | ⟨_, h⟩
  · obtain ⟨hn, h⟩ := cnd_none h
    rw [Nat.ble_eq] at hn
    obtain ⟨s', hk, n1, n2, n3⟩ := newOb_spec s (.row ⟨bytesT n b, n, false, 1, el, n, 18446744073709551616, false⟩)
    have h' : k (.slc s.nx 0 n n false) s' = some r := (hk (fun id s => k (.slc id 0 n n false) s)).symm.trans h
    refine ⟨_, _, _, h', op_new hl n1 n2 n3 fun e w a hnew hops => ?_⟩
    have hv := hops x (by simp [ho, Op.operands]) y hx
    rw [hb] at hv
    have hsz := sarr_size n b
    have hrun := run_bytes_of_string (P := P) w t u el (sarr n b) ht hu hel
    rw [hsz] at hrun
    have hg := grownCap_ge w n 0 el
    have hg2 := grownCap_le_maxLen w n 0 el (by simp only [maxLen]; omega)
    simp only [maxLen] at hg2
    generalize grownCap w n 0 el = cap at *
    have hbs : (bytesRow (sarr n b) cap).size = cap := by
      simp only [bytesRow, Array.size_append, Array.size_map, Array.size_replicate]
      show (sarr n b).size + (cap - (sarr n b).size) = cap
      rw [hsz]; omega
    rw [hbs] at hrun
    refine ⟨w.drew.alloc (.cells (bytesRow (sarr n b) cap) el (cap, cap + 1)), .cells (bytesRow (sarr n b) cap) el (cap, cap + 1), cap, 1, ⟨0, 0, none⟩, 0, drew_alloc_pushed _ _, ?_, .inl ?_, ?_⟩
    · have hbt := bytesT_spec n b (e.put s.nx w.heap.size 0 cap 1 ⟨0, 0, none⟩ 0)
      have hlen : (bytesT n b).length = n := by
        have := congrArg List.length hbt.1
        rw [rhos_len, List.length_map, sbytes_length] at this
        exact this
      refine ⟨Emb.put_sz _ _ _ _ _ _ _ _, bytesRow (sarr n b) cap, cap, cap + 1, ?_, ⟨Nat.le_of_eq hlen, Nat.le_succ _⟩, (fun x => by cases x), fun _ => ⟨Nat.one_pos, ?_, ?_⟩, fun i v hi => ?_, fun j h1 h2 => ?_⟩
      · rw [Emb.put_f]; exact (drew_alloc_pushed w _).at
      · rw [hbs, Emb.put_b, Emb.put_M]; show cap = 0 + cap * 1; omega
      · rw [Emb.put_M]; show n ≤ cap * 1; omega
      · have hi' : (bytesT n b)[i]? = some v := hi
        have hlt : i < n := by have := (List.getElem?_eq_some_iff.1 hi').1; omega
        have hq := cells_toArray hbt.2.1 hbt.2.2.1 i v hi'
        refine ⟨?_, hq.2⟩
        rw [Emb.put_b, Nat.zero_add]
        have q1 := hq.1
        rw [hbt.1] at q1
        unfold bytesRow
        rw [Array.getElem?_append_left (by rw [Array.size_map]; show i < (sarr n b).size; omega)]
        rw [← q1, Array.getElem?_map]
        show Option.map _ ((sbytes n b).toArray[i]?) = _
        simp
      · rw [Emb.put_b] at h1 h2
        show n ≤ j ∧ j < 18446744073709551616
        omega
    · simp only [execOp, ho, hv.1, rho, Sem.run_bind, hrun, Result.andThen_ok, Sem.run_pure, Emb.put_f, Emb.put_b, Emb.put_M, Emb.put_sz, Nat.zero_div, Nat.sub_zero, Bool.false_eq_true, if_false, Nat.add_zero]
    · refine ⟨Emb.put_D _ _ _ _ _ _ _ _, Nat.le_refl _, fun _ => ⟨Nat.zero_mod _, by rw [Emb.put_sz]; exact Nat.one_pos, ?_⟩⟩
      rw [Emb.put_M, Nat.zero_div, Nat.zero_add]
      exact hg
  · cases h
theorem s_convRS {t u : TypeId} {kd : IntKind} {x : Operand} {y : O} (ho : o.op = .convert t u x) (ht : P.underlying t = some (.int kd)) (hu : P.underlying u = some .string) (hx : compO c.nG x = some y) : Sound c P o (opConvRS y) := by
  intro call lb env s k r hc hl hf h
  obtain ⟨k', n, hb, h⟩ := onNat_some h
  obtain ⟨hn, h⟩ := cnd_none h
  rw [Nat.blt_eq] at hn
  refine ⟨_, _, _, h, op_pure fun e w a hops => ?_⟩
  have hv := hops x (by simp [ho, Op.operands]) y hx
  rw [hb] at hv
  refine ⟨.inl ?_, by show n < 256 ^ 1; omega⟩
  have henc : Utf8.encode (Int.ofNat n) = sarr 1 n := by
    have hval : Utf8.valid (Int.ofNat n) = true := by
      simp only [Utf8.valid]; simp; omega
    unfold Utf8.encode
    simp only [hval, if_true]
    have h1 : (Int.ofNat n).toNat = n := rfl
    rw [h1, if_pos (by omega)]
    show (⟨#[UInt8.ofNat n]⟩ : ByteArray) = ⟨(sbytes 1 n).toArray⟩
    have : sbytes 1 n = [UInt8.ofNat n] := by
      rw [sbytes_succ, sbytes_zero, Nat.mod_eq_of_lt (by omega)]
    rw [this]
  simp only [execOp, ho, hv.1, rho, Sem.run_bind, convert, run_underlying ht, run_underlying hu, Result.andThen_ok, Conv.intToString, henc, Sem.run_pure]
end Go.Kev
/- Kev: pointers without a type. -/
namespace Go.Kev
open Go.RowKit
variable {c : Ctx} {P : Program} {o : Oper} {env : Env} {s : S} {lb : Nat}
theorem s_convU {t u el : TypeId} {n : Nat} {x : Operand} {y : O} (ho : o.op = .convert t u x) (ht : P.underlying t = some (.pointer el)) (hu : P.underlying u = some .unsafePointer) (hs : sizeB P el = some (n + 1)) (hx : compO c.nG x = some y) :
    Sound c P o (opConvU y) := by
  intro call lb env s k r hc hl hf h
  obtain ⟨id, off, hb, h⟩ := onPtr_some h
  obtain ⟨row, hrow, h⟩ := onRow_some h
  obtain ⟨hlt, h⟩ := cnd_none h
  have hlt : off < row.len := by
    have : Nat.ble (off + 1) row.len = true := hlt
    rw [Nat.ble_eq] at this
    exact this
  obtain ⟨l, L⟩ := op_read (c := c) (P := P) (o := o) (env := env) (lb := lb) (v := .ptr id off) hrow fun e w a hob hd hops => by
    have hv := hops x (by simp [ho, Op.operands]) y hx
    rw [hb] at hv
    refine ⟨.inl ?_, hd⟩
    obtain ⟨h1, cs, p, q, h2, h3, h4, h5, h6, h7⟩ := hob
    have hsz : e.b id + off < cs.size := by
      cases hex : row.ex with
      | true => have := (h4 hex).2; omega
      | false => have := (h5 hex).2; omega
    cases hi : P.info? el with
    | none => unfold sizeB at hs; rw [hi] at hs; cases hs
    | some j =>
      unfold sizeB at hs
      rw [hi] at hs
      have hj : j.size = n + 1 := by simpa using hs
      have := Go.Lib.run_to_unsafe (P := P) w (src := t) (dst := u) ⟨e.f id, e.b id + off, none⟩ ht hu hi (by omega) (shape_of h2) hsz
      simp only [execOp, ho, hv.1, rho, Sem.run_bind, this, Result.andThen_ok, Sem.run_pure]
  exact ⟨_, _, _, h, L⟩
theorem s_convP {t u el : TypeId} {j : TypeInfo} {cv : List (Nat × Nat × Nat)} {x : Operand} {y : O} (ho : o.op = .convert t u x) (ht : P.underlying t = some .unsafePointer) (hu : P.underlying u = some (.pointer el)) (hi : P.info? el = some j)
    (hl : ∀ e ∈ cv, liesAt P P.depth e.1 (e.2.2 / P.cellsOf e.1) e.2.1 el 1 = true) (hx : compO c.nG x = some y) :
    Sound c P o (opConvP cv y) := by
  intro call lb env s k r hc hlb hf h
  obtain ⟨id, off, hb, h⟩ := onPtr_some h
  obtain ⟨row, hrow, h⟩ := onRow_some h
  obtain ⟨hq, h⟩ := cnd_none h
  rcases cnd_cases hq with ⟨hex, hany⟩ | ⟨_, hq⟩
  · rw [List.any_eq_true] at hany
    obtain ⟨⟨ty, of', ln⟩, hmem, hany⟩ := hany
    have hty : ty = row.ty ∧ of' = off ∧ ln = row.len := by
      rcases cnd_cases (show cnd (Nat.beq ty row.ty) (cnd (Nat.beq of' off) (Nat.beq ln row.len) false) false = true from hany) with ⟨g1, g⟩ | ⟨_, g⟩
      · rcases cnd_cases g with ⟨g2, g3⟩ | ⟨_, g3⟩
        · exact ⟨Nat.eq_of_beq_eq_true g1, Nat.eq_of_beq_eq_true g2, Nat.eq_of_beq_eq_true g3⟩
        · cases g3
      · cases g
    obtain ⟨rfl, rfl, rfl⟩ := hty
    obtain ⟨l, L⟩ := op_read (c := c) (P := P) (o := o) (env := env) (lb := lb) (v := .ptr id of') hrow fun e w a hob hd hops => by
      have hv := hops x (by simp [ho, Op.operands]) y hx
      rw [hb] at hv
      refine ⟨.inl ?_, hd⟩
      obtain ⟨h1, cs, p, q, h2, h3, h4, h5, h6, h7⟩ := hob
      obtain ⟨b0, hsz⟩ := h4 hex
      have hlies := hl _ hmem
      rw [b0, Nat.zero_add] at hsz
      have hlies : liesAt P P.depth row.ty (cs.size / P.cellsOf row.ty) (e.b id + of') el 1 = true := by rw [b0, Nat.zero_add, hsz]; exact hlies
      have := Go.Lib.run_from_unsafe (P := P) w (src := t) (dst := u) ⟨e.f id, e.b id + of', none⟩ ht hu hi (shape_of h2) hlies
      simp only [execOp, ho, hv.1, rho, Sem.run_bind, this, Result.andThen_ok, Sem.run_pure]
    exact ⟨_, _, _, h, L⟩
  · cases hq
end Go.Kev
/- Kev: ranging over a string. -/
namespace Go.Kev
open Go.RowKit
variable {c : Ctx} {P : Program} {o : Oper} {env : Env} {s : S} {lb : Nat}
theorem s_range {t : TypeId} {x : Operand} {y : O} (ho : o.op = .range t x) (ht : P.underlying t = some .string) (hx : compO c.nG x = some y) : Sound c P o (opRange y) := by
  intro call lb env s k r hc hl hf h
  rcases onStr_some h with ⟨n, b, hb, h⟩ | ⟨_, h⟩
  · obtain ⟨s', hk, n1, n2, n3⟩ := newOb_spec s (.sit n b 0)
    have h' : k (.ptr s.nx 0) s' = some r := (hk (fun id s => k (.ptr id 0) s)).symm.trans h
    refine ⟨_, _, _, h', op_new hl n1 n2 n3 fun e w a hnew hops => ?_⟩
    have hv := hops x (by simp [ho, Op.operands]) y hx
    rw [hb] at hv
    have hp : Pushed w (w.alloc (.stringIter (sarr n b) 0)) (.stringIter (sarr n b) 0) := ⟨rfl, rfl, rfl, rfl⟩
    refine ⟨w.alloc (.stringIter (sarr n b) 0), .stringIter (sarr n b) 0, 0, 0, ⟨0, 0, none⟩, 0, hp, ⟨?_, hv.2, ?_⟩, .inl ?_, ?_⟩
    · rw [Emb.put_f]; exact hp.at
    · rw [Emb.put_b]
    · have hr : (Instr.range t (.string (sarr n b))).run P w = .ok (.pointer (some ⟨w.heap.size, 0, none⟩)) (w.alloc (.stringIter (sarr n b) 0)) := by
        simp only [Instr.range, Sem.run_bind, run_underlying ht, Result.andThen_ok, Sem.run_pure]
        rfl
      simp only [execOp, ho, hv.1, rho, Sem.run_bind, hr, Result.andThen_ok, Sem.run_pure, Emb.put_f, Emb.put_b, Nat.add_zero]
    · exact Emb.put_D _ _ _ _ _ _ _ _
  · cases h
theorem onSit_some {β : Type} {id : Nat} {f : Nat → Nat → Nat → Option β} {r : β} (h : onSit s id f none = some r) : ∃ n b p, hp s id = some (.sit n b p) ∧ f n b p = some r := by
  unfold onSit at h
  unfold hp
  cases hg : s.heap.get id with
  | none => rw [hg] at h; cases h
  | some ob =>
    rw [hg] at h
    cases ob with
    | row row => cases h
    | map es => cases h
    | sit n b p => exact ⟨n, b, p, rfl, h⟩
theorem decode_ascii {n b pos : Nat} (hp : pos < n) (h8 : sget b pos < 128) : Utf8.decode (sarr n b) pos = (sget b pos, 1) := by
  have e1 : (sarr n b).get! (pos + 0) = UInt8.ofNat (sget b pos) := by
    show ((sbytes n b).toArray)[pos]! = _
    simp [sbytes, hp]
  have e2 : ((sarr n b).get! (pos + 0)).toNat = sget b pos := by
    rw [e1]
    have := sget_lt b pos
    simp [Nat.mod_eq_of_lt this]
  unfold Utf8.decode
  simp only [e2]
  rw [if_pos h8]
theorem run_getObj_at {w : World} {r p : Nat} {sb : ByteArray} (hb : w.heap[r]? = some (.stringIter sb p)) : (getObj r).run P w = .ok (.stringIter sb p) w := by
  simp [getObj, Sem.run, hb]
theorem run_setObj_at {w : World} {r p : Nat} {sb : ByteArray} (ob' : Obj) (hb : w.heap[r]? = some (.stringIter sb p)) : (setObj r ob').run P w = .ok () { w with heap := w.heap.setIfInBounds r ob' } := by
  simp [setObj, Sem.run, hb]
theorem s_next {ty : TypeId} {x : Operand} {y : O} (ho : o.op = .next x true) (hx : compO c.nG x = some y) : Sound c P o (opNext y) := by
  intro call lb env s k r hc hl hf h
  obtain ⟨id, off, hb, h⟩ := onPtr_some h
  obtain ⟨hoff, h⟩ := cnd_none h
  obtain rfl := Nat.eq_of_beq_eq_true hoff
  obtain ⟨n, b, pos, hob, h⟩ := onSit_some h
  rcases cnd_cases h with ⟨hlt, h⟩ | ⟨hlt, h⟩
  · have hlt : pos < n := by
      have : Nat.ble (pos + 1) n = true := hlt
      rw [Nat.ble_eq] at this; exact this
    obtain ⟨h8, h⟩ := cnd_none h
    have h8 : sget b pos < 128 := by
      have : Nat.ble (sget b pos + 1) 128 = true := h8
      rw [Nat.ble_eq] at this; exact this
    obtain ⟨s', hk, n1, n2, n3⟩ := setOb_spec s id (.sit n b (pos + 1))
    have h' : k (.tup [.bool true, goI pos, .int .i32 (.ofNat (sget b pos))]) (touch lb id 1 s') = some r := (hk (fun s => k (.tup [.bool true, goI pos, .int .i32 (.ofNat (sget b pos))]) (touch lb id 1 s))).symm.trans h
    obtain ⟨l, L⟩ := op_set (c := c) (P := P) (o := o) (env := env) (lb := lb) (v := .tup [.bool true, goI pos, .int .i32 (.ofNat (sget b pos))]) hf n1 n2 n3 hob rfl fun e w a hobr hd hops => by
      have hv := hops x (by simp [ho, Op.operands]) y hx
      rw [hb] at hv
      obtain ⟨q1, q2, q3⟩ := hobr
      have hset := run_setObj_at (P := P) (w := w) (.stringIter (sarr n b) (pos + 1)) q1
      have hget := run_getObj_at (P := P) q1
      have hlw : e.f id < w.heap.size := by
        rcases Nat.lt_or_ge (e.f id) w.heap.size with z | z
        · exact z
        · rw [Array.getElem?_eq_none z] at q1; cases q1
      refine ⟨{ w with heap := w.heap.setIfInBounds (e.f id) (.stringIter (sarr n b) (pos + 1)) }, ⟨by simp, fun j hj => ?_, rfl, rfl, rfl⟩, ⟨?_, q2, q3⟩, .inl ?_, ⟨trivial, trivial, trivial, trivial⟩⟩
      · show (w.heap.setIfInBounds (e.f id) _)[j]? = _
        rw [Array.getElem?_setIfInBounds_ne (Ne.symm hj)]
      · show (w.heap.setIfInBounds (e.f id) _)[e.f id]? = _
        simp [Array.getElem?_setIfInBounds, hlw]
      · have hr : (Instr.next (.pointer (some ⟨e.f id, 0, none⟩)) true o.type).run P w = .ok (.tuple #[.bool true, goInt pos, .int .i32 (sget b pos : Nat)]) { w with heap := w.heap.setIfInBounds (e.f id) (.stringIter (sarr n b) (pos + 1)) } := by
          simp only [Instr.next, Sem.run_bind, hget, Result.andThen_ok]
          rw [if_pos (show pos < (sarr n b).size by rw [sarr_size]; exact hlt), decode_ascii hlt h8]
          simp only [Sem.run_bind, hset, Result.andThen_ok, Sem.run_pure]
        simp only [execOp, ho, hv.1, rho, q3, Nat.zero_add, Nat.add_zero, Sem.run_bind, hr, Result.andThen_ok, Sem.run_pure]
        rfl
    exact ⟨_, _, _, h', L⟩
  · have hge : n ≤ pos := by
      rcases Nat.lt_or_ge pos n with q | q
      · have : Nat.ble (pos + 1) n = true := by rw [Nat.ble_eq]; exact q
        have hlt : Nat.ble (pos + 1) n = false := hlt
        rw [this] at hlt; cases hlt
      · exact q
    obtain ⟨l, L⟩ := op_read (c := c) (P := P) (o := o) (env := env) (lb := lb) (v := .tup [.bool false]) hob fun e w a hobr hd hops => by
      have hv := hops x (by simp [ho, Op.operands]) y hx
      rw [hb] at hv
      obtain ⟨q1, q2, q3⟩ := hobr
      have hget := run_getObj_at (P := P) q1
      refine ⟨.inl ?_, ⟨trivial, trivial⟩⟩
      have hr : (Instr.next (.pointer (some ⟨e.f id, 0, none⟩)) true o.type).run P w = .ok (.tuple #[.bool false]) w := by
        simp only [Instr.next, Sem.run_bind, hget, Result.andThen_ok]
        rw [if_neg (show ¬ pos < (sarr n b).size by rw [sarr_size]; omega)]
        rfl
      simp only [execOp, ho, hv.1, rho, q3, Nat.zero_add, Nat.add_zero, Sem.run_bind, hr, Result.andThen_ok, Sem.run_pure]
      rfl
    exact ⟨_, _, _, h, L⟩
end Go.Kev
