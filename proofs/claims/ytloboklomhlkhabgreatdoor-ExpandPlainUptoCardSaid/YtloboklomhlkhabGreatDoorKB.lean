/- An abstract machine that the kernel runs, and the proof that what it comes to the program's calls come to: part B. -/
import Derived.Test.YtloboklomhlkhabGreatDoorKA
import Derived.Laws.Strings
import Derived.Laws.Small
import Derived.Laws.BytesArg
import Derived.Laws.MakeOwn
set_option linter.unusedVariables false
set_option linter.unusedSimpArgs false
/- Kev: the operations on values alone. -/
namespace Go.Kev
open Go.RowKit
variable {c : Ctx} {P : Program} {o : Oper}
theorem s_mv {x : Operand} {y : O} (ho : o.op = .move x ∨ o.op = .assign x) (hx : compO c.nG x = some y) : Sound c P o (opMv y) := by
  intro call lb env s k r hc hl hf h
  refine ⟨_, _, _, h, op_pure fun e w a hops => ?_⟩
  have hv := hops x (by rcases ho with ho | ho <;> simp [ho, Op.operands]) y hx
  refine ⟨.inl ?_, hv.2⟩
  rcases ho with ho | ho <;> simp [execOp, ho, hv.1]
theorem s_pick {x1 x2 x3 : Operand} {y1 y2 y3 : O} (ho : o.op = .pick x1 x2 x3) (h1 : compO c.nG x1 = some y1) (h2 : compO c.nG x2 = some y2) (h3 : compO c.nG x3 = some y3) : Sound c P o (opPick y1 y2 y3) := by
  intro call lb env s k r hc hl hf h
  obtain ⟨t, ht, h⟩ := onBool_some h
  refine ⟨_, _, _, h, op_pure fun e w a hops => ?_⟩
  have v1 := hops x1 (by simp [ho, Op.operands]) y1 h1
  have v2 := hops x2 (by simp [ho, Op.operands]) y2 h2
  have v3 := hops x3 (by simp [ho, Op.operands]) y3 h3
  rw [ht] at v1
  cases t
  · exact ⟨.inl (by simp [execOp, ho, v1.1, v3.1, rho, asBool, cnd]), v3.2⟩
  · exact ⟨.inl (by simp [execOp, ho, v1.1, v2.1, rho, asBool, cnd]), v2.2⟩
def jb : IntKind → Nat
  | .i64 => 63
  | .u8 => 8
  | .i32 => 31
  | .u32 => 32
  | .u64 => 64
  | _ => 0
theorem inR_jb {k : IntKind} {x : Nat} (h : inR k (.ofNat x) = true) : x < 2 ^ jb k ∧ jb k ≤ k.bits ∧ ∀ n : Int, 0 ≤ n → n < 2 ^ jb k → k.wrap n = n := by
  cases k <;> simp only [inR, Nat.ble_eq, Bool.false_eq_true] at h <;> simp only [jb, IntKind.bits] <;> refine ⟨by omega, by omega, fun n h0 h1 => ?_⟩
  case i32 => rw [IntKind.wrap_i32]; omega
  case i64 => rw [IntKind.wrap_i64]; omega
  case u8 => rw [IntKind.wrap_u8]; omega
  case u32 => rw [IntKind.wrap_u32]; omega
  case u64 => rw [IntKind.wrap_u64]; omega
theorem bit_ok {k : IntKind} {x y : Nat} (hx : inR k (.ofNat x) = true) (hy : inR k (.ofNat y) = true) :
    k.wrap (BitVec.ofInt k.bits (Int.ofNat x) &&& BitVec.ofInt k.bits (Int.ofNat y)).toNat = Int.ofNat (Nat.land x y) ∧
    k.wrap (BitVec.ofInt k.bits (Int.ofNat x) ||| BitVec.ofInt k.bits (Int.ofNat y)).toNat = Int.ofNat (Nat.lor x y) ∧
    k.wrap (BitVec.ofInt k.bits (Int.ofNat x) ^^^ BitVec.ofInt k.bits (Int.ofNat y)).toNat = Int.ofNat (Nat.xor x y) := by
  obtain ⟨h1, h2, h3⟩ := inR_jb hx
  obtain ⟨h4, _, _⟩ := inR_jb hy
  have hp : 2 ^ jb k ≤ 2 ^ k.bits := Nat.pow_le_pow_right (by decide) h2
  have hx' : x % 2 ^ k.bits = x := Nat.mod_eq_of_lt (Nat.lt_of_lt_of_le h1 hp)
  have hy' : y % 2 ^ k.bits = y := Nat.mod_eq_of_lt (Nat.lt_of_lt_of_le h4 hp)
  have cast : ∀ n : Nat, n < 2 ^ jb k → ((n : Nat) : Int) < 2 ^ jb k := fun n h => by exact_mod_cast h
  simp only [Int.ofNat_eq_natCast, BitVec.ofInt_natCast, BitVec.toNat_and, BitVec.toNat_or, BitVec.toNat_xor, BitVec.toNat_ofNat, hx', hy']
  exact ⟨h3 _ (Int.natCast_nonneg _) (cast _ (Nat.and_lt_two_pow _ h4)), h3 _ (Int.natCast_nonneg _) (cast _ (Nat.or_lt_two_pow h1 h4)), h3 _ (Int.natCast_nonneg _) (cast _ (Nat.xor_lt_two_pow h1 h4))⟩
theorem lt_not_le (a b : Int) : decide (a < b) = !decide (b ≤ a) := by rw [Bool.eq_iff_iff]; simp
theorem binI_ok {op : BinOp} {k : IntKind} {a b : Int} {v : V} (h : binI op k a b = some v) (t : TypeId) (w : World) (e : Emb) :
    (binOp op t (.int k a) (.int k b)).run P w = .ok (rho e v) w ∧ ok e v := by
  cases op <;> simp only [binI] at h
  case add => cases h; exact ⟨by simp [binOp, Op.intArith, rho, wrapF_eq], trivial⟩
  case sub => cases h; exact ⟨by simp [binOp, Op.intArith, rho, wrapF_eq]; rfl, trivial⟩
  case mul => cases h; exact ⟨by simp [binOp, Op.intArith, rho, wrapF_eq], trivial⟩
  case eql => cases h; exact ⟨by simp [binOp, Op.intCmp, rho, ieq_iff]; rw [Bool.eq_iff_iff]; simp, trivial⟩
  case neq => cases h; exact ⟨by simp [binOp, Op.intCmp, rho, ieq_iff]; rw [Bool.eq_iff_iff]; simp, trivial⟩
  case lss => cases h; exact ⟨by simp [binOp, Op.intCmp, rho, ile_iff, lt_not_le], trivial⟩
  case leq => cases h; exact ⟨by simp [binOp, Op.intCmp, rho, ile_iff], trivial⟩
  case gtr => cases h; exact ⟨by simp [binOp, Op.intCmp, rho, ile_iff, lt_not_le], trivial⟩
  case geq => cases h; exact ⟨by simp [binOp, Op.intCmp, rho, ile_iff], trivial⟩
  case quo =>
    obtain ⟨h1, h⟩ := cnd_none' h
    cases h
    rw [ieq_iff, decide_eq_false_iff_not] at h1
    exact ⟨by simp [binOp, Op.intDiv, rho, wrapF_eq, h1], trivial⟩
  case rem =>
    obtain ⟨h1, h⟩ := cnd_none' h
    cases h
    rw [ieq_iff, decide_eq_false_iff_not] at h1
    exact ⟨by simp [binOp, Op.intDiv, rho, h1], trivial⟩
  case and =>
    cases a <;> cases b <;> simp only [bitI] at h <;> try (cases h; done)
    obtain ⟨h1, h⟩ := cnd_none h
    obtain ⟨h2, h⟩ := cnd_none h
    cases h
    exact ⟨by simp only [binOp, ite_true, ne_eq, not_true, if_false, Op.intBits, Sem.run_pure, (bit_ok h1 h2).1, rho], trivial⟩
  case or =>
    cases a <;> cases b <;> simp only [bitI] at h <;> try (cases h; done)
    obtain ⟨h1, h⟩ := cnd_none h
    obtain ⟨h2, h⟩ := cnd_none h
    cases h
    exact ⟨by simp only [binOp, ite_true, ne_eq, not_true, if_false, Op.intBits, Sem.run_pure, (bit_ok h1 h2).2.1, rho], trivial⟩
  case xor =>
    cases a <;> cases b <;> simp only [bitI] at h <;> try (cases h; done)
    obtain ⟨h1, h⟩ := cnd_none h
    obtain ⟨h2, h⟩ := cnd_none h
    cases h
    exact ⟨by simp only [binOp, ite_true, ne_eq, not_true, if_false, Op.intBits, Sem.run_pure, (bit_ok h1 h2).2.2, rho], trivial⟩
  all_goals cases h
/-! ### strings -/
theorem sarr_toList (n b : Nat) : (sarr n b).toList = sbytes n b := ByteArray.toList_mk _
theorem packL_sbytes : ∀ (n b : Nat), b < 256 ^ n → packL (sbytes n b) = b
  | 0, b, h => by simp at h; subst h; rfl
  | n + 1, b, h => by
    rw [Nat.pow_succ] at h
    rw [sbytes_succ, packL, packL_sbytes n (b / 256) (by omega)]
    have : (UInt8.ofNat (b % 256)).toNat = b % 256 := by simp
    omega
theorem sbytes_inj {n b d : Nat} (h1 : b < 256 ^ n) (h2 : d < 256 ^ n) (h : sbytes n b = sbytes n d) : b = d := by
  rw [← packL_sbytes n b h1, ← packL_sbytes n d h2, h]
theorem packL_append : ∀ l m : List UInt8, packL (l ++ m) = packL l + 256 ^ l.length * packL m
  | [], m => by simp [packL]
  | b :: l, m => by
    simp only [List.cons_append, packL, packL_append l m, List.length_cons, Nat.pow_succ]
    rw [Nat.mul_add, Nat.add_assoc]
    congr 2
    rw [Nat.mul_comm (256 ^ l.length) 256, Nat.mul_assoc]
theorem shl_eq (c n : Nat) : Nat.shiftLeft c (Nat.mul 8 n) = 256 ^ n * c := by
  show c <<< (8 * n) = _
  rw [Nat.shiftLeft_eq, Nat.pow_mul, Nat.mul_comm]
theorem scat_spec {n b m d : Nat} (h1 : b < 256 ^ n) (h2 : d < 256 ^ m) : sbytes (n + m) (scat n b d) = sbytes n b ++ sbytes m d ∧ scat n b d < 256 ^ (n + m) := by
  have hp : scat n b d = packL (sbytes n b ++ sbytes m d) := by
    rw [packL_append, packL_sbytes n b h1, packL_sbytes m d h2, sbytes_length]
    show b + Nat.shiftLeft d (Nat.mul 8 n) = _
    rw [shl_eq]
  have hl : (sbytes n b ++ sbytes m d).length = n + m := by simp [sbytes_length]
  constructor
  · rw [hp, ← hl, sbytes_packL]
  · rw [hp, ← hl]; exact packL_lt _
theorem sarr_cat {n b m d : Nat} (h1 : b < 256 ^ n) (h2 : d < 256 ^ m) : sarr n b ++ sarr m d = sarr (n + m) (scat n b d) := by
  have h := (scat_spec h1 h2).1
  apply ByteArray.ext
  show _ = (sbytes (n + m) (scat n b d)).toArray
  rw [h, ByteArray.data_append]
  show (sbytes n b).toArray ++ (sbytes m d).toArray = _
  simp
theorem sget_sbytes {n b i : Nat} (h : i < n) : (sbytes n b)[i]? = some (UInt8.ofNat (sget b i)) := by
  simp [sbytes, List.getElem?_map, List.getElem?_range h]
theorem sget_lt (b i : Nat) : sget b i < 256 := Nat.mod_lt _ (by decide)
theorem ssub_spec {n b l h : Nat} (h1 : l ≤ h) (h2 : h ≤ n) : sbytes (h - l) (ssub b l h) = ((sbytes n b).drop l).take (h - l) ∧ ssub b l h < 256 ^ (h - l) := by
  have e : ssub b l h = (b / 256 ^ l) % 256 ^ (h - l) := by
    show (b >>> (8 * l)) % (1 <<< (8 * (h - l))) = _
    rw [Nat.shiftRight_eq_div_pow, Nat.pow_mul, Nat.shiftLeft_eq, Nat.one_mul, Nat.pow_mul]
  refine ⟨?_, by rw [e]; exact Nat.mod_lt _ (Nat.pow_pos (by decide))⟩
  apply List.ext_getElem?
  intro i
  by_cases hi : i < h - l
  · rw [sget_sbytes hi, List.getElem?_take_of_lt hi, List.getElem?_drop, sget_sbytes (by omega)]
    congr 2
    rw [e]
    show ((b / 256 ^ l) % 256 ^ (h - l)) >>> (8 * i) % 256 = b >>> (8 * (l + i)) % 256
    rw [Nat.shiftRight_eq_div_pow, Nat.shiftRight_eq_div_pow, Nat.pow_mul, Nat.pow_mul, show (2 : Nat) ^ 8 = 256 by rfl, Nat.pow_add, ← Nat.div_div_eq_div_mul]
    obtain ⟨j, hj⟩ : ∃ j, h - l = i + 1 + j := ⟨h - l - i - 1, by omega⟩
    rw [hj, Nat.pow_add, Nat.pow_succ, Nat.mul_assoc, Nat.mod_mul_right_div_self, Nat.mod_mul_right_mod]
  · rw [List.getElem?_eq_none (by rw [sbytes_length]; omega), List.getElem?_eq_none (by simp; omega)]
theorem slt_spec (n m b d : Nat) : ∀ (f i : Nat), i ≤ n → n < f + i → sltF n m b d f i = Op.bytesLess ((sbytes n b).drop i) ((sbytes m d).drop i)
  | 0, i, h1, h2 => by omega
  | f + 1, i, h1, h2 => by
    rw [sltF, cnd_eq, cnd_eq, cnd_eq, cnd_eq]
    by_cases hn : i = n
    · subst hn
      rw [if_pos (by simp), List.drop_eq_nil_of_le (by rw [sbytes_length]; exact Nat.le_refl _)]
      by_cases hm : i < m
      · rw [List.drop_eq_getElem_cons (by rw [sbytes_length]; exact hm)]
        simp [Op.bytesLess, Nat.blt_eq, hm]
      · rw [List.drop_eq_nil_of_le (by rw [sbytes_length]; omega)]
        rw [Op.bytesLess, ← Bool.not_eq_true, Nat.blt_eq]
        omega
    · rw [if_neg (by rw [Nat.ble_eq]; omega)]
      by_cases hm : m ≤ i
      · rw [if_pos (by rw [Nat.ble_eq]; exact hm), List.drop_eq_nil_of_le (as := sbytes m d) (by rw [sbytes_length]; omega)]
        cases (sbytes n b).drop i <;> rfl
      · rw [if_neg (by rw [Nat.ble_eq]; omega), List.drop_eq_getElem_cons (l := sbytes n b) (by rw [sbytes_length]; omega), List.drop_eq_getElem_cons (l := sbytes m d) (by rw [sbytes_length]; omega), Op.bytesLess]
        have g : ∀ k x (h : i < (sbytes k x).length), (sbytes k x)[i] = UInt8.ofNat (sget x i) := fun k x h => by
          have := sget_sbytes (n := k) (b := x) (i := i) (by rw [sbytes_length] at h; exact h)
          rw [List.getElem?_eq_getElem h] at this
          exact Option.some.inj this
        rw [g, g, slt_spec n m b d f (i + 1) (by omega) (by omega)]
        have lt : (UInt8.ofNat (sget b i) < UInt8.ofNat (sget d i)) ↔ sget b i < sget d i := by
          rw [UInt8.lt_iff_toNat_lt, UInt8.toNat_ofNat', UInt8.toNat_ofNat', Nat.mod_eq_of_lt (sget_lt b i), Nat.mod_eq_of_lt (sget_lt d i)]
        have eq : (UInt8.ofNat (sget b i) = UInt8.ofNat (sget d i)) ↔ sget b i = sget d i := by
          rw [← UInt8.toNat_inj, UInt8.toNat_ofNat', UInt8.toNat_ofNat', Nat.mod_eq_of_lt (sget_lt b i), Nat.mod_eq_of_lt (sget_lt d i)]
        by_cases h3 : sget b i < sget d i
        · rw [if_pos (by rw [Nat.blt_eq]; exact h3)]
          simp [lt.2 h3]
        · rw [if_neg (by rw [Nat.blt_eq]; exact h3), show decide (UInt8.ofNat (sget b i) < UInt8.ofNat (sget d i)) = false from decide_eq_false fun x => h3 (lt.1 x), Bool.false_or]
          by_cases h4 : sget b i = sget d i
          · rw [if_pos (by rw [Nat.beq_eq]; exact h4), beq_iff_eq.2 (eq.2 h4), Bool.true_and]
          · rw [if_neg (by rw [Nat.beq_eq]; exact h4), show (UInt8.ofNat (sget b i) == UInt8.ofNat (sget d i)) = false from beq_eq_false_iff_ne.2 fun x => h4 (eq.1 x), Bool.false_and]
theorem slt_eq (n m b d : Nat) : slt n m b d (Nat.succ n) = Op.bytesLess (sbytes n b) (sbytes m d) := by
  have := slt_spec n m b d (n + 1) 0 (Nat.zero_le _) (by omega)
  rw [List.drop_zero, List.drop_zero] at this
  exact this
theorem seq_eq {n b m d : Nat} (h1 : b < 256 ^ n) (h2 : d < 256 ^ m) : seq n b m d = decide (sbytes n b = sbytes m d) := by
  unfold seq
  rw [cnd_eq]
  by_cases h : n = m
  · subst h
    rw [if_pos (by rw [Nat.beq_eq]), Bool.eq_iff_iff, Nat.beq_eq, decide_eq_true_iff]
    exact ⟨fun x => by rw [x], sbytes_inj h1 h2⟩
  · rw [if_neg (by rw [Nat.beq_eq]; exact h), eq_comm, decide_eq_false_iff_not]
    intro x
    have := congrArg List.length x
    rw [sbytes_length, sbytes_length] at this
    exact h this
/-- x ≤ y of bytes: less or the same, as not less the other way -/
theorem bytesLess_total : ∀ x y : List UInt8, (Op.bytesLess x y || x == y) = !Op.bytesLess y x
  | [], [] => rfl
  | [], _ :: _ => rfl
  | _ :: _, [] => rfl
  | a :: x, b :: y => by
    have ih := bytesLess_total x y
    simp only [Op.bytesLess, List.cons_beq_cons]
    rcases Nat.lt_trichotomy a.toNat b.toNat with h | h | h
    · have h1 : a < b := h
      have h2 : ¬ b < a := fun k => Nat.lt_asymm h k
      have h3 : ¬ b = a := fun k => by rw [k] at h; exact Nat.lt_irrefl _ h
      simp [h1, h2, h3]
    · have h1 : a = b := UInt8.toNat_inj.1 h
      subst h1
      have h2 : ¬ a < a := fun k => Nat.lt_irrefl _ k
      simp [h2, ih]
    · have h1 : ¬ a < b := fun k => Nat.lt_asymm h k
      have h2 : b < a := h
      have h3 : ¬ a = b := fun k => by rw [k] at h; exact Nat.lt_irrefl _ h
      simp [h1, h2, h3]
theorem binS_ok {op : BinOp} {n b m d : Nat} {v : V} (h : binS op n b m d = some v) (h1 : b < 256 ^ n) (h2 : d < 256 ^ m) (t : TypeId) (w : World) (e : Emb) :
    (binOp op t (.string (sarr n b)) (.string (sarr m d))).run P w = .ok (rho e v) w ∧ ok e v := by
  cases op <;> simp only [binS] at h
  case add =>
    obtain ⟨hl, h⟩ := cnd_none h
    rw [Nat.ble_eq] at hl
    have hl : n + m ≤ 9223372036854775807 := hl
    cases h
    refine ⟨?_, (scat_spec h1 h2).2⟩
    simp only [binOp, Op.stringOp, sarr_size]
    rw [if_neg (by simp only [IntKind.max, IntKind.signed, IntKind.bits, if_true]; omega)]
    simp only [Sem.run_pure, sarr_cat h1 h2, rho]
    rfl
  case eql => cases h; exact ⟨by simp only [binOp, Op.stringOp, Sem.run_pure, sarr_toList, rho, seq_eq h1 h2]; congr 3; rw [Bool.eq_iff_iff]; simp, trivial⟩
  case neq => cases h; exact ⟨by simp only [binOp, Op.stringOp, Sem.run_pure, sarr_toList, rho, seq_eq h1 h2]; congr 4; rw [Bool.eq_iff_iff]; simp, trivial⟩
  case lss => cases h; exact ⟨by simp only [binOp, Op.stringOp, Sem.run_pure, sarr_toList, rho, slt_eq], trivial⟩
  case gtr => cases h; exact ⟨by simp only [binOp, Op.stringOp, Sem.run_pure, sarr_toList, rho, slt_eq, bytesLess_total, Bool.not_not], trivial⟩
  case leq => cases h; exact ⟨by simp only [binOp, Op.stringOp, Sem.run_pure, sarr_toList, rho, slt_eq, bytesLess_total], trivial⟩
  case geq => cases h; exact ⟨by simp only [binOp, Op.stringOp, Sem.run_pure, sarr_toList, rho, slt_eq], trivial⟩
  all_goals cases h
end Go.Kev
/- Kev: operations on values, and looks at memory. -/
namespace Go.Kev
open Go.RowKit
variable {c : Ctx} {P : Program} {o : Oper}
theorem eqGuard_int (op : BinOp) (t : TypeId) (x y : Operand) (k k' : IntKind) (a b : Int) (w : World) : (eqGuard op t x y (.int k a) (.int k' b)).run P w = .ok () w := by
  unfold eqGuard
  cases op <;> rfl
theorem eqGuard_str (op : BinOp) (t : TypeId) (x y : Operand) (a b : ByteArray) (w : World) : (eqGuard op t x y (.string a) (.string b)).run P w = .ok () w := by
  unfold eqGuard
  cases op <;> rfl
theorem s_bin {op : BinOp} {t u : TypeId} {x1 x2 : Operand} {y1 y2 : O} (ho : o.op = .binOp op t x1 x2 u) (h1 : compO c.nG x1 = some y1) (h2 : compO c.nG x2 = some y2) : Sound c P o (opBin op y1 y2) := by
  intro call lb env s k r hc hl hf h
  obtain ⟨v, hv, h⟩ := okV_some h
  refine ⟨_, _, _, h, op_pure fun e w a hops => ?_⟩
  have v1 := hops x1 (by simp [ho, Op.operands]) y1 h1
  have v2 := hops x2 (by simp [ho, Op.operands]) y2 h2
  cases e1 : y1.ev env with
  | int k a =>
    rw [e1] at hv v1
    cases e2 : y2.ev env with
    | int k' b =>
      rw [e2] at hv v2
      obtain ⟨hk, hv2⟩ := cnd_none (r := v) hv
      cases keq_eq hk
      obtain ⟨hr, ho'⟩ := binI_ok (P := P) hv2 t w e
      refine ⟨.inl ?_, ho'⟩
      simp only [execOp, ho, v1.1, v2.1, rho, Sem.run_bind, eqGuard_int, Result.andThen_ok, hr, Sem.run_pure]
    | _ => rw [e2] at hv; cases hv
  | str n b =>
    rw [e1] at hv v1
    cases e2 : y2.ev env with
    | str m d =>
      rw [e2] at hv v2
      obtain ⟨hr, ho'⟩ := binS_ok (P := P) (v := v) hv v1.2 v2.2 t w e
      refine ⟨.inl ?_, ho'⟩
      simp only [execOp, ho, v1.1, v2.1, rho, Sem.run_bind, eqGuard_str, Result.andThen_ok, hr, Sem.run_pure]
    | _ => rw [e2] at hv; cases hv
  | _ => rw [e1] at hv; cases hv
theorem s_shf {op : BinOp} {left : Bool} {t u : TypeId} {x1 x2 : Operand} {y1 y2 : O} (ho : o.op = .binOp op t x1 x2 u) (hop : op = if left then .shl else .shr) (h1 : compO c.nG x1 = some y1) (h2 : compO c.nG x2 = some y2) : Sound c P o (opShf left y1 y2) := by
  intro call lb env s k r hc hl hf h
  obtain ⟨k1, a, e1, h⟩ := onInt_some h
  obtain ⟨k2, b, e2, h⟩ := onInt_some h
  obtain ⟨v, hv, h⟩ := okV_some h
  refine ⟨_, _, _, h, op_pure fun e w ac hops => ?_⟩
  have v1 := hops x1 (by simp [ho, Op.operands]) y1 h1
  have v2 := hops x2 (by simp [ho, Op.operands]) y2 h2
  rw [e1] at v1
  rw [e2] at v2
  cases left with
  | true =>
    simp only [cnd_true] at hv
    cases b with
    | negSucc b => cases hv
    | ofNat b =>
      obtain ⟨hb, hv⟩ := cnd_none (r := v) hv
      rw [Nat.ble_eq, kbits_eq] at hb
      cases hv
      refine ⟨.inl ?_, trivial⟩
      have hs : Nat.shiftLeft 1 b = 2 ^ b := by show 1 <<< b = _; rw [Nat.shiftLeft_eq, Nat.one_mul]
      simp only [execOp, ho, hop, v1.1, v2.1, rho, Sem.run_bind, eqGuard_int, Result.andThen_ok, binOp, Op.shift, if_true]
      rw [if_neg (by simp)]
      simp only [Sem.run_pure, Result.andThen_ok, wrapF_eq, hs, Int.ofNat_eq_natCast, Int.toNat_natCast, Nat.min_eq_left hb]
      congr 4
  | false =>
    simp only [cnd_false] at hv
    cases a with
    | negSucc a => cases b <;> cases hv
    | ofNat a =>
      cases b with
      | negSucc b => cases hv
      | ofNat b =>
        obtain ⟨hb, hv⟩ := cnd_none (r := v) hv
        rw [Nat.ble_eq, kbits_eq] at hb
        cases hv
        refine ⟨.inl ?_, trivial⟩
        have hs : Nat.shiftRight a b = a / 2 ^ b := Nat.shiftRight_eq_div_pow a b
        simp only [execOp, ho, hop, v1.1, v2.1, rho, Sem.run_bind, eqGuard_int, Result.andThen_ok, binOp, Op.shift, Bool.false_eq_true, if_false]
        rw [if_neg (by simp)]
        simp only [Sem.run_pure, Result.andThen_ok, hs, Int.ofNat_eq_natCast, Int.toNat_natCast, Nat.min_eq_left hb]
        congr 4
        rw [Int.fdiv_eq_ediv_of_nonneg _ (by exact_mod_cast Nat.zero_le _)]
        push_cast
        rfl
theorem s_not {t : TypeId} {x : Operand} {y : O} (ho : o.op = .unOp .not t x) (hx : compO c.nG x = some y) : Sound c P o (opNot y) := by
  intro call lb env s k r hc hl hf h
  obtain ⟨b, hb, h⟩ := onBool_some h
  refine ⟨_, _, _, h, op_pure fun e w a hops => ?_⟩
  have hv := hops x (by simp [ho, Op.operands]) y hx
  rw [hb] at hv
  refine ⟨.inl ?_, trivial⟩
  cases b <;> simp [execOp, ho, hv.1, rho, Op.unary]
theorem s_neg {t : TypeId} {x : Operand} {y : O} (ho : o.op = .unOp .neg t x) (hx : compO c.nG x = some y) : Sound c P o (opNeg y) := by
  intro call lb env s k r hc hl hf h
  obtain ⟨kd, n, hb, h⟩ := onInt_some h
  refine ⟨_, _, _, h, op_pure fun e w a hops => ?_⟩
  have hv := hops x (by simp [ho, Op.operands]) y hx
  rw [hb] at hv
  refine ⟨.inl ?_, trivial⟩
  simp only [execOp, ho, hv.1, rho, Op.unary, Op.intArith, Sem.run_bind, Sem.run_pure, Result.andThen_ok, wrapF_eq]
  congr 4
  show 0 - n = -n
  omega
theorem s_convI {t u : TypeId} {kd : IntKind} {x : Operand} {y : O} (ho : o.op = .convert t u x) (ht : ∃ k, P.underlying t = some (.int k)) (hu : P.underlying u = some (.int kd)) (hx : compO c.nG x = some y) : Sound c P o (opConvI kd y) := by
  intro call lb env s k r hc hl hf h
  obtain ⟨k1, n, hb, h⟩ := onInt_some h
  obtain ⟨k2, ht⟩ := ht
  refine ⟨_, _, _, h, op_pure fun e w a hops => ?_⟩
  have hv := hops x (by simp [ho, Op.operands]) y hx
  rw [hb] at hv
  refine ⟨.inl ?_, trivial⟩
  simp [execOp, ho, hv.1, rho, convert, run_underlying ht, run_underlying hu, Conv.intToInt, wrapF_eq]
theorem s_convSS {t u : TypeId} {x : Operand} {y : O} (ho : o.op = .convert t u x) (ht : P.underlying t = some .string) (hu : P.underlying u = some .string) (hx : compO c.nG x = some y) : Sound c P o (opConvS y) := by
  intro call lb env s k r hc hl hf h
  rcases onStr_some h with ⟨n, b, hb, h⟩ | ⟨_, h⟩
  · refine ⟨_, _, _, h, op_pure fun e w a hops => ?_⟩
    have hv := hops x (by simp [ho, Op.operands]) y hx
    rw [hb] at hv
    refine ⟨.inl ?_, hv.2⟩
    simp [execOp, ho, hv.1, rho, convert, run_underlying ht, run_underlying hu]
  · cases h
theorem s_mkif {t : TypeId} {d : TypeDesc} {x : Operand} {y : O} (ho : o.op = .makeInterface t x) (ht : P.underlying t = some d) (hd : ∀ ms, d ≠ .interface ms) (hx : compO c.nG x = some y) : Sound c P o (opMkif t y) := by
  intro call lb env s k r hc hl hf h
  refine ⟨_, _, _, h, op_pure fun e w a hops => ?_⟩
  have hv := hops x (by simp [ho, Op.operands]) y hx
  refine ⟨.inl ?_, hv.2⟩
  simp only [execOp, ho, hv.1, rho, Instr.makeInterface, Sem.run_bind, run_underlying ht, Result.andThen_ok]
  cases d <;> first
    | exact (hd _ rfl).elim
    | simp
theorem rhos_get {e : Emb} : ∀ {l : List V} {i : Nat}, (rhos e l)[i]? = (l[i]?).map (rho e) := by
  intro l i
  rw [rhos_map, List.getElem?_map]
theorem rhos_len {e : Emb} {l : List V} : (rhos e l).length = l.length := by rw [rhos_map, List.length_map]
theorem s_extract {i : Nat} {x : Operand} {y : O} (ho : o.op = .extract x i) (hx : compO c.nG x = some y) : Sound c P o (opExtract i y) := by
  intro call lb env s k r hc hl hf h
  obtain ⟨l, hb, h⟩ := onTup_some h
  obtain ⟨v, l', hl', h⟩ := headK_some h
  rw [dropL_eq] at hl'
  have hi : l[i]? = some v := by
    have := congrArg (·[0]?) hl'
    simpa [List.getElem?_drop] using this
  refine ⟨_, _, _, h, op_pure fun e w a hops => ?_⟩
  have hv := hops x (by simp [ho, Op.operands]) y hx
  rw [hb] at hv
  refine ⟨.inl ?_, (oks_iff e l).1 hv.2 v (List.mem_of_getElem? hi)⟩
  simp only [execOp, ho, hv.1, rho, Instr.extract, Sem.run_bind, List.getElem?_toArray, rhos_get, hi, Option.map_some, Sem.run_pure, Result.andThen_ok]
theorem s_nilck {x : Operand} {y : O} (ho : o.op = .nilCheck x) (hx : compO c.nG x = some y) : Sound c P o (opNilck y) := by
  intro call lb env s k r hc hl hf h
  have hk : k (y.ev env) s = some r ∧ (∀ e : Emb, rho e (y.ev env) ≠ .pointer none ∧ rho e (y.ev env) ≠ .nilIface ∧ rho e (y.ev env) ≠ .nilFunc) := by
    change (y.ev env).onNil none (k (y.ev env) s) = some r at h
    generalize y.ev env = v at h ⊢
    cases v <;> first
      | exact ⟨h, fun e => by simp [rho]⟩
      | cases h
  refine ⟨_, _, _, hk.1, op_pure fun e w a hops => ?_⟩
  have hv := hops x (by simp [ho, Op.operands]) y hx
  refine ⟨.inl ?_, hv.2⟩
  obtain ⟨n1, n2, n3⟩ := hk.2 e
  simp only [execOp, ho, hv.1]
  have hnf : ∀ name first cap, rho e (y.ev env) ≠ .func (.method name) first cap := by
    intro name first cap
    generalize y.ev env = v
    cases v <;> simp [rho]
  split <;> first
    | (rename_i hh; exact (n1 hh).elim)
    | (rename_i hh; exact (n2 hh).elim)
    | (rename_i hh; exact (n3 hh).elim)
    | (rename_i hh; exact (hnf _ _ _ hh).elim)
    | rfl
end Go.Kev
/- Kev: places, and looks at memory. -/
namespace Go.Kev
open Go.RowKit
variable {c : Ctx} {P : Program} {o : Oper}
theorem addr_add (b i n : Nat) : (⟨b, i, none⟩ : Addr).add n = ⟨b, i + n, none⟩ := by
  unfold Addr.add
  split
  · subst_vars; rfl
  · rfl
def aggB (P : Program) (t : TypeId) : Option Bool :=
  match P.underlying t with
  | some (.struct _) => some true
  | some (.array _ _) => some true
  | some _ => some false
  | none => none
theorem run_isAgg {t : TypeId} {b : Bool} (h : aggB P t = some b) (w : World) : (isAgg t).run P w = .ok b w := by
  unfold aggB at h
  split at h
  · rename_i f hu; cases h; simp [isAgg, run_underlying hu]
  · rename_i n e hu; cases h; simp [isAgg, run_underlying hu]
  · rename_i d h1 h2 hu
    cases h
    simp only [isAgg, Sem.run_bind, run_underlying hu, Result.andThen_ok]
    cases d <;> first
      | exact (h1 _ rfl).elim
      | exact (h2 _ _ rfl).elim
      | rfl
  · cases h
def sizeB (P : Program) (t : TypeId) : Option Nat := (P.info? t).map (·.size)
theorem run_sizeB {t : TypeId} {n : Nat} (h : sizeB P t = some n) (w : World) : (sizeOf t).run P w = .ok n w := by
  unfold sizeB at h
  cases hi : P.info? t with
  | none => rw [hi] at h; cases h
  | some i => rw [hi] at h; cases h; simp [sizeOf, typeInfo, hi]
theorem cell_of {w : World} {b i : Nat} {cs : Array Value} {ty : TypeId} {fz : Nat × Nat} (h : w.heap[b]? = some (.cells cs ty fz)) : w.cell? ⟨b, i, none⟩ = cs[i]? := by
  simp [World.cell?, h]
theorem RowR.cell {e : Emb} {w : World} {id : Nat} {r : Row} (h : RowR e w id r) {i : Nat} {v : V} (hv : r.cells[i]? = some v) : w.cell? ⟨e.f id, e.b id + i, none⟩ = some (rho e v) ∧ ok e v ∧ v.one = true := by
  obtain ⟨_, cs, x, y, h2, _, _, _, h6, _⟩ := h
  rw [cell_of h2]
  exact h6 i v hv
theorem run_sureAddr (a : Addr) (w : World) : (Instr.sureAddr (.pointer (some a))).run P w = .ok a w := rfl
theorem s_faddr {t : TypeId} {i n : Nat} {fs : Array Field} {f : Field} {x : Operand} {y : O} (ho : o.op = .fieldAddr t x i) (ht : P.underlying t = some (.struct fs)) (hf_ : fs[i]? = some f) (hn : sizeB P f.type = some (n + 1)) (hx : compO c.nG x = some y) : Sound c P o (opFaddr f.offset y) := by
  intro call lb env s k r hc hl hf h
  obtain ⟨id, off, hb, h⟩ := onPtr_some h
  refine ⟨_, _, _, h, op_pure fun e w a hops => ?_⟩
  have hv := hops x (by simp [ho, Op.operands]) y hx
  rw [hb] at hv
  refine ⟨.inl ?_, hv.2⟩
  simp [execOp, ho, hv.1, rho, Instr.fieldAt, run_underlying ht, hf_, run_sureAddr, fieldPlace, run_sizeB hn, addr_add]
  exact Nat.add_assoc _ _ _
theorem s_iaddrS {t el : TypeId} {n : Nat} {x1 x2 : Operand} {y1 y2 : O} (ho : o.op = .indexAddr t x1 x2) (ht : P.underlying t = some (.slice el)) (hn : sizeB P el = some n) (h1 : compO c.nG x1 = some y1) (h2 : compO c.nG x2 = some y2) : Sound c P o (opIaddrS n y1 y2) := by
  intro call lb env s k r hc hl hf h
  rcases onSlc_some h with ⟨id, off, len, cap, ex, hb, h⟩ | ⟨_, h⟩
  · obtain ⟨kd, i, hi, h⟩ := onNat_some h
    obtain ⟨hlt, h⟩ := cnd_none h
    rw [Nat.blt_eq] at hlt
    refine ⟨_, _, _, h, op_pure fun e w a hops => ?_⟩
    have v1 := hops x1 (by simp [ho, Op.operands]) y1 h1
    have v2 := hops x2 (by simp [ho, Op.operands]) y2 h2
    rw [hb] at v1
    rw [hi] at v2
    refine ⟨.inl ?_, v1.2.1⟩
    have hlt' : (i : Int) < len := by omega
    simp [execOp, ho, v1.1, v2.1, rho, Instr.indexAt, asIntOf, run_underlying ht, hlt, run_sizeB hn, addr_add, Nat.add_assoc]
  · cases h
theorem s_iaddrA {t el : TypeId} {n len : Nat} {x1 x2 : Operand} {y1 y2 : O} (ho : o.op = .indexAddr t x1 x2) (ht : P.underlying t = some (.array len el)) (hn : sizeB P el = some n) (h1 : compO c.nG x1 = some y1) (h2 : compO c.nG x2 = some y2) : Sound c P o (opIaddrA len n y1 y2) := by
  intro call lb env s k r hc hl hf h
  obtain ⟨id, off, hb, h⟩ := onPtr_some h
  obtain ⟨kd, i, hi, h⟩ := onNat_some h
  obtain ⟨hlt, h⟩ := cnd_none h
  rw [Nat.blt_eq] at hlt
  refine ⟨_, _, _, h, op_pure fun e w a hops => ?_⟩
  have v1 := hops x1 (by simp [ho, Op.operands]) y1 h1
  have v2 := hops x2 (by simp [ho, Op.operands]) y2 h2
  rw [hb] at v1
  rw [hi] at v2
  refine ⟨.inl ?_, v1.2⟩
  have hlt' : (i : Int) < len := by omega
  simp [execOp, ho, v1.1, v2.1, rho, Instr.indexAt, asIntOf, run_underlying ht, hlt, run_sizeB hn, addr_add, run_sureAddr, Nat.add_assoc]
theorem s_idxStr {t : TypeId} {x1 x2 : Operand} {y1 y2 : O} (ho : o.op = .index t x1 x2) (ht : P.underlying t = some .string) (h1 : compO c.nG x1 = some y1) (h2 : compO c.nG x2 = some y2) : Sound c P o (opIdxStr y1 y2) := by
  intro call lb env s k r hc hl hf h
  rcases onStr_some h with ⟨n, b, hb, h⟩ | ⟨_, h⟩
  · obtain ⟨kd, i, hi, h⟩ := onNat_some h
    obtain ⟨hlt, h⟩ := cnd_none h
    rw [Nat.blt_eq] at hlt
    refine ⟨_, _, _, h, op_pure fun e w a hops => ?_⟩
    have v1 := hops x1 (by simp [ho, Op.operands]) y1 h1
    have v2 := hops x2 (by simp [ho, Op.operands]) y2 h2
    rw [hb] at v1
    rw [hi] at v2
    refine ⟨.inl ?_, trivial⟩
    have hg : (sarr n b)[i]? = some (UInt8.ofNat (sget b i)) := by
      have h3 := sget_sbytes (b := b) hlt
      have h4 : i < (sarr n b).size := by rw [sarr_size]; exact hlt
      rw [getElem?_pos (sarr n b) i h4]
      have h5 : (sbytes n b)[i]? = some ((sbytes n b)[i]'(by rw [sbytes_length]; exact hlt)) := List.getElem?_eq_getElem _
      rw [h5] at h3
      exact congrArg some (Option.some.inj h3)
    have hm : sget b i % 256 = sget b i := Nat.mod_eq_of_lt (sget_lt b i)
    simp [execOp, ho, v1.1, v2.1, rho, Instr.index, asIntOf, run_underlying ht, hg, hm]
  · cases h
theorem s_load1 {t : TypeId} {x : Operand} {y : O} (ho : o.op = .load t x) (ht : aggB P t = some false) (hx : compO c.nG x = some y) : Sound c P o (opLoad1 y) := by
  intro call lb env s k r hc hl hf h
  obtain ⟨id, off, hb, h⟩ := onPtr_some h
  obtain ⟨row, hrow, h⟩ := onRow_some h
  obtain ⟨v, l', hl', h⟩ := headK_some h
  rw [dropL_eq] at hl'
  have hi : row.cells[off]? = some v := by
    have := congrArg (·[0]?) hl'
    simpa [List.getElem?_drop] using this
  obtain ⟨l, hL⟩ := op_read (c := c) (P := P) (o := o) (env := env) (lb := lb) (v := v) hrow fun e w a hob hd hops => by
    have hv := hops x (by simp [ho, Op.operands]) y hx
    rw [hb] at hv
    obtain ⟨g1, g2, _⟩ := RowR.cell hob hi
    refine ⟨.inl ?_, g2⟩
    simp [execOp, ho, hv.1, rho, Instr.loadAt, run_sureAddr, loadVar, run_isAgg ht, g1]
  exact ⟨_, _, _, h, hL⟩
theorem getElem?_rhos_take {e : Emb} {l : List V} {off n j : Nat} {v : Value} (h : (rhos e ((l.drop off).take n))[j]? = some v) : ∃ x, l[off + j]? = some x ∧ v = rho e x := by
  rw [rhos_get] at h
  cases hx : ((l.drop off).take n)[j]? with
  | none => rw [hx] at h; cases h
  | some x =>
    rw [hx] at h
    cases h
    rw [List.getElem?_take] at hx
    split at hx
    · rw [List.getElem?_drop] at hx
      exact ⟨x, hx, rfl⟩
    · cases hx
theorem RowR.load {e : Emb} {w : World} {id : Nat} {r : Row} (h : RowR e w id r) {off n : Nat} (hn : n ≤ (r.cells.drop off).length) :
    (loadCells ⟨e.f id, e.b id + off, none⟩ n).run P w = .ok (rhos e ((r.cells.drop off).take n)).toArray w ∧ oks e ((r.cells.drop off).take n) ∧ ∀ v ∈ (r.cells.drop off).take n, v.one = true := by
  have hl : (rhos e ((r.cells.drop off).take n)).length = n := by rw [rhos_len, List.length_take]; omega
  constructor
  · have := run_loadCells_list (P := P) (w := w) ⟨e.f id, e.b id + off, none⟩ (rhos e ((r.cells.drop off).take n)) fun j v hv => by
      obtain ⟨x, hx, rfl⟩ := getElem?_rhos_take hv
      rw [addr_add, Nat.add_assoc]
      exact (h.cell hx).1
    rwa [hl] at this
  · have key : ∀ v ∈ (r.cells.drop off).take n, ok e v ∧ v.one = true := by
      intro v hv
      obtain ⟨i, hi⟩ := List.mem_iff_getElem?.1 (List.mem_of_mem_drop (List.mem_of_mem_take hv))
      exact (h.cell hi).2
    exact ⟨(oks_iff _ _).2 fun v hv => (key v hv).1, fun v hv => (key v hv).2⟩
theorem s_loadn {t : TypeId} {n : Nat} {x : Operand} {y : O} (ho : o.op = .load t x) (ht : aggB P t = some true) (hn : sizeB P t = some n) (hx : compO c.nG x = some y) : Sound c P o (opLoadn n y) := by
  intro call lb env s k r hc hl hf h
  obtain ⟨id, off, hb, h⟩ := onPtr_some h
  obtain ⟨row, hrow, h⟩ := onRow_some h
  obtain ⟨hlen, h⟩ := takeK_some h
  rw [dropL_eq] at hlen h
  obtain ⟨l, hL⟩ := op_read (c := c) (P := P) (o := o) (env := env) (lb := lb) (v := .agg ((row.cells.drop off).take n)) hrow fun e w a hob hd hops => by
    have hv := hops x (by simp [ho, Op.operands]) y hx
    rw [hb] at hv
    obtain ⟨g1, g2⟩ := RowR.load (P := P) hob hlen
    refine ⟨.inl ?_, g2⟩
    simp [execOp, ho, hv.1, rho, Instr.loadAt, run_sureAddr, loadVar, run_isAgg ht, run_sizeB hn, g1]
  exact ⟨_, _, _, h, hL⟩
end Go.Kev
/- Kev: what makes new memory. -/
namespace Go.Kev
open Go.RowKit
variable {c : Ctx} {P : Program} {o : Oper} {env : Env} {s : S} {lb : Nat}
theorem op_new {v : V} {s' : S} {ob : Ob} (hlb : lb ≤ s.nx) (hs : s'.nx = s.nx + 1) (hl : s'.log = s.log) (hh : ∀ j, hp s' j = if j = s.nx then some ob else hp s j)
    (h : ∀ e w a, ¬ e.D s.nx → Ops c.nG e env a o.op.operands → ∃ w' obj M sz za zc, Pushed w w' obj ∧ ObR (e.put s.nx w.heap.size 0 M sz za zc) w' s.nx ob ∧
      Gives P o a w (rho (e.put s.nx w.heap.size 0 M sz za zc) v) w' ∧ ok (e.put s.nx w.heap.size 0 M sz za zc) v) : Loc c lb s s' [] (opAct P c.nG o env v) :=
  Loc.new hlb hs hl hh fun e w Q hn hq a next Q0 hops hk => by
    obtain ⟨w', obj, M, sz, za, zc, h1, h2, h3, h4⟩ := h e w a hn hops
    exact h3.wp (hk _ _ (hq w' obj M sz za zc h1 h2) (Emb.le_put e hn _ _ _ _ _ _) h4)
theorem Pushed.alloc (w : World) (obj : Obj) : Pushed w (w.alloc obj) obj := ⟨rfl, rfl, rfl, rfl⟩
theorem Emb.put_f (e : Emb) (id f b M sz : Nat) (za : Addr) (zc : Nat) : (e.put id f b M sz za zc).f id = f := if_pos rfl
theorem Emb.put_b (e : Emb) (id f b M sz : Nat) (za : Addr) (zc : Nat) : (e.put id f b M sz za zc).b id = b := if_pos rfl
theorem Emb.put_M (e : Emb) (id f b M sz : Nat) (za : Addr) (zc : Nat) : (e.put id f b M sz za zc).M id = M := if_pos rfl
theorem Emb.put_sz (e : Emb) (id f b M sz : Nat) (za : Addr) (zc : Nat) : (e.put id f b M sz za zc).sz id = sz := if_pos rfl
theorem Emb.put_D (e : Emb) (id f b M sz : Nat) (za : Addr) (zc : Nat) : (e.put id f b M sz za zc).D id := .inr rfl
/-- a row that was just made -/
theorem RowR.made {e : Emb} {w : World} {id : Nat} {r : Row} {cs : Array Value} (hh : w.heap[e.f id]? = some (.cells cs r.ty (0, 0))) (hb : e.b id = 0) (hs : e.sz id = r.esz)
    (hc : ∀ (i : Nat) (v : V), r.cells[i]? = some v → cs[i]? = some (rho e v) ∧ ok e v ∧ v.one = true) (hl : r.cells.length ≤ r.len) (h1 : r.ex = true → cs.size = r.len)
    (h2 : r.ex = false → 0 < r.esz ∧ cs.size = e.M id * r.esz ∧ r.len ≤ cs.size) : RowR e w id r :=
  ⟨hs, cs, 0, 0, hh, ⟨hl, Nat.le_refl _⟩, fun x => ⟨hb, by rw [hb, Nat.zero_add]; exact h1 x⟩, fun x => by
    obtain ⟨a, b, d⟩ := h2 x
    exact ⟨a, by rw [hb, Nat.zero_add]; exact b, by omega⟩, fun i v hv => by rw [hb, Nat.zero_add]; exact hc i v hv, fun j a b => by omega⟩
theorem cells_toArray {e : Emb} {l : List V} (hk : oks e l) (h1 : ∀ v ∈ l, v.one = true) (i : Nat) (v : V) (hv : l[i]? = some v) : (rhos e l).toArray[i]? = some (rho e v) ∧ ok e v ∧ v.one = true :=
  ⟨by rw [List.getElem?_toArray, rhos_get, hv]; rfl, (oks_iff e l).1 hk v (List.mem_of_getElem? hv), h1 v (List.mem_of_getElem? hv)⟩
theorem newRow_some {l : List V} {n esz ty : Nat} {ex : Bool} {k : Nat → S → R} {r : Env × S} (h : newRow s l n ex esz ty k = some r) :
    ∃ s', k s.nx s' = some r ∧ s'.nx = s.nx + 1 ∧ s'.log = s.log ∧ ∀ j, hp s' j = if j = s.nx then some (.row ⟨l, n, ex, esz, ty, 0, 0, false⟩) else hp s j := by
  obtain ⟨s', hk, h1, h2, h3⟩ := newOb_spec s (.row ⟨l, n, ex, esz, ty, 0, 0, false⟩)
  exact ⟨s', (hk k).symm.trans h, h1, h2, h3⟩
theorem s_alloc {t : TypeId} {i : TypeInfo} {z : Value} {zs : List V} (ho : o.op = .alloc t) (hi : P.info? t = some i) (hz : i.zero = some z) (hzs : valsC z.cells.toList = some zs) : Sound c P o (opAlloc t zs) := by
  intro call lb env s k r hc hl hf h
  obtain ⟨s', h, h1, h2, h3⟩ := newRow_some h
  refine ⟨_, _, _, h, op_new hl h1 h2 h3 fun e w a hn hops => ?_⟩
  have hz' := valsC_spec hzs (e.put s.nx w.heap.size 0 0 zs.length ⟨0, 0, none⟩ 0)
  refine ⟨w.alloc (.cells z.cells t), .cells z.cells t, 0, zs.length, ⟨0, 0, none⟩, 0, Pushed.alloc _ _, ?_, .inl ?_, Emb.put_D _ _ _ _ _ _ _ _⟩
  · refine RowR.made (cs := z.cells) ?_ (Emb.put_b _ _ _ _ _ _ _ _) ?_ (fun i v hv => ?_) ?_ (fun _ => ?_) (fun x => by cases x)
    · rw [Emb.put_f]; exact (Pushed.alloc w (.cells z.cells t)).at
    · rw [Emb.put_sz, lenL_eq]
    · have := cells_toArray hz'.2 (valsC_one hzs) i v hv
      rwa [hz'.1] at this
    · rw [lenL_eq]; exact Nat.le_refl _
    · rw [lenL_eq, ← Array.length_toList, ← hz'.1, rhos_len]
  · simp [execOp, ho, Instr.alloc, zeroValue, typeInfo, hi, hz, newVar, Go.newRow, rho, Emb.put_f, Emb.put_b]
theorem V.cells_rho (e : Emb) (x : V) (hx : ok e x) (hn : ∀ l, x ≠ .tup l) : (rho e x).cells.toList = rhos e x.cells ∧ oks e x.cells ∧ ∀ v ∈ x.cells, v.one = true := by
  cases x <;> first
    | exact ⟨by simp [rho, Value.cells, V.cells, V.onAgg, rhos], ⟨hx, trivial⟩, fun v hv => by simp only [V.cells, V.onAgg, List.mem_singleton] at hv; subst hv; rfl⟩
    | exact ⟨by simp [rho, Value.cells, V.cells, V.onAgg, rhos], hx.1, hx.2⟩
    | exact (hn _ rfl).elim
theorem onCells_some {β : Type} {x : V} {k : List V → Option β} {r : β} (h : x.onCells k none = some r) : (∀ l, x ≠ .tup l) ∧ k x.cells = some r := by
  cases x <;> first
    | exact ⟨(fun _ e => by cases e), h⟩
    | cases h
theorem s_box {t : TypeId} {x : Operand} {y : O} (ho : o.op = .box t x) (hx : compO c.nG x = some y) : Sound c P o (opBox t y) := by
  intro call lb env s k r hc hl hf h
  obtain ⟨hnt, h⟩ := onCells_some h
  obtain ⟨s', h, h1, h2, h3⟩ := newRow_some h
  refine ⟨_, _, _, h, op_new hl h1 h2 h3 fun e w a hn hops => ?_⟩
  have hv := hops x (by simp [ho, Op.operands]) y hx
  have hle := Emb.le_put e hn w.heap.size 0 0 (y.ev env).cells.length ⟨0, 0, none⟩ 0
  obtain ⟨k1, k2⟩ := rho_le hle _ hv.2
  obtain ⟨k3, k4, k5⟩ := V.cells_rho _ _ k1 hnt
  refine ⟨w.alloc (.cells (rho e (y.ev env)).cells t), .cells (rho e (y.ev env)).cells t, 0, (y.ev env).cells.length, ⟨0, 0, none⟩, 0, Pushed.alloc _ _, ?_, .inl ?_, Emb.put_D _ _ _ _ _ _ _ _⟩
  · refine RowR.made (cs := (rho e (y.ev env)).cells) ?_ (Emb.put_b _ _ _ _ _ _ _ _) ?_ (fun i v hv => ?_) ?_ (fun _ => ?_) (fun x => by cases x)
    · rw [Emb.put_f]; exact (Pushed.alloc w (.cells (rho e (y.ev env)).cells t)).at
    · rw [Emb.put_sz, lenL_eq]
    · have := cells_toArray k4 k5 i v hv
      rw [← k3, k2] at this
      simpa using this
    · rw [lenL_eq]; exact Nat.le_refl _
    · rw [lenL_eq, ← Array.length_toList, ← k2, k3, rhos_len]
  · simp [execOp, ho, hv.1, Instr.box, newVar, Go.newRow, rho, Emb.put_f, Emb.put_b]
theorem s_mkmap {t : TypeId} {x : Option Operand} (ho : o.op = .makeMap t x) (hx : x = none) : Sound c P o opMkmap := by
  intro call lb env s k r hc hl hf h
  obtain ⟨s', hk, h1, h2, h3⟩ := newOb_spec s (.map [])
  have h' : k (.map s.nx) s' = some r := (hk (fun id s => k (.map id) s)).symm.trans h
  refine ⟨_, _, _, h', op_new hl h1 h2 h3 fun e w a hn hops => ?_⟩
  refine ⟨w.alloc (.map #[] 0), .map #[] 0, 0, 0, ⟨0, 0, none⟩, 0, Pushed.alloc _ _, ⟨#[], 0, ?_, rfl, fun x hx => by cases hx⟩, .inl ?_, Emb.put_D _ _ _ _ _ _ _ _⟩
  · rw [Emb.put_f]; exact (Pushed.alloc w (.map #[] 0)).at
  · simp [execOp, ho, hx, Instr.makeMap, rho, Emb.put_f]
/-! ### composites -/
theorem cellsK_some {β : Type} {x : V} {n : Nat} {k : List V → Option β} {r : β} (h : cellsK x n k = some r) : x.cells.length = n ∧ (∀ l, x ≠ .tup l) ∧ k x.cells = some r := by
  obtain ⟨h1, h2⟩ := onCells_some h
  obtain ⟨h3, h4⟩ := cnd_none h2
  exact ⟨lenIs_iff.1 h3, h1, h4⟩
/-- parts among zeros, with what stands ahead of each -/
def gaps : Nat → List V → List (Nat × Nat × O) → Option (List (List V × Nat × O) × List V)
  | _, zs, [] => some ([], zs)
  | pos, zs, (off, n, x) :: r =>
    if pos ≤ off ∧ off - pos + n ≤ zs.length then
      match gaps (off + n) (zs.drop (off - pos + n)) r with
      | some (l, t) => some ((zs.take (off - pos), n, x) :: l, t)
      | none => none
    else none
/-- the cells that they make -/
noncomputable def filled (env : Env) (tail : List V) : List (List V × Nat × O) → List V
  | [] => tail
  | (z, _, x) :: r => z ++ ((x.ev env).cells ++ filled env tail r)
theorem fillK_some {β : Type} {r : β} {tail : List V} : ∀ {ps : List (List V × Nat × O)} {k : List V → Option β}, fillK env tail ps k = some r →
    (∀ p ∈ ps, (p.2.2.ev env).cells.length = p.2.1 ∧ ∀ l, p.2.2.ev env ≠ .tup l) ∧ k (filled env tail ps) = some r
  | [], k, h => ⟨(fun p hp => by cases hp), h⟩
  | p :: ps, k, h => by
    obtain ⟨h1, h0, h2⟩ := cellsK_some (r := r) h
    obtain ⟨h3, h4⟩ := fillK_some (ps := ps) (k := fun r => k (appL p.1 (appL (p.2.2.ev env).cells r))) h2
    rw [appL_eq, appL_eq] at h4
    exact ⟨fun q hq => by
      rcases List.mem_cons.1 hq with rfl | hq
      · exact ⟨h1, h0⟩
      · exact h3 q hq, h4⟩
end Go.Kev
/- Kev: structs, arrays and slices that are written out. -/
namespace Go.Kev
open Go.RowKit
variable {c : Ctx} {P : Program} {o : Oper} {env : Env} {s : S} {lb : Nat}
theorem overlay_aux : ∀ (cs : List Value) (k off : Nat) (A : Array Value), off + k + cs.length ≤ A.size →
    ((cs.zipIdx k).foldl (fun cs (x : Value × Nat) => cs.setIfInBounds (off + x.2) x.1) A).toList = A.toList.take (off + k) ++ (cs ++ A.toList.drop (off + k + cs.length))
  | [], k, off, A, h => by simp
  | x :: cs, k, off, A, h => by
    rw [List.zipIdx_cons, List.foldl_cons, overlay_aux cs (k + 1) off _ (by simp only [Array.size_setIfInBounds, List.length_cons] at h ⊢; omega)]
    have hs : (A.setIfInBounds (off + k) x).toList = A.toList.set (off + k) x := by simp
    rw [hs]
    simp only [List.length_cons] at h
    have hk : off + k < A.toList.length := by rw [Array.length_toList]; omega
    have h1 : (A.toList.set (off + k) x).take (off + (k + 1)) = A.toList.take (off + k) ++ [x] := by
      rw [← Nat.add_assoc, List.take_add_one, List.take_set_of_le (Nat.le_refl _), List.getElem?_set_self hk]
      rfl
    have h2 : (A.toList.set (off + k) x).drop (off + (k + 1) + cs.length) = A.toList.drop (off + k + (x :: cs).length) := by
      rw [List.drop_set_of_lt (by omega), List.length_cons]
      congr 1
      omega
    rw [h1, h2]
    simp
theorem overlay (v : Array Value) (off : Nat) (A : Array Value) (h : off + v.size ≤ A.size) :
    (v.zipIdx.foldl (fun cs (x : Value × Nat) => cs.setIfInBounds (off + x.2) x.1) A).toList = A.toList.take off ++ (v.toList ++ A.toList.drop (off + v.size)) := by
  have := overlay_aux v.toList 0 off A (by simpa using h)
  rw [← Array.foldl_toList, Array.toList_zipIdx]
  simpa using this
/-- parts of an operation, and what stands for them -/
inductive PartsR (nG : Nat) (place : Nat → Option (Nat × Nat)) : List (Nat × Operand) → List (Nat × Nat × O) → Prop
  | nil : PartsR nG place [] []
  | cons {i : Nat} {x : Operand} {off n : Nat} {y : O} {ps : List (Nat × Operand)} {qs : List (Nat × Nat × O)} (hp : place i = some (off, n)) (hx : compO nG x = some y) (h : PartsR nG place ps qs) :
      PartsR nG place ((i, x) :: ps) ((off, n, y) :: qs)
theorem rhos_append (e : Emb) (a b : List V) : rhos e (a ++ b) = rhos e a ++ rhos e b := by simp [rhos_map]
theorem rhos_take (e : Emb) (n : Nat) (a : List V) : rhos e (a.take n) = (rhos e a).take n := by simp [rhos_map, List.map_take]
theorem rhos_drop (e : Emb) (n : Nat) (a : List V) : rhos e (a.drop n) = (rhos e a).drop n := by simp [rhos_map, List.map_drop]
theorem oks_append {e : Emb} {a b : List V} : oks e (a ++ b) ↔ oks e a ∧ oks e b := by
  simp only [oks_iff, List.mem_append]
  exact ⟨fun h => ⟨fun v hv => h v (.inl hv), fun v hv => h v (.inr hv)⟩, fun h v hv => hv.elim (h.1 v) (h.2 v)⟩
theorem fill_spec {nG : Nat} {place : Nat → Option (Nat × Nat)} {e : Emb} {a : Act} : ∀ {ps : List (Nat × Operand)} {qs : List (Nat × Nat × O)}, PartsR nG place ps qs →
    ∀ {pos : Nat} {zs : List V} {l : List (List V × Nat × O)} {tail : List V}, gaps pos zs qs = some (l, tail) → (∀ p ∈ l, (p.2.2.ev env).cells.length = p.2.1 ∧ ∀ m, p.2.2.ev env ≠ .tup m) →
    (∀ p ∈ ps, ∀ y, compO nG p.2 = some y → a.eval p.2 = rho e (y.ev env) ∧ ok e (y.ev env)) → oks e zs → (∀ v ∈ zs, v.one = true) → ∀ A : List Value, A.length = pos →
    Instr.fill place (A ++ rhos e zs).toArray (ps.map fun p => (p.1, a.eval p.2)) = some (A ++ rhos e (filled env tail l)).toArray ∧ oks e (filled env tail l) ∧ ∀ v ∈ filled env tail l, v.one = true := by
  intro ps qs hpq
  induction hpq with
  | nil =>
    intro pos zs l tail hg hl hx hz hz1 A hA
    simp only [gaps, Option.some.injEq, Prod.mk.injEq] at hg
    obtain ⟨rfl, rfl⟩ := hg
    exact ⟨rfl, hz, hz1⟩
  | @cons i x off n y ps qs hp hx h ih =>
    intro pos zs l tail hg hl hops hz hzo A hA
    simp only [gaps] at hg
    split at hg
    · rename_i hb
      split at hg
      · rename_i l' t' hg'
        simp only [Option.some.injEq, Prod.mk.injEq] at hg
        obtain ⟨rfl, rfl⟩ := hg
        obtain ⟨v1, v2⟩ := hops (i, x) (by simp) y hx
        obtain ⟨hcl, hnt⟩ := hl (zs.take (off - pos), n, y) (by simp)
        have hcl : (y.ev env).cells.length = n := hcl
        obtain ⟨w1, w2, w3⟩ := V.cells_rho e _ v2 hnt
        have hsz : (rho e (y.ev env)).cells.size = n := by rw [← Array.length_toList, w1, rhos_len, hcl]
        have hz2 : oks e (zs.drop (off - pos + n)) := by rw [oks_iff] at hz ⊢; exact fun v hv => hz v (List.mem_of_mem_drop hv)
        have hz1 : oks e (zs.take (off - pos)) := by rw [oks_iff] at hz ⊢; exact fun v hv => hz v (List.mem_of_mem_take hv)
        have hAl : (A ++ rhos e (zs.take (off - pos)) ++ rhos e (y.ev env).cells).length = off + n := by
          rw [List.length_append, List.length_append, rhos_len, rhos_len, hcl, List.length_take, hA]; omega
        obtain ⟨f1, f2, f3⟩ := ih hg' (fun p hp => hl p (by simp [hp])) (fun p hp => hops p (by simp [hp])) hz2 (fun v hv => hzo v (List.mem_of_mem_drop hv)) _ hAl
        constructor
        · simp only [List.map_cons, Instr.fill, hp, v1]
          rw [if_neg (by
            simp only [hsz, ne_eq, not_true, decide_false, Bool.false_or, decide_eq_true_eq, List.size_toArray, List.length_append, rhos_len, hA]
            omega)]
          have hov := overlay (rho e (y.ev env)).cells off (A ++ rhos e zs).toArray (by simp only [hsz, List.size_toArray, List.length_append, rhos_len, hA]; omega)
          have hov2 : ((rho e (y.ev env)).cells.zipIdx.foldl (fun cs (x : Value × Nat) => cs.setIfInBounds (off + x.2) x.1) (A ++ rhos e zs).toArray) =
              (A ++ rhos e (zs.take (off - pos)) ++ rhos e (y.ev env).cells ++ rhos e (zs.drop (off - pos + n))).toArray := by
            apply Array.ext'
            rw [hov, hsz, w1]
            simp only [List.append_assoc]
            rw [List.take_append, hA, List.take_of_length_le (by omega), List.drop_append, hA, List.drop_of_length_le (by omega), rhos_take, rhos_drop]
            simp only [List.nil_append, List.append_assoc]
            congr 4
            omega
          rw [hov2, f1]
          congr 2
          simp only [filled, rhos_append, List.append_assoc]
        · simp only [filled]
          refine ⟨oks_append.2 ⟨hz1, oks_append.2 ⟨w2, f2⟩⟩, fun v hv => ?_⟩
          rcases List.mem_append.1 hv with hv | hv
          · exact hzo v (List.mem_of_mem_take hv)
          · rcases List.mem_append.1 hv with hv | hv
            · exact w3 v hv
            · exact f3 v hv
      · cases hg
    · cases hg
theorem Ops.parts {nG : Nat} {e : Emb} {a : Act} {xs : Array Operand} (h : Ops nG e env a xs) {ps : List (Nat × Operand)} (hs : ∀ p ∈ ps, p.2 ∈ xs) :
    ∀ p ∈ ps, ∀ y, compO nG p.2 = some y → a.eval p.2 = rho e (y.ev env) ∧ ok e (y.ev env) := fun p hp y hy => h p.2 (hs p hp) y hy
theorem s_build {t : TypeId} {ps : Array (Nat × Operand)} {qs : List (Nat × Nat × O)} {place : Nat → Option (Nat × Nat)} {it : TypeInfo} {z : Value} {zs : List V} {l : List (List V × Nat × O)} {tail : List V}
    (ho : o.op = .build t ps) (hi : P.info? t = some it) (hz : it.zero = some z) (hzs : valsC z.cells.toList = some zs)
    (hb : ∀ parts : List (Nat × Value), P.built t parts = Instr.fill place z.cells parts)
    (hq : PartsR c.nG place ps.toList qs) (hg : gaps 0 zs qs = some (l, tail)) : Sound c P o (opBuild l tail) := by
  intro call lb env s k r hc hl hf h
  obtain ⟨h1, h2⟩ := fillK_some h
  refine ⟨_, _, _, h2, op_pure fun e w a hops => ?_⟩
  obtain ⟨k1, k2⟩ := valsC_spec hzs e
  obtain ⟨f1, f2, f3⟩ := fill_spec hq hg h1 (hops.parts fun p hp => by
    rw [ho]
    simp only [Op.operands, List.mem_toArray, List.mem_map]
    exact ⟨p, hp, rfl⟩) k2 (valsC_one hzs) [] rfl
  refine ⟨.inl ?_, f2, f3⟩
  have hbt : P.built t (ps.map fun (i, x) => (i, a.eval x)).toList = some (rhos e (filled env tail l)).toArray := by
    rw [hb, Array.toList_map]
    simpa [k1] using f1
  simp only [execOp, ho, Sem.run_bind, run_build w t _ _ hbt, Result.andThen_ok, Sem.run_pure, rho]
theorem cells_flat (z : Array Value) (n : Nat) : ∀ m, ((Array.range (m * z.size)).map (z[· % z.size]!)).toList = (List.replicate m z.toList).flatten
  | 0 => by simp
  | m + 1 => by
    have ih := cells_flat z n m
    rw [List.replicate_succ', List.flatten_concat, ← ih]
    simp only [Array.toList_map, Array.toList_range]
    rw [Nat.succ_mul, List.range_add, List.map_append, List.map_map]
    congr 1
    apply List.ext_getElem?
    intro i
    by_cases hi : i < z.size
    · rw [List.getElem?_map, List.getElem?_range hi, Option.map_some, Array.getElem?_toList, Array.getElem?_eq_getElem hi]
      simp only [Function.comp_apply]
      rw [Nat.mul_add_mod_self_right, Nat.mod_eq_of_lt hi, getElem!_pos z i hi]
    · rw [List.getElem?_eq_none (by simp; omega), List.getElem?_eq_none (by simp; omega)]
theorem s_bslice {t el : TypeId} {len : Nat} {ps : Array (Nat × Operand)} {qs : List (Nat × Nat × O)} {it : TypeInfo} {z : Value} {zs : List V} {l : List (List V × Nat × O)} {tail : List V}
    (ho : o.op = .buildSlice t len ps) (ht : P.underlying t = some (.slice el)) (hi : P.info? el = some it) (hz : it.zero = some z) (hzs : valsC z.cells.toList = some zs) (hsz : zs.length = it.size)
    (hbig : len * it.size ≤ 2 ^ 24)
    (hq : PartsR c.nG (fun i => some (i * it.size, it.size)) ps.toList qs) (hg : gaps 0 (List.replicate len zs).flatten qs = some (l, tail)) : Sound c P o (opBslice el len it.size l tail) := by
  intro call lb env s k r hc hl hf h
  obtain ⟨h1, h2⟩ := fillK_some h
  obtain ⟨s', h, h3, h4, h5⟩ := newRow_some h2
  refine ⟨_, _, _, h, op_new hl h3 h4 h5 fun e w a hn hops => ?_⟩
  have hle := Emb.le_put e hn w.heap.size 0 0 it.size ⟨0, 0, none⟩ 0
  obtain ⟨k1, k2⟩ := valsC_spec hzs (e.put s.nx w.heap.size 0 0 it.size ⟨0, 0, none⟩ 0)
  have kz : oks (e.put s.nx w.heap.size 0 0 it.size ⟨0, 0, none⟩ 0) (List.replicate len zs).flatten := by
    rw [oks_iff] at k2 ⊢
    intro v hv
    simp only [List.mem_flatten, List.mem_replicate] at hv
    obtain ⟨m, ⟨_, rfl⟩, hv⟩ := hv
    exact k2 v hv
  have hzl : z.cells.size = it.size := by rw [← Array.length_toList, ← k1, rhos_len, hsz]
  obtain ⟨f1, f2, f3⟩ := fill_spec (e := e.put s.nx w.heap.size 0 0 it.size ⟨0, 0, none⟩ 0) (a := a) hq hg h1 (fun p hp y hy => by
    have hv := hops p.2 (by
      rw [ho]
      simp only [Op.operands, List.mem_toArray, List.mem_map]
      exact ⟨p, hp, rfl⟩) y hy
    obtain ⟨m1, m2⟩ := rho_le hle _ hv.2
    exact ⟨by rw [m2]; exact hv.1, m1⟩) kz (fun v hv => by
      simp only [List.mem_flatten, List.mem_replicate] at hv
      obtain ⟨m, ⟨_, rfl⟩, hv⟩ := hv
      exact valsC_one hzs v hv) [] rfl
  have hr : rhos (e.put s.nx w.heap.size 0 0 it.size ⟨0, 0, none⟩ 0) (List.replicate len zs).flatten = (List.replicate len z.cells.toList).flatten := by
    rw [rhos_map, List.map_flatten, List.map_replicate, ← rhos_map, k1]
  have hfill : Instr.fill (fun i => some (i * it.size, it.size)) (List.replicate len z.cells.toList).flatten.toArray (ps.toList.map fun x => (x.1, a.eval x.2)) =
      some (rhos (e.put s.nx w.heap.size 0 0 it.size ⟨0, 0, none⟩ 0) (filled env tail l)).toArray := by
    rw [List.nil_append, List.nil_append, hr] at f1
    exact f1
  have hflat := cells_flat z.cells 0 len
  rw [hzl] at hflat
  have hlen : (filled env tail l).length = len * it.size := by
    have hsf : ∀ (ps : List (Nat × Value)) (A B : Array Value), Instr.fill (fun i => some (i * it.size, it.size)) A ps = some B → B.size = A.size := by
      intro ps
      induction ps with
      | nil => intro A B h; cases h; rfl
      | cons p ps ih =>
        intro A B h
        simp only [Instr.fill] at h
        split at h
        · cases h
        · rename_i hc
          rw [ih _ _ h]
          have hov := overlay p.2.cells (p.1 * it.size) A (by
            simp only [ne_eq, Bool.or_eq_true, decide_eq_true_eq, not_or, Decidable.not_not, Nat.not_lt] at hc
            omega)
          have := congrArg List.length hov
          simp only [Array.length_toList, List.length_append, List.length_take, List.length_drop] at this
          simp only [ne_eq, Bool.or_eq_true, decide_eq_true_eq, not_or, Decidable.not_not, Nat.not_lt] at hc
          omega
    have h9 := hsf _ _ _ hfill
    rw [← hflat] at h9
    simpa [rhos_len] using h9
  refine ⟨w.alloc (.cells (rhos (e.put s.nx w.heap.size 0 0 it.size ⟨0, 0, none⟩ 0) (filled env tail l)).toArray el), .cells (rhos (e.put s.nx w.heap.size 0 0 it.size ⟨0, 0, none⟩ 0) (filled env tail l)).toArray el, 0, it.size, ⟨0, 0, none⟩, 0, Pushed.alloc _ _, ?_, .inl ?_, ?_⟩
  · refine RowR.made (cs := (rhos (e.put s.nx w.heap.size 0 0 it.size ⟨0, 0, none⟩ 0) (filled env tail l)).toArray) ?_ (Emb.put_b _ _ _ _ _ _ _ _) (Emb.put_sz _ _ _ _ _ _ _ _) (fun i v hv => cells_toArray f2 f3 i v hv) ?_ (fun _ => ?_) (fun x => by cases x)
    · rw [Emb.put_f]; exact (Pushed.alloc w _).at
    · show (filled env tail l).length ≤ len * it.size
      omega
    · show (rhos _ (filled env tail l)).toArray.size = len * it.size
      rw [List.size_toArray, rhos_len, hlen]
  · have hbig' : ¬ (len * it.size > 2 ^ 24) := by omega
    by_cases h0 : len * it.size = 0
    · have hf0 : (List.replicate len z.cells.toList).flatten.toArray = #[] := by
        rw [← hflat, h0]; simp
      have he : (Array.range 0).map (fun _ : Nat => (default : Value)) = #[] := by simp
      rw [hf0, ← he] at hfill
      simp [execOp, ho, Instr.buildSlice, run_underlying ht, sizeOf, typeInfo, hi, h0, hfill, Go.newRow, rho, Emb.put_f, Emb.put_b]
    · have hf0 : (List.replicate len z.cells.toList).flatten.toArray = (Array.range (len * it.size)).map (z.cells[· % z.cells.size]!) := by
        rw [← hflat, hzl]
      rw [hf0] at hfill
      have hb2 : ¬ (16777216 < len * it.size) := by omega
      simp [execOp, ho, Instr.buildSlice, run_underlying ht, sizeOf, typeInfo, hi, h0, hb2, zeroValue, hz, hfill, Go.newRow, rho, Emb.put_f, Emb.put_b]
  · exact ⟨Emb.put_D _ _ _ _ _ _ _ _, Nat.le_refl _, fun x => by cases x⟩
end Go.Kev
/- Kev: what writes memory. -/
namespace Go.Kev
open Go.RowKit
variable {c : Ctx} {P : Program} {o : Oper} {env : Env} {s : S} {lb : Nat}
theorem Wrote.refl (w : World) (k : Nat) : Wrote w w k := ⟨rfl, fun _ _ => rfl, rfl, rfl, rfl⟩
theorem Wrote.trans {a b d : World} {k : Nat} (h : Wrote a b k) (g : Wrote b d k) : Wrote a d k :=
  ⟨g.size.trans h.size, fun j hj => (g.other j hj).trans (h.other j hj), g.os.trans h.os, g.tape.trans h.tape, g.output.trans h.output⟩
theorem one_rho {e : Emb} {v : V} (h : v.one = true) : (rho e v).oneCell' = true := by
  cases v <;> first | rfl | cases h
theorem setCell_wrote (w : World) (a : Addr) (v : Value) : Wrote w (w.setCell a v) a.block :=
  ⟨by simp, fun j hj => Below.heap_setCell w a v j hj, rfl, rfl, rfl⟩
theorem setCell_at {w : World} {g i : Nat} {cs : Array Value} {ty : TypeId} {fz : Nat × Nat} (h : w.heap[g]? = some (.cells cs ty fz)) (v : Value) :
    (w.setCell ⟨g, i, none⟩ v).heap[g]? = some (.cells (cs.setIfInBounds i v) ty fz) := by
  simp only [World.setCell, Array.getElem?_modify, if_true, h]
  rfl
theorem frozen_of {w : World} {b i : Nat} {cs : Array Value} {ty : TypeId} {x y : Nat} (h : w.heap[b]? = some (.cells cs ty (x, y))) : w.frozen? ⟨b, i, none⟩ = (decide (x ≤ i) && decide (i < y)) := by
  simp [World.frozen?, h]
/-- cells are stored one behind the other -/
theorem run_storeCells (g o : Nat) (ty : TypeId) (x y : Nat) : ∀ (vs : List Value) (i : Nat) (cs : Array Value) (w : World), w.heap[g]? = some (.cells cs ty (x, y)) → (∀ v ∈ vs, v.oneCell' = true) →
    o + i + vs.length ≤ cs.size → (∀ j, o + i ≤ j → j < o + i + vs.length → ¬ (x ≤ j ∧ j < y)) →
    ∃ w' cs', (storeCells ⟨g, o, none⟩ vs i).run P w = .ok () w' ∧ Wrote w w' g ∧ w'.heap[g]? = some (.cells cs' ty (x, y)) ∧ cs'.size = cs.size ∧
      ∀ j, cs'[j]? = if o + i ≤ j ∧ j < o + i + vs.length then vs[j - (o + i)]? else cs[j]?
  | [], i, cs, w, h, _, _, _ => ⟨w, cs, rfl, .refl w g, h, rfl, fun j => by rw [if_neg]; simp only [List.length_nil]; omega⟩
  | v :: vs, i, cs, w, h, hone, hlen, hfz => by
    simp only [List.length_cons] at hlen hfz ⊢
    have hcell : w.cell? ⟨g, o + i, none⟩ = some cs[o + i] := by rw [cell_of h]; exact Array.getElem?_eq_getElem (by omega)
    have hst : (store (⟨g, o + i, none⟩ : Addr) v).run P w = .ok () (w.setCell ⟨g, o + i, none⟩ v) := by
      rw [run_store P w _ v _ (hone v (by simp)), hcell]
      simp only
      rw [if_neg]
      rw [frozen_of h]
      have := hfz (o + i) (Nat.le_refl _) (by omega)
      simp only [Bool.and_eq_true, decide_eq_true_eq]
      exact this
    have hs := setCell_at (i := o + i) h v
    obtain ⟨w', cs', r1, r2, r3, r4, r5⟩ := run_storeCells g o ty x y vs (i + 1) _ _ hs (fun u hu => hone u (by simp [hu])) (by rw [Array.size_setIfInBounds]; omega) (fun j h1 h2 => hfz j (by omega) (by omega))
    refine ⟨w', cs', ?_, (setCell_wrote w ⟨g, o + i, none⟩ v).trans r2, r3, by rw [r4, Array.size_setIfInBounds], fun j => ?_⟩
    · simp only [storeCells, Sem.run_bind, addr_add, hst, Result.andThen_ok]
      exact r1
    · rw [r5]
      by_cases hj : o + i = j
      · subst hj
        rw [if_neg (by omega), if_pos (by omega), Array.getElem?_setIfInBounds_self_of_lt (by omega)]
        simp
      · by_cases hj2 : o + (i + 1) ≤ j ∧ j < o + (i + 1) + vs.length
        · rw [if_pos hj2, if_pos (by omega), show j - (o + i) = (j - (o + (i + 1))) + 1 by omega, List.getElem?_cons_succ]
        · rw [if_neg hj2, if_neg (by omega), Array.getElem?_setIfInBounds_ne hj]
/-- A row, written from a place on. -/
def Row.lay (r : Row) (off : Nat) (vs : List V) : Row :=
  { r with cells := r.cells.take off ++ (vs ++ r.cells.drop (off + vs.length)), len := if off + vs.length ≤ r.len then r.len else off + vs.length }
theorem RowR.store {e : Emb} {w : World} {id : Nat} {r : Row} (h : RowR e w id r) {off : Nat} {vs : List V} (hv : oks e vs) (hone : ∀ v ∈ vs, v.one = true)
    (hfz : off + vs.length ≤ r.lo ∨ r.hi ≤ off) (hex : r.ex = true → off + vs.length ≤ r.len) (hin : r.ex = false → off + vs.length ≤ e.M id * r.esz) (hoff : off ≤ r.cells.length) :
    ∃ w', (storeCells ⟨e.f id, e.b id + off, none⟩ (rhos e vs)).run P w = .ok () w' ∧ Wrote w w' (e.f id) ∧ RowR e w' id (r.lay off vs) := by
  obtain ⟨h1, cs, x, y, h2, h3, h4, h5, h6, h7⟩ := h
  have hsz : e.b id + off + 0 + (rhos e vs).length ≤ cs.size := by
    rw [rhos_len]
    cases hx : r.ex with
    | true => have := h4 hx; have := hex hx; omega
    | false => obtain ⟨_, a, b⟩ := h5 hx; have := hin hx; omega
  obtain ⟨w', cs', r1, r2, r3, r4, r5⟩ := run_storeCells (P := P) (e.f id) (e.b id + off) r.ty x y (rhos e vs) 0 cs w h2
    (fun u hu => by
      rw [rhos_map, List.mem_map] at hu
      obtain ⟨v, hv', rfl⟩ := hu
      exact one_rho (hone v hv')) hsz (fun j a b hc => by
        rw [rhos_len] at b
        have := h7 (j - e.b id) (by omega) (by omega)
        omega)
  rw [rhos_len] at r5
  refine ⟨w', r1, r2, h1, cs', x, y, r3, ?_, fun z => ?_, fun z => ?_, fun i v hi => ?_, h7⟩
  · refine ⟨?_, h3.2⟩
    simp only [Row.lay, List.length_append, List.length_take, List.length_drop]
    split <;> omega
  · refine ⟨(h4 z).1, ?_⟩
    rw [r4, (h4 z).2]
    simp only [Row.lay]
    rw [if_pos (hex z)]
  · obtain ⟨a, b, d⟩ := h5 z
    refine ⟨a, by rw [r4]; exact b, ?_⟩
    simp only [Row.lay]
    have := hin z
    split <;> omega
  · rw [r5]
    simp only [Row.lay] at hi
    by_cases q1 : i < off
    · rw [List.getElem?_append_left (by rw [List.length_take]; omega), List.getElem?_take_of_lt q1] at hi
      rw [if_neg (by omega)]
      exact h6 i v hi
    · rw [List.getElem?_append_right (by rw [List.length_take]; omega), List.length_take, Nat.min_eq_left hoff] at hi
      by_cases q2 : i - off < vs.length
      · rw [List.getElem?_append_left q2] at hi
        rw [if_pos (by omega), show e.b id + i - (e.b id + off + 0) = i - off by omega, rhos_get, hi]
        exact ⟨rfl, (oks_iff e vs).1 hv v (List.mem_of_getElem? hi), hone v (List.mem_of_getElem? hi)⟩
      · rw [List.getElem?_append_right (by omega), List.getElem?_drop, show off + vs.length + (i - off - vs.length) = i by omega] at hi
        rw [if_neg (by omega)]
        exact h6 i v hi
theorem storeRow_some {lim : Bool} {id off : Nat} {vs : List V} {k : S → R} {r : Env × S} (h : storeRow lim lb id off vs s k = some r) :
    ∃ row s', hp s id = some (.row row) ∧ row.ro = false ∧ (off + vs.length ≤ row.lo ∨ row.hi ≤ off) ∧ (row.ex = true ∨ lim = true → off + vs.length ≤ row.len) ∧ off ≤ row.cells.length ∧
      s'.nx = s.nx ∧ s'.log = s.log ∧ (∀ j, hp s' j = if j = id then some (.row (row.lay off vs)) else hp s j) ∧ k (touch lb id 1 s') = some r := by
  obtain ⟨row, hrow, h⟩ := onRow_some h
  obtain ⟨h1, h⟩ := cnd_none' h
  obtain ⟨h2, h⟩ := cnd_none h
  obtain ⟨h3, h⟩ := cnd_none h
  obtain ⟨h4, h⟩ := layK_some h
  obtain ⟨s', hk, n1, n2, n3⟩ := setOb_spec s id (.row ⟨row.cells.take off ++ (vs ++ row.cells.drop (off + vs.length)), cnd (Nat.ble (Nat.add off (lenL vs)) row.len) row.len (Nat.add off (lenL vs)), row.ex, row.esz, row.ty, row.lo, row.hi, row.ro⟩)
  have h5 := (hk (fun s => k (touch lb id 1 s))).symm.trans h
  refine ⟨row, s', hrow, h1, ?_, fun z => ?_, h4, n1, n2, fun j => ?_, h5⟩
  · rw [cnd_eq, lenL_eq] at h2
    split at h2
    · rename_i q; rw [Nat.ble_eq] at q; exact .inl q
    · rw [Nat.ble_eq] at h2; exact .inr h2
  · have : cnd lim true row.ex = true := by
      rcases z with z | z <;> rw [z]
      · cases lim <;> rfl
      · rfl
    rw [this, cnd_true, lenL_eq, Nat.ble_eq] at h3; exact h3
  · rw [n3]
    congr 3
    simp only [Row.lay, cnd_eq, lenL_eq, Nat.ble_eq]
    rfl
theorem Fresh.lt (h : Fresh s) {id : Nat} {ob : Ob} (ho : hp s id = some ob) : id < s.nx := by
  rcases Nat.lt_or_ge id s.nx with x | x
  · exact x
  · rw [h id x] at ho; cases ho
theorem op_set {v : V} {s' : S} {id : Nat} {ob ob' : Ob} (hf : Fresh s) (hs : s'.nx = s.nx) (hl : s'.log = s.log) (hh : ∀ j, hp s' j = if j = id then some ob' else hp s j) (hob : hp s id = some ob) (hrw : ob.rw = true)
    (h : ∀ e w a, ObR e w id ob → e.D id → Ops c.nG e env a o.op.operands → ∃ w', Wrote w w' (e.f id) ∧ ObR e w' id ob' ∧ Gives P o a w (rho e v) w' ∧ ok e v) :
    ∃ l, Loc c lb s (touch lb id 1 s') l (opAct P c.nG o env v) :=
  Loc.set hs hl hh hob hrw (hf.lt hob) fun e w Q hb hd hq a next Q0 hops hk => by
    obtain ⟨w', h1, h2, h3, h4⟩ := h e w a hb hd hops
    exact h3.wp (hk e w' (hq w' h1 h2) (.refl e) h4)
theorem s_store {t : TypeId} {n : Nat} {x1 x2 : Operand} {y1 y2 : O} (ho : o.op = .store t x1 x2) (hn : sizeB P t = some n) (h1 : compO c.nG x1 = some y1) (h2 : compO c.nG x2 = some y2) : Sound c P o (opStore n y1 y2) := by
  intro call lb env s k r hc hl hf h
  obtain ⟨id, off, hb, h⟩ := onPtr_some h
  obtain ⟨hcl, hnt, h⟩ := cellsK_some h
  obtain ⟨row, s', hrow, hro, hfz, hex, hoff, n1, n2, n3, h⟩ := storeRow_some h
  obtain ⟨l, hL⟩ := op_set (c := c) (P := P) (o := o) (env := env) (lb := lb) (v := .tup []) hf n1 n2 n3 hrow (by simp [Ob.rw, hro]) fun e w a hob hd hops => by
    have v1 := hops x1 (by simp [ho, Op.operands]) y1 h1
    have v2 := hops x2 (by simp [ho, Op.operands]) y2 h2
    rw [hb] at v1
    obtain ⟨k1, k2, k3⟩ := V.cells_rho e _ v2.2 hnt
    have hob' : RowR e w id row := hob
    obtain ⟨w', r1, r2, r3⟩ := hob'.store (P := P) (off := off) k2 k3 hfz (fun z => hex (.inl z)) (fun z => by
      obtain ⟨_, cs, x, y, _, _, _, q, _⟩ := hob'
      have := hex (.inr rfl)
      have := (q z).2.2
      omega) hoff
    refine ⟨w', r2, r3, .inr ⟨?_, rfl⟩, trivial⟩
    have hsz : (rho e (y2.ev env)).cells.size = n := by rw [← Array.length_toList, k1, rhos_len, hcl]
    simp [execOp, ho, v1.1, v2.1, rho, Instr.storeAt, run_sureAddr, storeVar, run_sizeB hn, hsz, k1, r1]
  exact ⟨_, _, _, h, hL⟩
end Go.Kev
/- Kev: parts, lengths, slices. -/
namespace Go.Kev
open Go.RowKit
variable {c : Ctx} {P : Program} {o : Oper} {env : Env} {s : S} {lb : Nat}
theorem partL_some {β : Type} {size : Nat} {l : List V} {k : V → Option β} {r : β} (h : partL size l k = some r) :
    (size = 0 ∧ ∃ v, l[0]? = some v ∧ k v = some r) ∨ (size ≠ 0 ∧ k (.agg (l.take size)) = some r) := by
  cases size with
  | zero =>
    obtain ⟨x, l', rfl, h⟩ := headK_some (l := l) (k := k) h
    exact .inl ⟨rfl, x, rfl, h⟩
  | succ m =>
    refine .inr ⟨by omega, ?_⟩
    have : k (.agg (takeL (Nat.succ m) l)) = some r := h
    rwa [takeL_eq] at this
/-- the part that partL hands on -/
def partV (size off : Nat) (l : List V) : V := if size = 0 then (l[off]?).getD .nilp else .agg ((l.drop off).take size)
theorem partL_partV {β : Type} {size off : Nat} {l : List V} {k : V → Option β} {r : β} (h : partL size (dropL l off) k = some r) :
    k (partV size off l) = some r ∧ (size = 0 → (l[off]?).isSome = true) := by
  rw [dropL_eq] at h
  rcases partL_some h with ⟨h1, v, hv, hk⟩ | ⟨h1, hk⟩
  · rw [List.getElem?_drop, Nat.add_zero] at hv
    exact ⟨by rw [partV, if_pos h1, hv]; exact hk, fun _ => by rw [hv]; rfl⟩
  · exact ⟨by rw [partV, if_neg h1]; exact hk, fun x => (h1 x).elim⟩
theorem part_spec {e : Emb} {l : List V} (hl : oks e l) (ho : ∀ v ∈ l, v.one = true) {t : TypeId} {agg : Bool} {size off : Nat} (ha : aggB P t = some agg) (hs : sizeB P t = some size) (hz : agg = true → size ≠ 0)
    (hx : (cnd agg size 0) = 0 → (l[off]?).isSome = true) (w : World) : (part t (rhos e l).toArray off).run P w = .ok (rho e (partV (cnd agg size 0) off l)) w ∧ ok e (partV (cnd agg size 0) off l) := by
  cases agg with
  | false =>
    obtain ⟨v, hv⟩ := Option.isSome_iff_exists.1 (hx rfl)
    have hp : partV (cnd false size 0) off l = v := by rw [partV, cnd_false, if_pos rfl, hv]; rfl
    rw [hp]
    exact ⟨by simp [part, run_isAgg ha, rhos_get, hv], (oks_iff e l).1 hl v (List.mem_of_getElem? hv)⟩
  | true =>
    have hp : partV (cnd true size 0) off l = .agg ((l.drop off).take size) := by rw [partV, cnd_true, if_neg (hz rfl)]
    rw [hp]
    refine ⟨?_, ?_, ?_⟩
    · simp only [part, Sem.run_bind, run_isAgg ha, Result.andThen_ok, if_true, run_sizeB hs, Sem.run_pure, rho]
      congr 2
      apply Array.ext'
      simp [rhos_take, rhos_drop]
    · rw [oks_iff] at hl ⊢
      exact fun v hv => hl v (List.mem_of_mem_drop (List.mem_of_mem_take hv))
    · exact fun v hv => ho v (List.mem_of_mem_drop (List.mem_of_mem_take hv))
theorem s_fld {t : TypeId} {i size : Nat} {agg : Bool} {fs : Array Field} {f : Field} {x : Operand} {y : O} (ho : o.op = .field t x i) (ht : P.underlying t = some (.struct fs)) (hf_ : fs[i]? = some f) (ha : aggB P f.type = some agg) (hs : sizeB P f.type = some size) (hz : agg = true → size ≠ 0)
    (hx : compO c.nG x = some y) : Sound c P o (opFld agg f.offset size y) := by
  intro call lb env s k r hc hl hf h
  obtain ⟨l, hb, h⟩ := onAgg_some h
  obtain ⟨h1, h2⟩ := partL_partV h
  refine ⟨_, _, _, h1, op_pure fun e w a hops => ?_⟩
  have hv := hops x (by simp [ho, Op.operands]) y hx
  rw [hb] at hv
  obtain ⟨g1, g2⟩ := part_spec (P := P) hv.2.1 hv.2.2 ha hs hz h2 w
  refine ⟨.inl ?_, g2⟩
  simp [execOp, ho, hv.1, rho, Instr.field, run_underlying ht, hf_, asAgg, g1]
theorem s_idxA {t el : TypeId} {n esz : Nat} {agg : Bool} {x1 x2 : Operand} {y1 y2 : O} (ho : o.op = .index t x1 x2) (ht : P.underlying t = some (.array n el)) (ha : aggB P el = some agg) (hs : sizeB P el = some esz) (hz : agg = true → esz ≠ 0)
    (h1 : compO c.nG x1 = some y1) (h2 : compO c.nG x2 = some y2) : Sound c P o (opIdxA agg n esz y1 y2) := by
  intro call lb env s k r hc hl hf h
  obtain ⟨l, hb, h⟩ := onAgg_some h
  obtain ⟨kd, i, hi, h⟩ := onNat_some h
  obtain ⟨hlt, h⟩ := cnd_none h
  rw [Nat.blt_eq] at hlt
  obtain ⟨h3, h4⟩ := partL_partV h
  refine ⟨_, _, _, h3, op_pure fun e w a hops => ?_⟩
  have v1 := hops x1 (by simp [ho, Op.operands]) y1 h1
  have v2 := hops x2 (by simp [ho, Op.operands]) y2 h2
  rw [hb] at v1
  rw [hi] at v2
  obtain ⟨g1, g2⟩ := part_spec (P := P) v1.2.1 v1.2.2 ha hs hz h4 w
  refine ⟨.inl ?_, g2⟩
  have g1' : (part el (rhos e l).toArray (i * esz)).run P w = .ok (rho e (partV (cnd agg esz 0) (Nat.mul i esz) l)) w := g1
  simp [execOp, ho, v1.1, v2.1, rho, Instr.index, asIntOf, run_underlying ht, hlt, run_sizeB hs, g1']
/-- operands, one for each -/
inductive OsR (nG : Nat) : List Operand → List O → Prop
  | nil : OsR nG [] []
  | cons {x : Operand} {y : O} {xs : List Operand} {ys : List O} (hx : compO nG x = some y) (h : OsR nG xs ys) : OsR nG (x :: xs) (y :: ys)
theorem OsR.spec {nG : Nat} {e : Emb} {a : Act} {xs : List Operand} {ys : List O} (h : OsR nG xs ys) (hops : ∀ x ∈ xs, ∀ y, compO nG x = some y → a.eval x = rho e (y.ev env) ∧ ok e (y.ev env)) :
    xs.map a.eval = rhos e (evs env ys) ∧ oks e (evs env ys) := by
  induction h with
  | nil => exact ⟨rfl, trivial⟩
  | cons hx h ih =>
    obtain ⟨i1, i2⟩ := ih fun x hx => hops x (by simp [hx])
    obtain ⟨v1, v2⟩ := hops _ (by simp) _ hx
    exact ⟨by rw [List.map_cons, v1, i1]; rfl, v2, i2⟩
theorem s_mkfn {f : Nat} {first cap : Array Operand} {ys zs : List O} (ho : o.op = .makeFunc (.func f) first cap) (h1 : OsR c.nG first.toList ys) (h2 : OsR c.nG cap.toList zs) : Sound c P o (opMkfn f ys zs) := by
  intro call lb env s k r hc hl hf h
  refine ⟨_, _, _, h, op_pure fun e w a hops => ?_⟩
  obtain ⟨a1, a2⟩ := h1.spec (e := e) (a := a) (env := env) fun x hx => hops x (by simp [ho, Op.operands]; exact .inl (by simpa using hx))
  obtain ⟨b1, b2⟩ := h2.spec (e := e) (a := a) (env := env) fun x hx => hops x (by simp [ho, Op.operands]; exact .inr (by simpa using hx))
  refine ⟨.inl ?_, a2, b2⟩
  have e1 : first.map a.eval = (rhos e (evs env ys)).toArray := Array.ext' (by rw [Array.toList_map]; exact a1)
  have e2 : cap.map a.eval = (rhos e (evs env zs)).toArray := Array.ext' (by rw [Array.toList_map]; exact b1)
  simp only [execOp, ho, Instr.makeFunc, e1, e2, Sem.run_bind, Sem.run_pure, Result.andThen_ok, rho]
/-- a builtin's call -/
theorem run_builtin {b : Builtin} {args : Array Operand} {at_ : Array TypeId} (ho : o.op = .call ⟨.builtin b, args, at_⟩) (a : Act) :
    ∃ cs, ∀ w, (execOp a.eval o).run P w = (builtin b at_ o.type cs (args.map a.eval)).run P w := by
  unfold execOp
  rw [ho]
  exact ⟨_, fun w => rfl⟩
theorem s_lenStr {t : TypeId} {x : Operand} {y : O} (ho : o.op = .call ⟨.builtin .len, #[x], #[t]⟩) (ht : P.underlying t = some .string) (hx : compO c.nG x = some y) : Sound c P o (opLenStr y) := by
  intro call lb env s k r hc hl hf h
  rcases onStr_some h with ⟨n, b, hb, h⟩ | ⟨_, h⟩
  · refine ⟨_, _, _, h, op_pure fun e w a hops => ?_⟩
    have hv := hops x (by simp [ho, Op.operands, Call.operands]) y hx
    rw [hb] at hv
    refine ⟨.inl ?_, trivial⟩
    obtain ⟨cs, hcs⟩ := run_builtin (P := P) ho a
    rw [hcs]
    simp [builtin, Builtin.len_, hv.1, rho, run_underlying ht, sarr_size, goI, goInt]
  · cases h
theorem onNils_some {β : Type} {x : V} {a b : Option β} {r : β} (h : x.onNils a b = some r) : (x = .nils ∧ a = some r) ∨ (x ≠ .nils ∧ b = some r) := by
  cases x <;> first
    | exact .inl ⟨rfl, h⟩
    | exact .inr ⟨(fun e => by cases e), h⟩
theorem s_lenSlc {t el : TypeId} {x : Operand} {y : O} (ho : o.op = .call ⟨.builtin .len, #[x], #[t]⟩) (ht : P.underlying t = some (.slice el)) (hx : compO c.nG x = some y) : Sound c P o (opLenSlc y) := by
  intro call lb env s k r hc hl hf h
  have key : ∀ n, k (goI n) s = some r → (∀ e : Emb, ∃ a cp, rho e (y.ev env) = .slice a n cp) → ∃ v s' l, k v s' = some r ∧ Loc c lb s s' l (opAct P c.nG o env v) := by
    intro n hk hr
    refine ⟨_, _, _, hk, op_pure fun e w a hops => ?_⟩
    have hv := hops x (by simp [ho, Op.operands, Call.operands]) y hx
    obtain ⟨q, cp, hq⟩ := hr e
    rw [hq] at hv
    refine ⟨.inl ?_, trivial⟩
    obtain ⟨cs, hcs⟩ := run_builtin (P := P) ho a
    rw [hcs]
    simp [builtin, Builtin.len_, hv.1, rho, run_underlying ht, goI, goInt]
  rcases onSlc_some h with ⟨id, off, n, cp, ex, hb, h⟩ | ⟨_, h⟩
  · exact key n h fun e => ⟨_, _, by rw [hb]; rfl⟩
  rcases onSlz_some h with ⟨id, ex, hb, h⟩ | ⟨_, h⟩
  · exact key 0 h fun e => ⟨_, _, by rw [hb]; rfl⟩
  rcases onNils_some h with ⟨hb, h⟩ | ⟨_, h⟩
  · exact key 0 h fun e => ⟨_, _, by rw [hb]; rfl⟩
  · cases h
theorem s_cap {t el : TypeId} {x : Operand} {y : O} (ho : o.op = .call ⟨.builtin .cap, #[x], #[t]⟩) (ht : P.underlying t = some (.slice el)) (hx : compO c.nG x = some y) : Sound c P o (opCap y) := by
  intro call lb env s k r hc hl hf h
  have key : ∀ n, k (goI n) s = some r → (∀ e : Emb, ∃ a m, rho e (y.ev env) = .slice a m n) → ∃ v s' l, k v s' = some r ∧ Loc c lb s s' l (opAct P c.nG o env v) := by
    intro n hk hr
    refine ⟨_, _, _, hk, op_pure fun e w a hops => ?_⟩
    have hv := hops x (by simp [ho, Op.operands, Call.operands]) y hx
    obtain ⟨q, cp, hq⟩ := hr e
    rw [hq] at hv
    refine ⟨.inl ?_, trivial⟩
    obtain ⟨cs, hcs⟩ := run_builtin (P := P) ho a
    rw [hcs]
    simp [builtin, Builtin.cap_, hv.1, rho, run_underlying ht, goI, goInt]
  rcases onSlc_some h with ⟨id, off, n, cp, ex, hb, h⟩ | ⟨_, h⟩
  · obtain ⟨hx, h⟩ := cnd_none h
    subst hx
    exact key cp h fun e => ⟨_, _, by rw [hb]; rfl⟩
  rcases onNils_some h with ⟨hb, h⟩ | ⟨_, h⟩
  · exact key 0 h fun e => ⟨_, _, by rw [hb]; rfl⟩
  · cases h
theorem s_max {at_ : Array TypeId} {x1 x2 : Operand} {y1 y2 : O} (ho : o.op = .call ⟨.builtin .max, #[x1, x2], at_⟩) (h1 : compO c.nG x1 = some y1) (h2 : compO c.nG x2 = some y2) : Sound c P o (opMax y1 y2) := by
  intro call lb env s k r hc hl hf h
  obtain ⟨k1, n1, e1, h⟩ := onInt_some h
  obtain ⟨k2, n2, e2, h⟩ := onInt_some h
  refine ⟨_, _, _, h, op_pure fun e w a hops => ?_⟩
  have v1 := hops x1 (by simp [ho, Op.operands, Call.operands]) y1 h1
  have v2 := hops x2 (by simp [ho, Op.operands, Call.operands]) y2 h2
  rw [e1] at v1
  rw [e2] at v2
  refine ⟨.inl ?_, trivial⟩
  obtain ⟨cs, hcs⟩ := run_builtin (P := P) ho a
  rw [hcs]
  simp only [builtin, List.map_toArray, List.map_cons, List.map_nil, v1.1, v2.1, rho, run_max_int2, Sem.run_bind, Result.andThen_ok, Sem.run_pure, cnd_eq, ile_iff, decide_eq_true_eq]
  rw [show (if n2 > n1 then n2 else n1) = (if n2 ≤ n1 then n1 else n2) by split <;> split <;> omega]
theorem s_min {at_ : Array TypeId} {x1 x2 : Operand} {y1 y2 : O} (ho : o.op = .call ⟨.builtin .min, #[x1, x2], at_⟩) (h1 : compO c.nG x1 = some y1) (h2 : compO c.nG x2 = some y2) : Sound c P o (opMin y1 y2) := by
  intro call lb env s k r hc hl hf h
  obtain ⟨k1, n1, e1, h⟩ := onInt_some h
  obtain ⟨k2, n2, e2, h⟩ := onInt_some h
  refine ⟨_, _, _, h, op_pure fun e w a hops => ?_⟩
  have v1 := hops x1 (by simp [ho, Op.operands, Call.operands]) y1 h1
  have v2 := hops x2 (by simp [ho, Op.operands, Call.operands]) y2 h2
  rw [e1] at v1
  rw [e2] at v2
  refine ⟨.inl ?_, trivial⟩
  obtain ⟨cs, hcs⟩ := run_builtin (P := P) ho a
  rw [hcs]
  simp only [builtin, List.map_toArray, List.map_cons, List.map_nil, v1.1, v2.1, rho, run_min_int2, Sem.run_bind, Result.andThen_ok, Sem.run_pure, cnd_eq, ile_iff, decide_eq_true_eq]
  rw [show (if n2 < n1 then n2 else n1) = (if n1 ≤ n2 then n1 else n2) by split <;> split <;> omega]
end Go.Kev
/- Kev: slices and texts of memory. -/
namespace Go.Kev
open Go.RowKit
variable {c : Ctx} {P : Program} {o : Oper} {env : Env} {s : S} {lb : Nat}
/-- an operand that may not be there -/
def OO (nG : Nat) (x : Option Operand) (y : Option O) : Prop := (x = none ∧ y = none) ∨ ∃ a b, x = some a ∧ y = some b ∧ compO nG a = some b
theorem optN_some {nG : Nat} {d : Nat} {x : Option Operand} {y : Option O} (hxy : OO nG x y) {f : Nat → Option (Env × S)} {r : Env × S} (h : optN env d y f = some r) :
    ∃ n, f n = some r ∧ ((x = none ∧ n = d) ∨ ∃ a, x = some a ∧ ∀ (e : Emb) (ac : Act), (∀ z, compO nG a = some z → ac.eval a = rho e (z.ev env) ∧ ok e (z.ev env)) → ∃ k, ac.eval a = .int k n) := by
  rcases hxy with ⟨rfl, rfl⟩ | ⟨a, b, rfl, rfl, hab⟩
  · exact ⟨d, h, .inl ⟨rfl, rfl⟩⟩
  · obtain ⟨k, n, hn, h⟩ := onNat_some (h : onNat env b f = some r)
    refine ⟨n, h, .inr ⟨a, rfl, fun e ac hz => ?_⟩⟩
    have := (hz b hab).1
    rw [hn] at this
    exact ⟨k, this⟩
theorem run_sliceBound (k : IntKind) (n y : Nat) (code : BoundsCode) (h : n ≤ y) (w : World) : (Instr.sliceBound (.int k n) y code).run P w = .ok n w := by
  simp [Instr.sliceBound, asIntOf, h]
/-- what the bounds are, and that the world takes them -/
theorem bounds_some {nG : Nat} {len cap : Nat} {lo hi mx : Option Operand} {lo' hi' mx' : Option O} (h1 : OO nG lo lo') (h2 : OO nG hi hi') (h3 : OO nG mx mx') (hm : mx.isSome = true → hi.isSome = true)
    {f : Nat → Nat → Nat → Option (Env × S)} {r : Env × S} (h : bounds env len cap lo' hi' mx' f = some r) :
    ∃ l hh m, f l hh m = some r ∧ l ≤ hh ∧ hh ≤ m ∧ m ≤ cap ∧ (mx = none → m = cap) ∧
      ∀ (e : Emb) (a : Act) (isSlice : Bool) (cap' : Nat) (w : World), cap ≤ cap' → (mx = none → hi = none → len ≤ cap') →
        (∀ x, lo = some x ∨ hi = some x ∨ mx = some x → ∀ z, compO nG x = some z → a.eval x = rho e (z.ev env) ∧ ok e (z.ev env)) →
        (Instr.sliceBounds isSlice len cap' (lo.map a.eval) (hi.map a.eval) (mx.map a.eval)).run P w = .ok (l, hh, if mx.isSome then m else cap') w := by
  obtain ⟨m, h, hm'⟩ := optN_some h3 h
  obtain ⟨hh, h, hh'⟩ := optN_some h2 h
  obtain ⟨l, h, hl'⟩ := optN_some h1 h
  obtain ⟨b1, h⟩ := cnd_none h
  obtain ⟨b2, h⟩ := cnd_none h
  obtain ⟨b3, h⟩ := cnd_none h
  rw [Nat.ble_eq] at b1 b2 b3
  refine ⟨l, hh, m, h, b1, b2, b3, fun q => ?_, fun e a isSlice cap' w hc hlen hops => ?_⟩
  · rcases hm' with ⟨_, rfl⟩ | ⟨x, rfl, _⟩
    · rfl
    · cases q
  · rcases hm' with ⟨rfl, rfl⟩ | ⟨x, rfl, hx⟩
    · have hhle : hh ≤ cap' := Nat.le_trans b2 hc
      rcases hh' with ⟨rfl, rfl⟩ | ⟨y, rfl, hy⟩
      · rcases hl' with ⟨rfl, rfl⟩ | ⟨z, rfl, hz⟩
        · simp [Instr.sliceBounds]
        · obtain ⟨kz, hz⟩ := hz e a (hops z (.inl rfl))
          simp [Instr.sliceBounds, hz, run_sliceBound kz _ _ _ b1]
      · obtain ⟨ky, hy⟩ := hy e a (hops y (.inr (.inl rfl)))
        rcases hl' with ⟨rfl, rfl⟩ | ⟨z, rfl, hz⟩
        · simp [Instr.sliceBounds, hy, run_sliceBound ky _ _ _ hhle]
        · obtain ⟨kz, hz⟩ := hz e a (hops z (.inl rfl))
          simp [Instr.sliceBounds, hy, hz, run_sliceBound ky _ _ _ hhle, run_sliceBound kz _ _ _ b1]
    · obtain ⟨kx, hx⟩ := hx e a (hops x (.inr (.inr rfl)))
      have hmle : m ≤ cap' := Nat.le_trans b3 hc
      rcases hh' with ⟨rfl, rfl⟩ | ⟨y, rfl, hy⟩
      · exact absurd (hm rfl) (by simp)
      · obtain ⟨ky, hy⟩ := hy e a (hops y (.inr (.inl rfl)))
        rcases hl' with ⟨rfl, rfl⟩ | ⟨z, rfl, hz⟩
        · simp [Instr.sliceBounds, hx, hy, run_sliceBound kx _ _ _ hmle, run_sliceBound ky _ _ _ b2]
        · obtain ⟨kz, hz⟩ := hz e a (hops z (.inl rfl))
          simp [Instr.sliceBounds, hx, hy, hz, run_sliceBound kx _ _ _ hmle, run_sliceBound ky _ _ _ b2, run_sliceBound kz _ _ _ b1]
theorem sarr_extract {n b l h : Nat} (h1 : l ≤ h) (h2 : h ≤ n) : (sarr n b).extract l h = sarr (h - l) (ssub b l h) := by
  apply ByteArray.ext
  rw [ByteArray.data_extract]
  show (sbytes n b).toArray.extract l h = (sbytes (h - l) (ssub b l h)).toArray
  rw [(ssub_spec h1 h2).1]
  simp
theorem slice_ops {x : Operand} {lo hi mx : Option Operand} {t : TypeId} (ho : o.op = .slice t x lo hi mx) {e : Emb} {a : Act} (hops : Ops c.nG e env a o.op.operands) :
    (∀ y, compO c.nG x = some y → a.eval x = rho e (y.ev env) ∧ ok e (y.ev env)) ∧ ∀ x, lo = some x ∨ hi = some x ∨ mx = some x → ∀ z, compO c.nG x = some z → a.eval x = rho e (z.ev env) ∧ ok e (z.ev env) := by
  refine ⟨hops x (by simp [ho, Op.operands]), fun z hz => hops z ?_⟩
  rcases hz with rfl | rfl | rfl <;> simp [ho, Op.operands]
theorem s_sliceStr {t : TypeId} {x : Operand} {y : O} {lo hi : Option Operand} {lo' hi' : Option O} (ho : o.op = .slice t x lo hi none) (ht : P.underlying t = some .string) (hx : compO c.nG x = some y) (h1 : OO c.nG lo lo') (h2 : OO c.nG hi hi') : Sound c P o (opSliceStr y lo' hi') := by
  intro call lb env s k r hc hl hf h
  rcases onStr_some h with ⟨n, b, hb, h⟩ | ⟨_, h⟩
  · obtain ⟨l, hh, m, h, b1, b2, b3, b4, hrun⟩ := bounds_some (P := P) h1 h2 (mx := none) (mx' := none) (.inl ⟨rfl, rfl⟩) (by simp) h
    refine ⟨_, _, _, h, op_pure fun e w a hops => ?_⟩
    obtain ⟨q1, q2⟩ := slice_ops ho hops
    have hv := q1 y hx
    rw [hb] at hv
    have hle : hh ≤ n := Nat.le_trans b2 b3
    refine ⟨.inl ?_, (ssub_spec b1 hle).2⟩
    have hr := hrun e a false n w (Nat.le_refl _) (fun _ _ => Nat.le_refl _) q2
    simp only [Option.map_none, Option.isSome_none, Bool.false_eq_true, if_false] at hr
    simp [execOp, ho, hv.1, rho, Instr.sliceAt, Instr.slice, run_underlying ht, sarr_size, hr, sarr_extract b1 hle]
  · cases h
theorem s_sliceA {t el : TypeId} {n esz : Nat} {x : Operand} {y : O} {lo hi mx : Option Operand} {lo' hi' mx' : Option O} (ho : o.op = .slice t x lo hi mx) (ht : P.underlying t = some (.array n el)) (hs : sizeB P el = some esz) (hx : compO c.nG x = some y)
    (h1 : OO c.nG lo lo') (h2 : OO c.nG hi hi') (h3 : OO c.nG mx mx') (hm : mx.isSome = true → hi.isSome = true) : Sound c P o (opSliceA n esz y lo' hi' mx') := by
  intro call lb env s k r hc hl hf h
  obtain ⟨id, off, hb, h⟩ := onPtr_some h
  obtain ⟨l, hh, m, h, b1, b2, b3, b4, hrun⟩ := bounds_some (P := P) h1 h2 h3 hm h
  refine ⟨_, _, _, h, op_pure fun e w a hops => ?_⟩
  obtain ⟨q1, q2⟩ := slice_ops ho hops
  have hv := q1 y hx
  rw [hb] at hv
  refine ⟨.inl ?_, hv.2, by show hh - l ≤ m - l; omega, fun z => by cases z⟩
  have hr := hrun e a false n w (Nat.le_refl _) (fun _ _ => Nat.le_refl _) q2
  have hmm : (if mx.isSome = true then m else n) = m := by
    split
    · rfl
    · rename_i q; exact (b4 (by simpa using q)).symm
  rw [hmm] at hr
  simp only [execOp, ho, hv.1, rho, Instr.sliceAt, Sem.run_bind, run_underlying ht, Result.andThen_ok, run_sureAddr, hr, run_sizeB hs, Sem.run_pure, if_true]
  congr 3
  simp only [cnd_eq, Nat.beq_eq]
  split
  · rfl
  · rw [addr_add, Nat.add_assoc]; rfl
theorem op_num {v : V} {s' : S} (hlb : lb ≤ s.nx) (hs : s'.nx = s.nx + 1) (hl : s'.log = s.log) (hh : hp s' = hp s)
    (h : ∀ e w a, ¬ e.D s.nx → Ops c.nG e env a o.op.operands → ∃ za zc, Gives P o a w (rho (e.put s.nx 0 0 0 0 za zc) v) w ∧ ok (e.put s.nx 0 0 0 0 za zc) v) : Loc c lb s s' [] (opAct P c.nG o env v) :=
  Loc.num hlb hs hl hh fun e w Q hn hq a next Q0 hops hk => by
    obtain ⟨za, zc, h3, h4⟩ := h e w a hn hops
    exact h3.wp (hk _ _ (hq za zc) (Emb.le_put e hn _ _ _ _ _ _) h4)
theorem put_slz (e : Emb) (id : Nat) (ex : Bool) (za : Addr) (zc : Nat) : rho (e.put id 0 0 0 0 za zc) (.slz id ex) = .slice (some za) 0 zc := by
  simp only [rho, Emb.put, if_true]
theorem cnd_cases {β : Type} {q : Bool} {a b r : β} (h : cnd q a b = r) : (q = true ∧ a = r) ∨ (q = false ∧ b = r) := by
  cases q
  · exact .inr ⟨rfl, h⟩
  · exact .inl ⟨rfl, h⟩
theorem s_sliceS {t el : TypeId} {esz : Nat} {x : Operand} {y : O} {lo hi mx : Option Operand} {lo' hi' mx' : Option O} (ho : o.op = .slice t x lo hi mx) (ht : P.underlying t = some (.slice el)) (hs : sizeB P el = some esz) (hx : compO c.nG x = some y)
    (h1 : OO c.nG lo lo') (h2 : OO c.nG hi hi') (h3 : OO c.nG mx mx') (hm : mx.isSome = true → hi.isSome = true) : Sound c P o (opSliceS esz y lo' hi' mx') := by
  intro call lb env s k r hc hl hf h
  have hmx : mx'.isSome = mx.isSome := by rcases h3 with ⟨rfl, rfl⟩ | ⟨a, b, rfl, rfl, _⟩ <;> rfl
  rcases onSlc_some h with ⟨id, off, n, cp, ex, hb, h⟩ | ⟨_, h⟩
  · obtain ⟨l, hh, m, h, b1, b2, b3, b4, hrun⟩ := bounds_some (P := P) h1 h2 h3 hm h
    have run : ∀ (e : Emb) w (a : Act), Ops c.nG e env a o.op.operands → ∃ cp', cp ≤ cp' ∧ cp' = (if ex then cp else e.M id - off / e.sz id) ∧ ok e (.slc id off n cp ex) ∧
        (execOp a.eval o).run P w = .ok (.value (.slice (if (if mx.isSome then m else cp') = l then some ⟨e.f id, e.b id + off, none⟩ else some ⟨e.f id, e.b id + off + l * esz, none⟩) (hh - l) ((if mx.isSome then m else cp') - l))) w := by
      intro e w a hops
      obtain ⟨q1, q2⟩ := slice_ops ho hops
      have hv := q1 y hx
      rw [hb] at hv
      obtain ⟨v1, v2, v3, v4⟩ := hv
      have hle : cp ≤ (if ex then cp else e.M id - off / e.sz id) := by
        cases ex with
        | true => exact Nat.le_refl _
        | false => have := (v4 rfl).2.2; simp only [Bool.false_eq_true, if_false]; omega
      refine ⟨_, hle, rfl, ⟨v2, v3, v4⟩, ?_⟩
      have hr := hrun e a true (if ex then cp else e.M id - off / e.sz id) w hle (fun _ _ => Nat.le_trans v3 hle) q2
      simp only [execOp, ho, v1, rho, Instr.sliceAt, Instr.slice, Sem.run_bind, run_underlying ht, Result.andThen_ok, hr, run_sizeB hs, Sem.run_pure, Option.map_some, addr_add]
    rcases cnd_cases h with ⟨hex, h⟩ | ⟨hex, hb2⟩
    · refine ⟨_, _, _, h, op_pure fun e w a hops => ?_⟩
      obtain ⟨cp', c1, c2, c3, hr⟩ := run e w a hops
      refine ⟨.inl ?_, c3.1, by show hh - l ≤ m - l; omega, fun z => by cases z⟩
      rw [hr]
      have hmm : (if mx.isSome = true then m else cp') = m := by
        split
        · rfl
        · rename_i q
          rw [hmx] at hex
          have : ex = true := by
            rw [cnd_eq] at hex
            simpa [q] using hex
          rw [this] at c2
          simp only [if_true] at c2
          rw [c2]
          exact (b4 (by simpa using q)).symm
      rw [hmm]
      simp only [rho, cnd_eq, Nat.beq_eq, if_true]
      by_cases q : m = l
      · rw [if_pos q, if_pos q]; rfl
      · rw [if_neg q, if_neg q]
        congr 4
        rw [Nat.add_assoc]; rfl
    · rw [hmx, cnd_eq] at hex
      have hmn : mx.isSome = false := by
        cases q : mx.isSome with
        | true => rw [q] at hex; cases hex
        | false => rfl
      have hexf : ex = false := by
        rw [hmn] at hex
        simpa using hex
      subst hexf
      have hmc : m = cp := b4 (by simpa using hmn)
      clear h
      rcases cnd_cases hb2 with ⟨hl0, h⟩ | ⟨hl0, h⟩
      · have hl0 : l = 0 ∨ l < m := by
          rcases cnd_cases hl0 with ⟨q, _⟩ | ⟨_, q⟩
          · exact .inl (Nat.eq_of_beq_eq_true q)
          · exact .inr (Nat.blt_eq.mp q)
        obtain ⟨row, hrow, h⟩ := onRow_some h
        obtain ⟨hesz, h⟩ := cnd_none h
        rw [Nat.beq_eq] at hesz
        obtain ⟨lg, hL⟩ := op_read (c := c) (P := P) (o := o) (env := env) (lb := lb) (v := .slc id (Nat.add off (Nat.mul l esz)) (Nat.sub hh l) (Nat.sub m l) false) hrow fun e w a hob hd hops => by
          obtain ⟨cp', c1, c2, c3, hr⟩ := run e w a hops
          have hsz : e.sz id = esz := hob.1.trans hesz
          obtain ⟨c4, c5, c6⟩ := c3.2.2 rfl
          rw [hsz] at c4 c5 c6 c2
          simp only [Bool.false_eq_true, if_false] at c2
          have hdiv : (off + l * esz) / esz = off / esz + l := Nat.add_mul_div_right _ _ c5
          refine ⟨.inl ?_, c3.1, by show hh - l ≤ m - l; omega, fun _ => ⟨?_, by rw [hsz]; exact c5, ?_⟩⟩
          · rw [hr, hmn]
            simp only [Bool.false_eq_true, if_false, rho, hsz]
            have e1 : (if cp' = l then some (⟨e.f id, e.b id + off, none⟩ : Addr) else some ⟨e.f id, e.b id + off + l * esz, none⟩) = some ⟨e.f id, e.b id + (off + l * esz), none⟩ := by
              split
              · have : l = 0 := by omega
                rw [this]; simp
              · rw [Nat.add_assoc]
            rw [e1]
            congr 3
            show cp' - l = e.M id - (off + l * esz) / esz
            rw [hdiv]; omega
          · rw [hsz]
            show (off + l * esz) % esz = 0
            rw [Nat.add_mul_mod_self_right]; exact c4
          · rw [hsz]
            show (off + l * esz) / esz + (m - l) ≤ e.M id
            rw [hdiv]; omega
        exact ⟨_, _, _, h, hL⟩
      · have hl0 : l ≠ 0 ∧ ¬ l < m := by
          rcases cnd_cases hl0 with ⟨_, q⟩ | ⟨q1, q2⟩
          · cases q
          · exact ⟨(fun x => by rw [x] at q1; cases q1), (fun x => by rw [Nat.blt_eq.mpr x] at q2; cases q2)⟩
        refine ⟨_, _, _, h, op_num hl rfl rfl rfl fun e w a hn hops => ?_⟩
        obtain ⟨cp', c1, c2, c3, hr⟩ := run e w a hops
        refine ⟨if cp' = l then ⟨e.f id, e.b id + off, none⟩ else ⟨e.f id, e.b id + off + l * esz, none⟩, cp' - l, .inl ?_, .inr rfl, fun z => by cases z⟩
        rw [hr, hmn, put_slz]
        simp only [Bool.false_eq_true, if_false]
        rw [show hh - l = 0 by omega]
        split <;> rfl
  rcases onSlz_some h with ⟨id, ex, hb, h⟩ | ⟨_, h⟩
  · obtain ⟨l, hh, m, h, b1, b2, b3, b4, hrun⟩ := bounds_some (P := P) h1 h2 h3 hm h
    have hm0 : m = 0 := by omega
    have hh0 : hh = 0 := by omega
    have hl0 : l = 0 := by omega
    refine ⟨_, _, _, h, op_num hl rfl rfl rfl fun e w a hn hops => ?_⟩
    obtain ⟨q1, q2⟩ := slice_ops ho hops
    have hv := q1 y hx
    rw [hb] at hv
    have hr := hrun e a true (e.zc id) w (Nat.zero_le _) (fun _ _ => Nat.zero_le _) q2
    refine ⟨e.za id, if mx.isSome then 0 else e.zc id, .inl ?_, .inr rfl, fun z => ?_⟩
    · rw [put_slz]
      simp only [execOp, ho, hv.1, rho, Instr.sliceAt, Instr.slice, Sem.run_bind, run_underlying ht, Result.andThen_ok, hr, run_sizeB hs, Sem.run_pure, Option.map_some, hm0, hh0, hl0]
      congr 3
      · split
        · rfl
        · simp [Addr.add]
      
    · simp only [Emb.put, if_true]
      rw [hmx, cnd_eq] at z
      cases q : mx.isSome with
      | true => rfl
      | false => rw [q] at z; simp only [Bool.false_eq_true, if_false] at z ⊢; exact hv.2.2 z
  rcases onNils_some h with ⟨hb, h⟩ | ⟨_, h⟩
  · obtain ⟨l, hh, m, h, b1, b2, b3, b4, hrun⟩ := bounds_some (P := P) h1 h2 h3 hm h
    have hm0 : m = 0 := by omega
    have hh0 : hh = 0 := by omega
    have hl0 : l = 0 := by omega
    refine ⟨_, _, _, h, op_pure fun e w a hops => ?_⟩
    obtain ⟨q1, q2⟩ := slice_ops ho hops
    have hv := q1 y hx
    rw [hb] at hv
    have hr := hrun e a true 0 w (Nat.le_refl _) (fun _ _ => Nat.le_refl _) q2
    refine ⟨.inl ?_, trivial⟩
    simp only [execOp, ho, hv.1, rho, Instr.sliceAt, Instr.slice, Sem.run_bind, run_underlying ht, Result.andThen_ok, hr, run_sizeB hs, Sem.run_pure, Option.map_none, hm0, hh0, hl0]
    congr 3
    · split <;> rfl
    · split <;> rfl
  · cases h
end Go.Kev
/- Kev: bytes, and memory that is asked for. -/
namespace Go.Kev
open Go.RowKit
variable {c : Ctx} {P : Program} {o : Oper} {env : Env} {s : S} {lb : Nat}
theorem packK_some {r : Env × S} : ∀ {l : List V} {k : Nat → R}, packK l k = some r → ∃ xs : List Nat, l = xs.map (fun q => V.int .u8 (Int.ofNat q)) ∧ k (packL (xs.map UInt8.ofNat)) = some r
  | [], k, h => ⟨[], rfl, h⟩
  | v :: l, k, h => by
    obtain ⟨kd, n, rfl, h⟩ := onInt_some (h : v.onInt (fun kd c => cnd (isU8 kd) (Int.rec (fun c => packK l fun r => k (Nat.add (Nat.mod c 256) (Nat.mul 256 r))) (fun _ => none) c) none) none = some r)
    obtain ⟨hk, h⟩ := cnd_none h
    cases n with
    | negSucc n => cases h
    | ofNat n =>
      obtain ⟨xs, rfl, h2⟩ := packK_some (l := l) (k := fun r => k (Nat.add (Nat.mod n 256) (Nat.mul 256 r))) h
      have hkd : kd = .u8 := by cases kd <;> first | rfl | cases hk
      subst hkd
      refine ⟨n :: xs, rfl, ?_⟩
      simp only [List.map_cons, packL, UInt8.toNat_ofNat']
      exact h2
theorem sarr_pack (xs : List Nat) : sarr xs.length (packL (xs.map UInt8.ofNat)) = strOfNums (xs.map Int.ofNat) := by
  unfold sarr strOfNums
  have := sbytes_packL (xs.map UInt8.ofNat)
  rw [List.length_map] at this
  rw [this, List.map_map]
  rfl
theorem pack_lt (xs : List Nat) : packL (xs.map UInt8.ofNat) < 256 ^ xs.length := by
  have := packL_lt (xs.map UInt8.ofNat)
  rwa [List.length_map] at this
theorem s_convBS {t u el : TypeId} {x : Operand} {y : O} (ho : o.op = .convert t u x) (ht : P.underlying t = some (.slice el)) (hel : P.underlying el = some (.int .u8)) (hu : P.underlying u = some .string) (hx : compO c.nG x = some y) : Sound c P o (opConvBS y) := by
  intro call lb env s k r hc hl hf h
  rcases onSlc_some h with ⟨id, off, n, cp, ex, hb, h⟩ | ⟨_, h⟩
  · obtain ⟨row, hrow, h⟩ := onRow_some h
    obtain ⟨hlen, h⟩ := takeK_some h
    rw [dropL_eq] at hlen h
    obtain ⟨xs, hxs, h⟩ := packK_some h
    have hn : xs.length = n := by
      have := congrArg List.length hxs
      rw [List.length_take, List.length_map] at this
      omega
    obtain ⟨l, hL⟩ := op_read (c := c) (P := P) (o := o) (env := env) (lb := lb) (v := .str n (packL (xs.map UInt8.ofNat))) hrow fun e w a hob hd hops => by
      have hv := hops x (by simp [ho, Op.operands]) y hx
      rw [hb] at hv
      refine ⟨.inl ?_, by rw [← hn]; exact pack_lt xs⟩
      have hcells : ∀ i, i < n → w.cell? ⟨e.f id, (e.b id + off) + i, none⟩ = some (.int .u8 ((xs.map Int.ofNat).getD i 0)) := by
        intro i hi
        have h1 : row.cells[off + i]? = some (.int .u8 (Int.ofNat (xs.getD i 0))) := by
          have := congrArg (·[i]?) hxs
          simp only [List.getElem?_take_of_lt hi, List.getElem?_drop, List.getElem?_map] at this
          rw [this, List.getElem?_eq_getElem (by omega)]
          simp [List.getD, List.getElem?_eq_getElem (show i < xs.length by omega)]
        have h2 := (RowR.cell hob h1).1
        rw [Nat.add_assoc, h2]
        simp [rho, List.getD, List.getElem?_eq_getElem (show i < xs.length by omega)]
      have hr := run_convert_bytes_arg (P := P) w t el ht hel (e.f id) (e.b id + off) n (if ex then cp else e.M id - off / e.sz id) (xs.map Int.ofNat) (by rw [List.length_map]; exact hn) hcells u hu
      simp only [execOp, ho, hv.1, rho, Sem.run_bind, hr, Result.andThen_ok, Sem.run_pure]
      rw [← sarr_pack, hn]
    exact ⟨_, _, _, h, hL⟩
  have empty : ∀ e : Emb, rho e (.str 0 0) = .string ByteArray.empty := fun e => by
    simp only [rho]
    congr 1
  rcases onSlz_some h with ⟨id, ex, hb, h⟩ | ⟨_, h⟩
  · refine ⟨_, _, _, h, op_pure fun e w a hops => ?_⟩
    have hv := hops x (by simp [ho, Op.operands]) y hx
    rw [hb] at hv
    refine ⟨.inl ?_, by show 0 < 256 ^ 0; decide⟩
    rw [empty]
    simp only [execOp, ho, hv.1, rho, convert, Sem.run_bind, run_underlying ht, run_underlying hu, run_underlying hel, Result.andThen_ok, Conv.bytesToString]
    have : (loadCells (e.za id) 0).run P w = .ok #[] w := run_loadCells_list (P := P) (w := w) (e.za id) [] (fun j v hv => by cases hv)
    simp [this]
  rcases onNils_some h with ⟨hb, h⟩ | ⟨_, h⟩
  · refine ⟨_, _, _, h, op_pure fun e w a hops => ?_⟩
    have hv := hops x (by simp [ho, Op.operands]) y hx
    rw [hb] at hv
    refine ⟨.inl ?_, by show 0 < 256 ^ 0; decide⟩
    rw [empty]
    have hr := run_convert_bytes_nil (P := P) w t el ht hel 0 0 u hu
    simp only [execOp, ho, hv.1, rho, Sem.run_bind, hr, Result.andThen_ok, Sem.run_pure]
  · cases h
theorem reps_eq (zs : List V) : ∀ n, reps zs n = (List.replicate n zs).flatten
  | 0 => rfl
  | n + 1 => by
    show appL zs (reps zs n) = _
    rw [appL_eq, reps_eq zs n, List.replicate_succ, List.flatten_cons]
theorem s_mkslice {t el : TypeId} {it : TypeInfo} {z : Value} {zs : List V} {x1 x2 : Operand} {y1 y2 : O} (ho : o.op = .makeSlice t x1 x2) (ht : P.underlying t = some (.slice el)) (hi : P.info? el = some it) (hz : it.zero = some z) (hzs : valsC z.cells.toList = some zs)
    (hsz : zs.length = it.size) (hby : it.bytes ≤ 4294967296) (h1 : compO c.nG x1 = some y1) (h2 : compO c.nG x2 = some y2) : Sound c P o (opMkslice el it.size it.bytes zs y1 y2) := by
  intro call lb env s k r hc hl hf h
  obtain ⟨k1, n1, e1, h⟩ := onNat_some h
  obtain ⟨k2, n2, e2, h⟩ := onNat_some h
  obtain ⟨b1, h⟩ := cnd_none h
  obtain ⟨b2, h⟩ := cnd_none h
  rw [Nat.ble_eq] at b1 b2
  obtain ⟨s', h, h3, h4, h5⟩ := newRow_some h
  refine ⟨_, _, _, h, op_new hl h3 h4 h5 fun e w a hn hops => ?_⟩
  have v1 := hops x1 (by simp [ho, Op.operands]) y1 h1
  have v2 := hops x2 (by simp [ho, Op.operands]) y2 h2
  rw [e1] at v1
  rw [e2] at v2
  have hz' := valsC_spec hzs (e.put s.nx w.heap.size 0 0 it.size ⟨0, 0, none⟩ 0)
  have hzl : z.cells.size = it.size := by rw [← Array.length_toList, ← hz'.1, rhos_len, hsz]
  have hcells : (madeCells z.cells (n2 * it.size)).toList = rhos (e.put s.nx w.heap.size 0 0 it.size ⟨0, 0, none⟩ 0) (reps zs n2) := by
    have hflat := cells_flat z.cells 0 n2
    rw [hzl] at hflat
    rw [reps_eq, rhos_map, List.map_flatten, List.map_replicate, ← rhos_map, hz'.1, ← hflat]
    unfold madeCells
    rw [hzl]
  have hok : oks (e.put s.nx w.heap.size 0 0 it.size ⟨0, 0, none⟩ 0) (reps zs n2) ∧ ∀ v ∈ reps zs n2, v.one = true := by
    rw [reps_eq]
    constructor
    · have k2 := hz'.2
      rw [oks_iff] at k2 ⊢
      intro v hv
      simp only [List.mem_flatten, List.mem_replicate] at hv
      obtain ⟨m, ⟨_, rfl⟩, hv⟩ := hv
      exact k2 v hv
    · intro v hv
      simp only [List.mem_flatten, List.mem_replicate] at hv
      obtain ⟨m, ⟨_, rfl⟩, hv⟩ := hv
      exact valsC_one hzs v hv
  have hlen : (reps zs n2).length = n2 * it.size := by
    rw [reps_eq, List.length_flatten, List.map_replicate, List.sum_replicate_nat, hsz]
  refine ⟨w.alloc (.cells (madeCells z.cells (n2 * it.size)) el), .cells (madeCells z.cells (n2 * it.size)) el, 0, it.size, ⟨0, 0, none⟩, 0, Pushed.alloc _ _, ?_, .inl ?_, Emb.put_D _ _ _ _ _ _ _ _, b1, fun x => by cases x⟩
  · refine RowR.made (cs := madeCells z.cells (n2 * it.size)) ?_ (Emb.put_b _ _ _ _ _ _ _ _) (Emb.put_sz _ _ _ _ _ _ _ _) (fun i v hv => ?_) ?_ (fun _ => ?_) (fun x => by cases x)
    · rw [Emb.put_f]; exact (Pushed.alloc w _).at
    · have := cells_toArray hok.1 hok.2 i v hv
      rw [← hcells] at this
      simpa using this
    · show (reps zs n2).length ≤ n2 * it.size
      omega
    · show (madeCells z.cells (n2 * it.size)).size = n2 * it.size
      rw [size_madeCells]
  · have hr := run_make (P := P) w t el it z ht hi hz k1 k2 n1 n2 (by omega) (by omega) (by
      have : it.bytes * n2 ≤ 4294967296 * 65536 := Nat.mul_le_mul hby b2
      have h9 : ((it.bytes * n2 : Nat) : Int) ≤ 281474976710656 := by omega
      simpa using h9) (by omega)
    simp only [execOp, ho, v1.1, v2.1, rho, Sem.run_bind, Int.ofNat_eq_natCast, hr, Result.andThen_ok, Sem.run_pure, Int.toNat_natCast, Emb.put_f, Emb.put_b, if_true]
end Go.Kev
