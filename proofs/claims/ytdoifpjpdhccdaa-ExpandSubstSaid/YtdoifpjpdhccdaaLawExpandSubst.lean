/- The law ExpandSubst: for every text and every list of variables the call returns true, and what was handed in reads as before; no condition. -/
import Derived.Test.YtdoifpjpdhccdaaRows
import Derived.Test.YtdoifpjpdhccdaaOpensW
import Derived.Test.YtdoifpjpdhccdaaPureExpandSubst
import Derived.WalkKit
import Derived.ProofKit
import Derived.OpenShut
import Derived.ShutString
import Derived.ChangeOld
import Derived.Below
import Derived.SizedLaws
namespace Go.Proofs.Ytdoifpjpdhccdaa.Pure
open Go.RowKit Go.Proofs.Ytdoifpjpdhccdaa.E Go.Proofs.YtdoifpjpdhccdaaW.PrintWords Go.Proofs.YtdoifpjpdhccdaaW.PrintLast
def Small32 (x : S32) : Prop := x.f0.size ≤ reachBytes ∧ x.f1.size ≤ reachBytes
theorem opw32p : OpW Try.prog (Kd.pair Kd.string Kd.string) 32 (fun p => p.1.size ≤ reachBytes ∧ p.2.size ≤ reachBytes) := by
  apply OpW.struct Try.underlying32 (by kernel_rfl)
  apply OpFW.more (Q := fun s : ByteArray => s.size ≤ reachBytes) (Q' := fun s : ByteArray => s.size ≤ reachBytes) rfl (by kernel_rfl)
  · exact @OpW.string _ _ Try.underlying9
  · apply OpFW.one rfl (by kernel_rfl)
    exact @OpW.string _ _ Try.underlying9
theorem opw32 : OpW Try.prog k32 32 Small32 := by
  apply OpW.iso (Q := fun p : ByteArray × ByteArray => p.1.size ≤ reachBytes ∧ p.2.size ≤ reachBytes) (fun x : S32 => (x.f0, x.f1)) (fun p => ⟨p.1, p.2⟩) (fun _ => rfl)
  exact @opw32p
theorem opw22 : OpW Try.prog (Kd.slice 32 k32) 22 (fun l => l.length * Try.prog.bytesOf 32 ≤ reachBytes ∧ ∀ p ∈ l, Small32 p) := by
  apply OpW.slice Try.underlying22 (by kernel_rfl)
  exact @opw32
theorem bytes32 : Try.prog.bytesOf 32 = 32 := by kernel_rfl
theorem open_vars {H : Type} {enc : TypeId × Value → H} {W : World} {base : Nat} {spare : Nat → Bool} {held : Bool} {fuel : Nat} {a : Option Addr} {len cap : Nat} {x : DataW H × List MemPlace} (h : DataW.trod enc Try.prog W base spare held fuel 22 [.slice a len cap] = some x) :
    ∃ zs : List S32, zs.length = len ∧ len ≤ cap ∧ Kd.C k32 W a zs.length zs ∧ ((∀ n ∈ x.1.weights Try.prog 22, n ≤ reachBytes) → zs.length ≤ reachBytes ∧ ∀ p ∈ zs, Small32 p) := by
  obtain ⟨zs, ⟨A, c, he, hl, hC⟩, hb⟩ := opw22 enc W base spare held fuel _ x h
  injection he with he _
  injection he with h1 h2 h3
  subst h1 h2 h3
  refine ⟨zs, rfl, hl, hC, fun hw => ?_⟩
  obtain ⟨h4, h5⟩ := hb hw
  rw [bytes32] at h4
  exact ⟨by omega, h5⟩
theorem rd_mem (zs : List S32) (j : Nat) (h : j < zs.length) : rd_T32 zs j ∈ zs := by
  unfold rd_T32
  rw [Int.toNat_natCast, List.getD_eq_getElem?_getD, List.getElem?_eq_getElem h]
  exact List.getElem_mem h
end Go.Proofs.Ytdoifpjpdhccdaa.Pure
namespace Go.Proofs.Ytdoifpjpdhccdaa.expandSubst
open Go.ChangeShapes Go.WideShapes Go.ChangeAt Go.RowKit
open Go.ChangeMaps (open_string shut_string)
set_option linter.unusedVariables false
theorem own : ownKnob Try.prog.godebug = none := by kernel_rfl
theorem laidOut : laidOutB Try.prog = true := by kernel_rfl
set_option maxRecDepth 100000 in
theorem lifted (os : Os) (started : os.Started) (H : Type) (enc : TypeId × Value → H) :
    ReturnsInHanded {} Try.checked os 3 .any (Rows.expandSubstSpec.pre6 enc Try.prog Try.f3 Rows.expandSubstRow.domain false) (Rows.expandSubstSpec.post enc Try.prog Try.f3 false true false false) := by
  refine returnsInHanded_of_change_sized (C := Try.checked) own started (by kernel_rfl) Try.func3
    (ChangeSpec.witness6 (enc := enc) (C := Try.checked) false ⟨#[], #[.string ByteArray.empty, .slice none 0 0], []⟩ 8 (by kernel_rfl) (by kernel_rfl) (by kernel_rfl) (by kernel_rfl)) ?_
  intro W base args ds gs before hval0 hW hcnd hsz0 _
  have hsz : (DataW.weightsEach Try.prog (Try.f3.params.toList ++ Rows.expandSubstSpec.plain.varTypes Try.prog) (ds ++ gs)).all (· ≤ reachBytes) = true := hsz0
  have hval : ∀ (j : Nat) t v, Try.f3.params[j]? = some t → args[j]? = some v → Value.okWide Try.prog W .any base t v := hval0
  have hW' := hW
  obtain ⟨p, q, hA0, hV, rfl, hfz, hnd⟩ := hW
  have hA : DataW.TrodAll enc Try.prog W 0 (fun _ => true) true Try.f3.params.toList args.toList ds p := hA0
  rw [Try.params3] at hA hval hsz
  obtain ⟨v0, vs0, d0, ds0, p0, q0, hargs, rfl, rfl, h0, r0⟩ := trodAll_cons hA
  obtain ⟨v1, vs1, d1, ds1, p1, q1, rfl, rfl, rfl, h1, r1⟩ := trodAll_cons r0
  obtain ⟨rfl, rfl, rfl⟩ := trodAll_nil r1
  obtain rfl : args = #[v0, v1] := by cases args; simp_all
  obtain ⟨rfl, rfl⟩ := trodVars_none hV
  obtain ⟨a0, rfl, rfl, rfl, y0⟩ := open_string Try.underlying9 (hval 0 9 v0 rfl rfl) h0
  have w0 : a0.size ≤ 140737488351232 := by
    have z := sized_string hsz (j := 0) (t := 9) rfl rfl
    rw [Array.length_toList] at z
    exact z
  obtain ⟨a1, len1, cap1, rfl⟩ := okWide_slice Try.underlying22 (hval 1 22 v1 rfl rfl)
  have k1 := h1
  have lt1 : ∀ x ∈ p1, x.block < W.heap.size := by obtain ⟨m, hm⟩ := k1; exact DataW.trod_lt m _ _ _ hm
  have hw1 : ∀ n ∈ d1.weights Try.prog 22, n ≤ reachBytes := fun n hn => by
    have z := List.all_eq_true.1 hsz _ (DataW.weights_mem_each (j := 1) (t := 22) (d := d1) rfl rfl n hn)
    simpa using z
  obtain ⟨z1, rfl, hc1, hC1, hs1⟩ : ∃ z : List E.S32, z.length = len1 ∧ len1 ≤ cap1 ∧ Go.Proofs.YtdoifpjpdhccdaaW.PrintWords.Kd.C E.k32 W a1 z.length z ∧ ((∀ n ∈ d1.weights Try.prog 22, n ≤ reachBytes) → z.length ≤ reachBytes ∧ ∀ p ∈ z, Pure.Small32 p) := by
    obtain ⟨fuel, hf⟩ := h1
    exact Pure.open_vars hf
  obtain ⟨hl1, hm1⟩ := hs1 hw1
  have hrb : reachBytes = 140737488351232 := rfl
  obtain ⟨k, hk⟩ := Pure.ExpandSubst a0 (by omega) z1 (fun j hj => by
    obtain ⟨s1, s2⟩ := hm1 _ (Pure.rd_mem z1 j hj)
    exact ⟨by omega, by omega⟩) (by omega)
  clear hA0 hval0 hsz0 hsz
  refine (E.bastionlaw13_ExpandSubst.calls k a0 a1 cap1 z1 true W hC1 hc1 hk).mono fun e W' ⟨he, bel⟩ => ?_
  subst he
  exact ⟨_, rfl, _, _, _, [], _, [], hW', trodAll_mk1 (shut_bool Try.underlying4 _), (trodAll_cons_mk (shut_string Try.underlying9 y0) (trodAll_cons_mk (Below.trod laidOut (by kernel_rfl) (of_decide_eq_true (by kernel_rfl)) k1 bel lt1) trodAll_mk0)), rfl, bel.frame _, fun h => by cases h⟩
theorem over : Rows.expandSubstRow.holds Try.pinned (OpenSpec.ofChange Rows.expandSubstSpec) :=
  OpenClaim.holds_of_wide 3 Try.f3 rfl rfl rfl rfl rfl rfl rfl ⟨rfl, rfl, rfl, rfl, rfl⟩ rfl rfl rfl rfl rfl (by kernel_rfl) Try.func3 (by kernel_rfl)
    (of_decide_eq_true (by kernel_rfl)) (by unfold Func.isWrapper; first | (rw [if_pos (by decide +kernel)]; kernel_rfl) | (rw [if_neg (by decide +kernel)]; exact ⟨rfl, rfl⟩))
    (fun os started H enc _ => lifted os started H enc)
theorem proved : Rows.ExpandSubstSaid := over
#print axioms proved
end Go.Proofs.Ytdoifpjpdhccdaa.expandSubst
namespace Go.Proofs.Ytdoifpjpdhccdaa
/-- The row, under a short name, for the claim. -/
theorem expandSubst_holds : Rows.ExpandSubstSaid := expandSubst.proved
end Go.Proofs.Ytdoifpjpdhccdaa
