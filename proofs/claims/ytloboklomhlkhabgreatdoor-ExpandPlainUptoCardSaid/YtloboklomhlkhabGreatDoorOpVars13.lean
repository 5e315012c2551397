/- The parameter []api.Var, read. -/
import Derived.Test.YtloboklomhlkhabGreatDoorOpensG
import Derived.Test.YtloboklomhlkhabGreatDoorPureExpandPlain
namespace Go.Proofs.YtloboklomhlkhabGreatDoor.Pure
open Go.RowKit Go.Proofs.YtloboklomhlkhabGreatDoor.E Go.Proofs.YtloboklomhlkhabGreatDoorW.PrintWords Go.Proofs.YtloboklomhlkhabGreatDoorW.PrintLast
def totV (l : List S29) : Nat := (l.map fun x => x.f0.size + 1 + (x.f1.size + 1) + 1).sum
theorem op29p : Op Tryz.prog (Kd.pair Kd.string Kd.string) 29 (fun p => p.1.size + 1 + (p.2.size + 1) + 1) := by
  apply Op.struct (b := fun p : ByteArray × ByteArray => p.1.size + 1 + (p.2.size + 1)) Tryz.underlying29 (by kernel_rfl)
  apply OpF.more (b := fun s : ByteArray => s.size + 1) (b' := fun s : ByteArray => s.size + 1) rfl (by kernel_rfl)
  · exact @Op.string _ _ Tryz.underlying9
  · apply OpF.one rfl (by kernel_rfl)
    exact @Op.string _ _ Tryz.underlying9
theorem op29 : Op Tryz.prog k29 29 (fun x => x.f0.size + 1 + (x.f1.size + 1) + 1) := by
  apply Op.iso (b := fun p : ByteArray × ByteArray => p.1.size + 1 + (p.2.size + 1) + 1) (fun x : S29 => (x.f0, x.f1)) (fun p => ⟨p.1, p.2⟩) (fun _ => rfl)
  exact @op29p
theorem op22 : Op Tryz.prog (Kd.slice 29 k29) 22 totV := by
  apply Op.slice (b := fun x : S29 => x.f0.size + 1 + (x.f1.size + 1) + 1) Tryz.underlying22 (by kernel_rfl)
  exact @op29
theorem tot_varsLen : ∀ l : List S29, l.length ≤ totV l
  | [] => Nat.zero_le _
  | x :: l => by
    have := tot_varsLen l
    unfold totV at this ⊢
    rw [List.map_cons, List.sum_cons, List.length_cons]
    omega
theorem tot_varsMem : ∀ l : List S29, ∀ x ∈ l, x.f1.size ≤ totV l
  | [], _, h => by cases h
  | y :: l, x, h => by
    have := tot_varsMem l x
    unfold totV at this ⊢
    rw [List.map_cons, List.sum_cons]
    rcases List.mem_cons.1 h with rfl | h
    · omega
    · have := this h; omega
theorem open_vars {H : Type} {enc : TypeId × Value → H} {W : World} {base : Nat} {spare : Nat → Bool} {held : Bool} {fuel : Nat} {a : Option Addr} {len cap : Nat} {x : DataW H × List MemPlace} (h : DataW.trod enc Tryz.prog W base spare held fuel 22 [.slice a len cap] = some x) :
    ∃ zs : List S29, zs.length = len ∧ len ≤ cap ∧ Kd.C k29 W a zs.length zs ∧ totV zs ≤ Rows.uptoBulk x.1 := by
  obtain ⟨zs, ⟨A, c, he, hl, hC⟩, hb⟩ := op22 enc W base spare held fuel _ x h
  injection he with he _
  injection he with h1 h2 h3
  subst h1 h2 h3
  exact ⟨zs, rfl, hl, hC, hb⟩
theorem ExpandPlainU (a : ByteArray) (l : List S29) (hl : totV l ≤ 1048576) : ∃ k, bastionlaw13_ExpandPlain.f k a l = some true := by
  have h1 := tot_varsLen l
  exact ExpandPlain a l (by omega) (fun id => Nat.le_trans (look_size l (totV l) id _ (tot_varsMem l)) (by omega))
end Go.Proofs.YtloboklomhlkhabGreatDoor.Pure
