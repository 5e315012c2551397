/- The parameter []bastionref14.Axis, read. -/
import Derived.Test.YtifgdhmbjlfnhaaDoorOpensG
import Derived.Test.YtifgdhmbjlfnhaaDoorPureMatrixCounts
namespace Go.Proofs.YtifgdhmbjlfnhaaDoor.Pure
open Go.RowKit Go.Proofs.YtifgdhmbjlfnhaaDoor.M Go.Proofs.YtifgdhmbjlfnhaaDoorW.PrintWords Go.Proofs.YtifgdhmbjlfnhaaDoorW.PrintLast
theorem op_strs : Op Tryd.prog (Kd.slice 9 Kd.string) 23 tot := by
  apply Op.slice Tryd.underlying23 (by kernel_rfl)
  exact @Op.string _ _ Tryd.underlying9
theorem op42p : Op Tryd.prog (Kd.pair Kd.string (Kd.slice 9 Kd.string)) 42 (fun p => p.1.size + 1 + tot p.2 + 1) := by
  apply Op.struct (b := fun p : ByteArray × List ByteArray => p.1.size + 1 + tot p.2) Tryd.underlying42 (by kernel_rfl)
  apply OpF.more (b := fun s : ByteArray => s.size + 1) (b' := tot) rfl (by kernel_rfl)
  · exact @Op.string _ _ Tryd.underlying9
  · apply OpF.one rfl (by kernel_rfl)
    exact @op_strs
theorem op42 : Op Tryd.prog k42 42 (fun x => x.f0.size + 1 + tot x.f1 + 1) := by
  apply Op.iso (b := fun p : ByteArray × List ByteArray => p.1.size + 1 + tot p.2 + 1) (fun x : S42 => (x.f0, x.f1)) (fun p => ⟨p.1, p.2⟩) (fun _ => rfl)
  exact @op42p
theorem op22 : Op Tryd.prog (Kd.slice 42 k42) 22 totA := by
  apply Op.slice (b := fun x : S42 => x.f0.size + 1 + tot x.f1 + 1) Tryd.underlying22 (by kernel_rfl)
  exact @op42
theorem open_axes {H : Type} {enc : TypeId × Value → H} {W : World} {base : Nat} {spare : Nat → Bool} {held : Bool} {fuel : Nat} {a : Option Addr} {len cap : Nat} {x : DataW H × List MemPlace} (h : DataW.trod enc Tryd.prog W base spare held fuel 22 [.slice a len cap] = some x) :
    ∃ zs : List S42, zs.length = len ∧ len ≤ cap ∧ Kd.C k42 W a zs.length zs ∧ totA zs ≤ Rows.uptoBulk x.1 := by
  obtain ⟨zs, ⟨A, c, he, hl, hC⟩, hb⟩ := op22 enc W base spare held fuel _ x h
  injection he with he _
  injection he with h1 h2 h3
  subst h1 h2 h3
  exact ⟨zs, rfl, hl, hC, hb⟩
end Go.Proofs.YtifgdhmbjlfnhaaDoor.Pure
