/- The parameters []bastionref14.Axis and []string, read; and the plain law at them. -/
import Derived.Test.YtifgdhmbjlfnhaaDoorOpensW
import Derived.Test.YtifgdhmbjlfnhaaDoorPureMatrixRows
namespace Go.Proofs.YtifgdhmbjlfnhaaDoor.Pure
open Go.RowKit Go.Proofs.YtifgdhmbjlfnhaaDoor.M Go.Proofs.YtifgdhmbjlfnhaaDoorW.PrintWords Go.Proofs.YtifgdhmbjlfnhaaDoorW.PrintLast
def StrOk (s : ByteArray) : Prop := s.size ≤ reachBytes
def StrsOk (l : List ByteArray) : Prop := l.length ≤ 8796093021952 ∧ ∀ s ∈ l, StrOk s
def AxisOk (x : S42) : Prop := StrOk x.f0 ∧ StrsOk x.f1
def AxesOk (l : List S42) : Prop := l.length ≤ 140737488351232 ∧ ∀ x ∈ l, AxisOk x
theorem bytes9 : Tryd.prog.bytesOf 9 = 16 := by kernel_rfl
theorem bytes42 : Tryd.prog.bytesOf 42 = 40 := by kernel_rfl
theorem OpW.imp {α : Type} {P : Program} {d : Kd α} {t : TypeId} {Q Q' : α → Prop} (h : OpW P d t Q) (hQ : ∀ a, Q a → Q' a) : OpW P d t Q' := by
  intro H enc W base spare held fuel cs x hx
  obtain ⟨a, ha, hb⟩ := h enc W base spare held fuel cs x hx
  exact ⟨a, ha, fun hw => hQ a (hb hw)⟩
theorem opw_strs : OpW Tryd.prog (Kd.slice 9 Kd.string) 23 StrsOk := by
  apply OpW.imp (Q := fun l : List ByteArray => l.length * Tryd.prog.bytesOf 9 ≤ reachBytes ∧ ∀ p ∈ l, StrOk p)
  · apply OpW.slice Tryd.underlying23 (by kernel_rfl)
    exact @OpW.string _ _ Tryd.underlying9
  · intro l ⟨h1, h2⟩
    rw [bytes9] at h1
    have hr : reachBytes = 140737488351232 := rfl
    exact ⟨by omega, h2⟩
theorem opw42p : OpW Tryd.prog (Kd.pair Kd.string (Kd.slice 9 Kd.string)) 42 (fun p => StrOk p.1 ∧ StrsOk p.2) := by
  apply OpW.struct Tryd.underlying42 (by kernel_rfl)
  apply OpFW.more (Q := StrOk) (Q' := StrsOk) rfl (by kernel_rfl)
  · exact @OpW.string _ _ Tryd.underlying9
  · apply OpFW.one rfl (by kernel_rfl)
    exact @opw_strs
theorem opw42 : OpW Tryd.prog k42 42 AxisOk := by
  apply OpW.iso (Q := fun p : ByteArray × List ByteArray => StrOk p.1 ∧ StrsOk p.2) (fun x : S42 => (x.f0, x.f1)) (fun p => ⟨p.1, p.2⟩) (fun _ => rfl)
  exact @opw42p
theorem opw22 : OpW Tryd.prog (Kd.slice 42 k42) 22 AxesOk := by
  apply OpW.imp (Q := fun l : List S42 => l.length * Tryd.prog.bytesOf 42 ≤ reachBytes ∧ ∀ p ∈ l, AxisOk p)
  · apply OpW.slice Tryd.underlying22 (by kernel_rfl)
    exact @opw42
  · intro l ⟨h1, h2⟩
    rw [bytes42] at h1
    have hr : reachBytes = 140737488351232 := rfl
    exact ⟨by omega, h2⟩
theorem open_axesW {H : Type} {enc : TypeId × Value → H} {W : World} {base : Nat} {spare : Nat → Bool} {held : Bool} {fuel : Nat} {a : Option Addr} {len cap : Nat} {x : DataW H × List MemPlace} (h : DataW.trod enc Tryd.prog W base spare held fuel 22 [.slice a len cap] = some x) :
    ∃ zs : List S42, zs.length = len ∧ len ≤ cap ∧ Kd.C k42 W a zs.length zs ∧ ((∀ n ∈ x.1.weights Tryd.prog 22, n ≤ reachBytes) → AxesOk zs) := by
  obtain ⟨zs, ⟨A, c, he, hl, hC⟩, hb⟩ := opw22 enc W base spare held fuel _ x h
  injection he with he _
  injection he with h1 h2 h3
  subst h1 h2 h3
  exact ⟨zs, rfl, hl, hC, hb⟩
theorem open_strsW {H : Type} {enc : TypeId × Value → H} {W : World} {base : Nat} {spare : Nat → Bool} {held : Bool} {fuel : Nat} {a : Option Addr} {len cap : Nat} {x : DataW H × List MemPlace} (h : DataW.trod enc Tryd.prog W base spare held fuel 23 [.slice a len cap] = some x) :
    ∃ zs : List ByteArray, zs.length = len ∧ len ≤ cap ∧ Kd.C Kd.string W a zs.length zs ∧ ((∀ n ∈ x.1.weights Tryd.prog 23, n ≤ reachBytes) → StrsOk zs) := by
  obtain ⟨zs, ⟨A, c, he, hl, hC⟩, hb⟩ := opw_strs enc W base spare held fuel _ x h
  injection he with he _
  injection he with h1 h2 h3
  subst h1 h2 h3
  exact ⟨zs, rfl, hl, hC, hb⟩
theorem MatrixRowsW (l : List S42) (row : List ByteArray) (hl : AxesOk l) (hr : StrsOk row) : ∃ k, bastionlaw14_MatrixRows.Good k l row ∧ true = true := by
  obtain ⟨k, hk⟩ := MatrixRows l row hl.1 (fun x hx => hl.2 x hx)
  exact ⟨k, hk, rfl⟩
end Go.Proofs.YtifgdhmbjlfnhaaDoor.Pure
