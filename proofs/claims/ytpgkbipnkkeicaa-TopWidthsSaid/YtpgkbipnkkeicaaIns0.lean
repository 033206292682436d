import Derived.Test.YtpgkbipnkkeicaaRd
import Derived.Shelf.Spec.SlicesInsertGrow
/-! slices.Insert: the shelf's contract, laid. -/
namespace Go.Proofs.Ytpgkbipnkkeicaa
open Go Go.Sx Go.Shelf
def rho : Ren where
  f := fun n => match n with | 21 => 12 | 27 => 53 | 28 => 54 | 35 => 119 | 39 => 155 | n => n
  t := fun n => match n with | 22 => 27 | n => n
  g := fun n => n
theorem lays21 : Lays2.n21 Try.prog rho where
  mixed := by kernel_rfl
  f21 := by kernel_rfl
  f27 := by kernel_rfl
  f28 := by kernel_rfl
  f35 := by kernel_rfl
  f39 := by kernel_rfl
  t0 := by kernel_rfl
  a0 := by intro w; kernel_rfl
  z0 := by intro w; kernel_rfl
  v0 := by intro w; kernel_rfl
  t3 := by kernel_rfl
  a3 := by intro w; kernel_rfl
  z3 := by intro w; kernel_rfl
  v3 := by intro w; kernel_rfl
  t4 := by kernel_rfl
  a4 := by intro w; kernel_rfl
  z4 := by intro w; kernel_rfl
  v4 := by intro w; kernel_rfl
  t22 := by kernel_rfl
  a22 := by intro w; kernel_rfl
  z22 := by intro w; kernel_rfl
  v22 := by intro w; kernel_rfl
  i3 := by kernel_rfl
end Go.Proofs.Ytpgkbipnkkeicaa
