import Derived.Test.YtpgkbipnkkeicaaDoorRp0
import Derived.Test.YtpgkbipnkkeicaaDoorSx11
/-! strings.Repeat of a zero. -/
namespace Go.Proofs.YtpgkbipnkkeicaaDoor
open Go Go.Sx Go.Shelf
theorem repeatL_48 (k : Nat) : (⟨(Lib.repeatL (⟨#[48]⟩ : ByteArray).data.toList k).toArray⟩ : ByteArray) = sB (List.replicate k 48) := by
  have h : ∀ k, Lib.repeatL [(48 : UInt8)] k = List.replicate k 48 := fun k => by
    induction k with
    | zero => rfl
    | succ k ih => rw [Lib.repeatL, ih, List.replicate_succ]; rfl
  apply ByteArray.ext
  show (Lib.repeatL [(48 : UInt8)] k).toArray = _
  rw [h]
  simp [sB, List.map_replicate]
theorem repeat_c (I : IH) (k : Nat) (hk : k ≤ 100000) : PFn Tryd.prog (rhoR.f 105) #[.string ⟨#[48]⟩, .int .i64 (k : Int)] I fun r I' => r = .string (sB (List.replicate k 48)) ∧ I' = I := by
  refine ⟨by kernel_rfl, fun w hm => ?_⟩
  have h := Any.strings_Repeat laysR extraR ⟨#[48]⟩ k w (by omega) (by show 1 * k ≤ _; omega)
  refine h.mono ?_
  rintro e w' ⟨rfl, hb⟩
  have hmem : Mem I [] w' := ⟨fun g o hg => by rw [hb.block g (hm.imm_lt hg)]; exact hm.imm g o hg, fun r hr => (by cases hr), fun g hg => (by cases hg), List.nodup_nil⟩
  have hfr : Fram I (blocks []) w I [] w' := ⟨hb.os, hb.tape, hb.output, hb.size, fun g hg _ => ⟨hb.block g hg, rfl⟩, fun g hg => (by cases hg)⟩
  exact ⟨_, I, [], rfl, hmem, hfr, rfl, by rw [repeatL_48], rfl⟩
end Go.Proofs.YtpgkbipnkkeicaaDoor
