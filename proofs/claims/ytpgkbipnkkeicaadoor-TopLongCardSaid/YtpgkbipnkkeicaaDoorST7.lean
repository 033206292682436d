import Derived.Test.YtpgkbipnkkeicaaDoorRd
import Derived.Test.YtpgkbipnkkeicaaDoorSx12
set_option linter.unusedSimpArgs false
set_option linter.unusedVariables false
/-! sigilOf. -/
namespace Go.Proofs.YtpgkbipnkkeicaaDoor
open Go Go.Sx
set_option maxRecDepth 100000 in
theorem sigilOf_c (I : IH) (A : Option Addr) (c : Nat) (l : List Nat) (h : RdSl I 1 (.slice A l.length c) l.length (U8 l)) (hb : ∀ x ∈ l, x < 256) :
    Sx.Fn Tryd.prog 4 #[.slice A l.length c] I [] fun v I' rs' => ∃ m : List Nat, ∃ gb : Nat, SigOK I A c m ∧ v = .pointer (some ⟨gb, 0, none⟩) ∧ I' = I ∧ rs' = [SigR gb A c m 0] := by
  have hcap := h.cap
  have hok : SigOK I A c (l.take 400) := by
    obtain ⟨h1, A', c', h2, h3, h4, h5⟩ := h
    cases h2
    refine ⟨⟨by simp [U8], A, c, rfl, by simp; omega, h4, fun h0 => ?_⟩, fun x hx => hb x (List.mem_of_mem_take hx), by simp; omega⟩
    obtain ⟨ad, e, hc⟩ := h5 (by simp at h0; omega)
    refine ⟨ad, e, fun j u hu => hc j u ?_⟩
    simp only [U8, List.map_take, List.getElem?_take] at hu
    split at hu
    · exact hu
    · cases hu
  have hlen : (min (l.length : Int) 400) = (((l.take 400).length : Nat) : Int) := by simp; omega
  refine Fn.intro (n := 10) (args := [.slice A l.length c]) (by kernel_rfl) Tryd.func4 rfl Tryd.ntmps4 (Nat.le_of_ble_eq_true rfl) [(0, .slice A l.length c)] rfl (fun w0 => ?_)
  repeat' (first
    | (rw [hlen])
    | (refine SyC.seq ?_)
    | (refine SyC.region ?_)
    | (refine SyL.nil ?_)
    | (refine Then.norm ?_)
    | (refine SyL.light (LV.move rfl) Rq.nil (.none rfl) rfl (ltB rfl) ?_)
    | (refine SyL.light (LV.assign rfl) Rq.nil (.none rfl) rfl (ltB rfl) ?_)
    | (refine SyL.light (LV.len (by apply rfl)) Rq.nil (.none rfl) rfl (ltB rfl) ?_)
    | (refine SyL.light (LV.sliceHN (by apply rfl) (by apply rfl) (by omega)) Rq.nil (.none rfl) rfl (ltB rfl) ?_)
    | (refine SyL.light (LV.min2 rfl rfl) Rq.nil (.none rfl) rfl (ltB rfl) ?_))
  refine SyL.light (LV.build (ps := [(0, [.slice A (l.take 400).length c])]) (cs := [.slice A (l.take 400).length c, .int .i64 0]) (.cons (cs := [.slice A (l.take 400).length c]) rfl rfl rfl .nil) (by kernel_rfl) rfl (by simp)) Rq.nil (.none rfl) rfl (ltB rfl) ?_
  repeat' (first
    | (refine SyL.nil ?_)
    | (refine Then.norm ?_)
    | (refine SyC.ret ?_)
    | (refine SyL.light (LV.assign rfl) Rq.nil (.none rfl) rfl (ltB rfl) ?_)
    | (refine SyL.heavy (OpT.box rfl rfl (fun g_ hg_ => ?_)) (.none rfl) rfl (ltB rfl)))
  refine Ret.one (by simp) Tryd.results4 (.tmp rfl) ?_
  exact ⟨l.take 400, g_, hok, rfl, rfl, rfl⟩
end Go.Proofs.YtpgkbipnkkeicaaDoor
