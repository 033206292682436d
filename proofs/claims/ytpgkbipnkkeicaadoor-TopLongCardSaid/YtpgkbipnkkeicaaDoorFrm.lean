import Derived.Test.YtpgkbipnkkeicaaDoorRd
import Derived.Below
/-! From a contract over all of the heap to the row's walk. -/
namespace Go.Sx
open Go Go.RowKit
def IH.of (w : World) : IH := fun k => w.heap[k]?
theorem Mem.start (w : World) : Mem (IH.of w) [] w := ⟨fun _ _ h => h, by simp, by simp, by simp⟩
theorem Fn.below {P : Program} {f : FuncId} {args : Array Value} {w : World} {post : Value → IH → List Row → Prop} (h : Sx.Fn P f args (IH.of w) [] post) :
    Calls P f args w fun e w' => (∃ v I' rs', e = .returned v ∧ post v I' rs') ∧ Below w.heap.size w w' :=
  (h.run w (Mem.start w)).mono fun _ _ ⟨v, I', rs', h1, _, h3, h4⟩ => ⟨⟨v, I', rs', h1, h4⟩, h3.os, h3.tape, h3.output, h3.size, fun k hk => (h3.old k hk (by simp)).1⟩
theorem icell_of {w : World} {a : Addr} {v : Value} (h : w.cell? a = some v) : icell (IH.of w) a = some v := by
  unfold icell IH.of
  unfold World.cell? at h
  cases hb : w.heap[a.block]? with
  | none => rw [hb] at h; cases h
  | some o => rw [hb] at h; exact h
end Go.Sx
namespace Go.Proofs.YtpgkbipnkkeicaaDoor
open Go Go.Sx
theorem u8_wf {n : Int} (h : (Lit.int .u8 n).wf = true) : 0 ≤ n ∧ n ≤ 255 := by
  have e : (Lit.int .u8 n).wf = (decide (IntKind.u8.min ≤ n) && decide (n ≤ IntKind.u8.max)) := rfl
  rw [e, show IntKind.u8.min = 0 from rfl, show IntKind.u8.max = 255 from rfl] at h
  simp only [Bool.and_eq_true, decide_eq_true_eq] at h
  exact h
/-- Bytes that came in. -/
theorem bytesIn (w : World) (a : Option Addr) (len cap : Nat) (zs : List Int)
    (h : (a = none ∧ len = 0 ∧ cap = 0 ∧ zs = []) ∨ ∃ x, a = some x ∧ len ≤ cap ∧ cap ≤ maxLen ∧ zs.length = cap ∧ (∀ i, i < zs.length → w.cell? (x.add i) = some (.int .u8 (zs.getD i 0))) ∧ ∀ n ∈ zs, (Lit.int .u8 n).wf = true) :
    ∃ l : List Nat, l.length = len ∧ RdSl (IH.of w) 1 (.slice a l.length cap) l.length (U8 l) ∧ ∀ x ∈ l, x < 256 := by
  rcases h with ⟨rfl, rfl, rfl, rfl⟩ | ⟨x, rfl, h1, h2, h3, h4, h5⟩
  · exact ⟨[], rfl, ⟨rfl, none, 0, rfl, Nat.le_refl _, by simp [maxLen], fun h => absurd h (by simp)⟩, by simp⟩
  · have hw : ∀ n ∈ zs, 0 ≤ n ∧ n ≤ 255 := fun n hn => by
      have := h5 n hn
      exact u8_wf this
    have hlen : ((zs.take len).map Int.toNat).length = len := by simp; omega
    refine ⟨(zs.take len).map Int.toNat, hlen, ⟨by simp [U8], some x, cap, rfl, by rw [hlen]; exact h1, h2, fun _ => ⟨x, rfl, fun j u hu => ?_⟩⟩, fun n hn => ?_⟩
    · simp only [U8, List.getElem?_map, Option.map_eq_some_iff, List.getElem?_take] at hu
      obtain ⟨d, ⟨d', hd, rfl⟩, rfl⟩ := hu
      split at hd
      · obtain ⟨hj, rfl⟩ := List.getElem?_eq_some_iff.1 hd
        have h6 := hw _ (List.getElem_mem hj)
        have h7 := h4 j hj
        rw [List.getD_eq_getElem?_getD, List.getElem?_eq_getElem hj] at h7
        refine icell_of ?_
        rw [h7]
        simp only [Option.getD_some]
        rw [Int.toNat_of_nonneg h6.1]
      · cases hd
    · simp only [List.mem_map] at hn
      obtain ⟨d, hd, rfl⟩ := hn
      have := hw d (List.mem_of_mem_take hd)
      omega
end Go.Proofs.YtpgkbipnkkeicaaDoor
