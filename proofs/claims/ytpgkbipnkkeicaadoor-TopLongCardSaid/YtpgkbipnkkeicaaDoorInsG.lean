import Derived.Test.YtpgkbipnkkeicaaDoorSx7
import Derived.Deep.Upon
set_option linter.unusedSimpArgs false
set_option linter.unusedVariables false
/-! A block that grows, or is written: the general part of slices.Insert. -/
namespace Go.Sx
open Go

def spl (cs : List Value) (o : Nat) (vs : List Value) : List Value := cs.take o ++ vs ++ cs.drop (o + vs.length)
theorem spl_nil (cs : List Value) (o : Nat) : spl cs o [] = cs := by simp [spl]
theorem spl_len {cs vs : List Value} {o : Nat} (h : o + vs.length ≤ cs.length) : (spl cs o vs).length = cs.length := by simp [spl]; omega
theorem spl_cons {cs vs : List Value} {o : Nat} {v : Value} (h : o < cs.length) : spl (cs.set o v) (o + 1) vs = spl cs o (v :: vs) := by
  unfold spl
  rw [List.take_set, List.take_add_one, List.getElem?_eq_getElem h, List.drop_set_of_lt (by omega), List.set_append, List.length_take, if_neg (by omega), Nat.min_eq_left (by omega), Nat.sub_self]
  simp
  omega
theorem spl_app {a b vs : List Value} {o : Nat} (ho : o = a.length) : spl (a ++ b) o vs = a ++ vs ++ b.drop vs.length := by
  subst ho
  unfold spl
  rw [List.take_append_of_le_length (Nat.le_refl _), List.take_of_length_le (Nat.le_refl _), List.drop_append, List.drop_eq_nil_of_le (by omega), List.nil_append, show a.length + vs.length - a.length = vs.length from by omega]
theorem take_app {a b : List Value} {o : Nat} (ho : o = a.length) : (a ++ b).take o = a := by subst ho; simp
theorem heap_setCells (g : Nat) (T : TypeId) : ∀ (vs : List Value) (o : Nat) (w : World) (cs : List Value), w.heap[g]? = some (.cells cs.toArray T (0, 0)) → o + vs.length ≤ cs.length →
    (w.setCells g o vs).heap[g]? = some (.cells (spl cs o vs).toArray T (0, 0))
  | [], o, w, cs, h, _ => by rw [World.setCells, spl_nil]; exact h
  | v :: vs, o, w, cs, h, hl => by
    simp at hl
    rw [World.setCells, ← spl_cons (by omega)]
    refine heap_setCells g T vs (o + 1) _ (cs.set o v) ?_ (by simp; omega)
    simp [World.setCell, Array.getElem?_modify, h]
theorem tape_setCells (g : Nat) : ∀ (vs : List Value) (o : Nat) (w : World), (w.setCells g o vs).tape = w.tape
  | [], _, _ => rfl
  | v :: vs, o, w => by rw [World.setCells, tape_setCells g vs]; rfl
theorem size_setCells' (g : Nat) : ∀ (vs : List Value) (o : Nat) (w : World), (w.setCells g o vs).heap.size = w.heap.size
  | [], _, _ => rfl
  | v :: vs, o, w => by rw [World.setCells, size_setCells' g vs]; simp

/-- One world from another: a block has these cells now; else what was there has not changed. -/
structure Upd (w w' : World) (g : Nat) (T : TypeId) (cs : List Value) : Prop where
  os : w'.os = w.os
  tape : w'.tape = w.tape
  output : w'.output = w.output
  size : w.heap.size ≤ w'.heap.size
  lt : g < w'.heap.size
  other : ∀ k, k < w.heap.size → k ≠ g → w'.heap[k]? = w.heap[k]?
  cells : w'.heap[g]? = some (.cells cs.toArray T (0, 0))
theorem Upd.drew {w w' : World} {g : Nat} {T : TypeId} {cs : List Value} (h : Upd w w' g T cs) : Upd w w'.drew g T cs := ⟨h.os, h.tape, h.output, h.size, h.lt, h.other, h.cells⟩
theorem Upd.start {w : World} {g : Nat} {T : TypeId} {cs : List Value} (h : w.heap[g]? = some (.cells cs.toArray T (0, 0))) : Upd w w g T cs := ⟨rfl, rfl, rfl, Nat.le_refl _, lt_of_heap h, fun _ _ _ => rfl, h⟩
theorem Upd.alloc (w : World) (T : TypeId) (cs : List Value) : Upd w (w.alloc (.cells cs.toArray T)) w.heap.size T cs :=
  ⟨rfl, rfl, rfl, by simp, by simp, fun k hk _ => heap_alloc_old w _ hk, heap_alloc_new w _⟩
theorem Upd.setCells {w w' : World} {g : Nat} {T : TypeId} {cs : List Value} (h : Upd w w' g T cs) (o : Nat) (vs : List Value) (hl : o + vs.length ≤ cs.length) : Upd w (w'.setCells g o vs) g T (spl cs o vs) := by
  refine ⟨?_, ?_, ?_, ?_, ?_, fun k hk hn => ?_, heap_setCells g T vs o w' cs h.cells hl⟩
  · rw [World.os_setCells]; exact h.os
  · rw [tape_setCells]; exact h.tape
  · rw [World.output_setCells]; exact h.output
  · rw [size_setCells']; exact h.size
  · rw [size_setCells']; exact h.lt
  · rw [World.heap_setCells_other w' g o vs (Nat.lt_of_lt_of_le hk h.size) hn]; exact h.other k hk hn
theorem Upd.done {w w' : World} {g : Nat} {T : TypeId} {cs : List Value} (h : Upd w w' g T cs) {I : IH} {rs : List Row} (hm : Mem I rs w) (hg : g ∈ blocks rs ∨ w.heap.size ≤ g) {cap n sz : Nat} {xs : List Value}
    (h1 : xs.length = n * sz) (h2 : n ≤ cap) (h3 : cap ≤ maxLen) (h4 : cs.length = cap * sz) (h5 : cs.take (n * sz) = xs) :
    Mem I [.own (some ⟨g, 0, none⟩) cap T sz n xs] w' ∧ Fram I (blocks rs) w I [.own (some ⟨g, 0, none⟩) cap T sz n xs] w' := by
  have hI : I g = none := by
    rcases hg with h | h
    · exact hm.apart g h
    · cases hI : I g with
      | none => rfl
      | some o => exact absurd (hm.imm_lt hI) (by omega)
  refine ⟨⟨fun k o hk => ?_, fun r hr => ?_, fun k hk => ?_, by simp [Row.block]⟩, ⟨h.os, h.tape, h.output, h.size, fun k hk hn => ⟨h.other k hk ?_, rfl⟩, fun k hk => ?_⟩⟩
  · rw [h.other k (hm.imm_lt hk) (by rintro rfl; rw [hI] at hk; cases hk)]; exact hm.imm k o hk
  · simp at hr; subst hr
    exact ⟨h1, .inr ⟨g, cap, cs.toArray, rfl, Nat.zero_le _, h.cells, h2, h3, by simpa using h4, by simpa using h5⟩⟩
  · simp [Row.block] at hk; subst hk; exact hI
  · rcases hg with hg | hg
    · rintro rfl; exact hn hg
    · omega
  · simp [Row.block] at hk; subst hk
    rcases hg with hg | hg
    · exact .inl hg
    · exact .inr hg
end Go.Sx

