import Derived.WalkKit
/-! Graphs as lists of numbers, whose bits are the neighbours: how they are made. -/
namespace Go.Gr

def addE (g : List Nat) (a b : Nat) : List Nat := if a = b then g else g.set a (g.getD a 0 ||| 2 ^ b)
def addB (a : Nat) (g l : List Nat) : List Nat := l.foldl (fun g b => addE g a b) g
def addA (l g l' : List Nat) : List Nat := l'.foldl (fun g a => addB a g l) g
def addS (g : List Nat) (ss : List (List Nat)) : List Nat := ss.foldl (fun g l => addA l g l) g

theorem foldl_take {α β : Type} (f : β → α → β) (b : β) (l : List α) (k : Nat) (x : α) (h : l[k]? = some x) : (l.take (k + 1)).foldl f b = f ((l.take k).foldl f b) x := by
  have hk : k < l.length := (List.getElem?_eq_some_iff.1 h).1
  rw [List.take_add_one, h]
  simp

/-- All rows of a graph are below 2^16. -/
def Small (g : List Nat) : Prop := ∀ x ∈ g, x < 65536
theorem Small.getD {g : List Nat} (h : Small g) (a : Nat) : g.getD a 0 < 65536 := by
  rw [List.getD_eq_getElem?_getD]
  cases hx : g[a]? with
  | none => simp
  | some x => exact h x (List.mem_of_getElem? hx)
theorem Small.addE {g : List Nat} (h : Small g) (a : Nat) {b : Nat} (hb : b < 16) : Small (addE g a b) := by
  unfold Gr.addE
  split
  · exact h
  · intro x hx
    rcases List.mem_or_eq_of_mem_set hx with h1 | h1
    · exact h x h1
    · subst h1
      have h2 : 2 ^ b < 2 ^ 16 := Nat.pow_lt_pow_right (by omega) hb
      have h3 : g.getD a 0 < 2 ^ 16 := h.getD a
      have := Nat.or_lt_two_pow h3 h2
      omega
theorem addE_len (g : List Nat) (a b : Nat) : (addE g a b).length = g.length := by unfold addE; split <;> simp
theorem addB_len (a : Nat) (g l : List Nat) : (addB a g l).length = g.length := by
  unfold addB
  induction l generalizing g with
  | nil => rfl
  | cons b l ih => rw [List.foldl_cons, ih, addE_len]
theorem addA_len (l g l' : List Nat) : (addA l g l').length = g.length := by
  unfold addA
  induction l' generalizing g with
  | nil => rfl
  | cons b l ih => rw [List.foldl_cons, ih, addB_len]
theorem addS_len (g : List Nat) (ss : List (List Nat)) : (addS g ss).length = g.length := by
  unfold addS
  induction ss generalizing g with
  | nil => rfl
  | cons b l ih => rw [List.foldl_cons, ih, addA_len]
theorem Small.addB {g : List Nat} (h : Small g) (a : Nat) {l : List Nat} (hl : ∀ b ∈ l, b < 16) : Small (addB a g l) := by
  unfold Gr.addB
  induction l generalizing g with
  | nil => exact h
  | cons b l ih => exact ih (h.addE a (hl b (.head _))) fun x hx => hl x (.tail _ hx)
theorem Small.addA {g : List Nat} (h : Small g) {l l' : List Nat} (hl : ∀ b ∈ l, b < 16) : Small (addA l g l') := by
  unfold Gr.addA
  induction l' generalizing g with
  | nil => exact h
  | cons a l' ih => exact ih (h.addB a hl)
theorem Small.addS {g : List Nat} (h : Small g) {ss : List (List Nat)} (hl : ∀ l ∈ ss, ∀ b ∈ l, b < 16) : Small (addS g ss) := by
  unfold Gr.addS
  induction ss generalizing g with
  | nil => exact h
  | cons l ss ih => exact ih (h.addA (hl l (.head _))) fun x hx => hl x (.tail _ hx)
theorem Small.zeros (n : Nat) : Small (List.replicate n 0) := fun x hx => by rw [List.eq_of_mem_replicate hx]; omega
theorem Small.mono_take {l : List Nat} {n k : Nat} (h : ∀ b ∈ l, b < n) : ∀ b ∈ l.take k, b < n := fun b hb => h b (List.mem_of_mem_take hb)
end Go.Gr
