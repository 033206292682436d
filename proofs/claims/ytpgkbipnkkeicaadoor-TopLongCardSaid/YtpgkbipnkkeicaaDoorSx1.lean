import Derived.WalkKit
import Derived.Orders
/-! A small separation logic over the walk's rules: environments, the heap's immutable part, owned rows. -/
namespace Go.Sx
open Go

/-! ### 1. Environments -/
abbrev Env := List (Nat × Value)
def look : Env → Nat → Option Value
  | [], _ => none
  | (s, v) :: r, t => bif Nat.beq s t then some v else look r t
def opd (e : Env) : Operand → Option Value
  | .tmp t => look e t
  | .const v => some v
  | .global g => some (.pointer (some ⟨g, 0, none⟩))
  | .func f => some (.func (.func f) #[] #[])
structure Has (n : Nat) (e : Env) (a : Act) : Prop where
  defers : a.defers = []
  size : a.tmps.size = n
  slot : ∀ t v, look e t = some v → a.tmps[t]? = some v

theorem eval_of_slot {a : Act} {t : Nat} {v : Value} (h : a.tmps[t]? = some v) : a.eval (.tmp t) = v := by
  simp [Act.eval, h]

theorem Has.eval {n : Nat} {e : Env} {a : Act} (h : Has n e a) {x : Operand} {v : Value} (hx : opd e x = some v) : a.eval x = v := by
  cases x with
  | tmp t => exact eval_of_slot (h.slot t v hx)
  | const u => simpa [opd, Act.eval] using hx
  | global g => simpa [opd, Act.eval] using hx
  | func f => simpa [opd, Act.eval] using hx

theorem look_cons (d : Nat) (v : Value) (e : Env) (t : Nat) : look ((d, v) :: e) t = if d = t then some v else look e t := by
  simp only [look]
  by_cases h : d = t
  · subst h; simp
  · have : Nat.beq d t = false := by
      cases hb : Nat.beq d t
      · rfl
      · exact absurd (Nat.eq_of_beq_eq_true hb) h
    simp [this, h]

theorem Has.put {n : Nat} {e : Env} {a : Act} (h : Has n e a) {d : Nat} (hd : d < n) (v : Value) : Has n ((d, v) :: e) (a.put (some d) v) := by
  refine ⟨h.defers, by simp [Act.put, h.size], fun t u hu => ?_⟩
  rw [look_cons] at hu
  by_cases hdt : d = t
  · subst hdt
    rw [if_pos rfl] at hu
    have hlt : d < a.tmps.size := by rw [h.size]; exact hd
    simp only [Act.put, Array.getElem?_setIfInBounds_self, hlt, if_true]
    exact hu
  · rw [if_neg hdt] at hu
    simp only [Act.put, Array.getElem?_setIfInBounds_ne hdt]
    exact h.slot t u hu

theorem Has.put_none {n : Nat} {e : Env} {a : Act} (h : Has n e a) (v : Value) : Has n e (a.put none v) := h

/-- What the one environment says, the other says too. -/
def Sub : Env → Env → Prop
  | [], _ => True
  | (t, v) :: r, e => look e t = some v ∧ Sub r e

theorem Sub.look {e' e : Env} (h : Sub e' e) : ∀ t v, look e' t = some v → look e t = some v := by
  induction e' with
  | nil => intro t v h; simp [Sx.look] at h
  | cons p r ih =>
    obtain ⟨s, u⟩ := p
    intro t v hl
    rw [look_cons] at hl
    by_cases hst : s = t
    · subst hst; rw [if_pos rfl] at hl; rw [← hl]; exact h.1
    · rw [if_neg hst] at hl; exact ih h.2 t v hl

theorem Has.sub {n : Nat} {e e' : Env} {a : Act} (h : Has n e a) (hs : Sub e' e) : Has n e' a :=
  ⟨h.defers, h.size, fun t v hl => h.slot t v (hs.look t v hl)⟩

/-! ### 2. The heap: what never changes again (I), the rows that are owned -/
abbrev IH := Nat → Option Obj
inductive Row where
  /-- a block that is just these cells -/
  | blk (g : Nat) (T : TypeId) (cs : List Value)
  /-- a slice of n elements of sz cells each, nil or at the head of a block of its own -/
  | own (A : Option Addr) (c : Nat) (T : TypeId) (sz n : Nat) (xs : List Value)
def Row.block : Row → Option Nat
  | .blk g _ _ => some g
  | .own A _ _ _ _ _ => A.map (·.block)
def RowOK (w : World) : Row → Prop
  | .blk g T cs => w.heap[g]? = some (.cells cs.toArray T (0, 0))
  | .own A c T sz n xs => w.ownsRow 0 T sz (.slice A n c) n xs

theorem lt_of_heap {w : World} {g : Nat} {o : Obj} (h : w.heap[g]? = some o) : g < w.heap.size := (Array.getElem?_eq_some_iff.1 h).1

theorem RowOK.local {w w' : World} {r : Row} (h : RowOK w r) (hb : ∀ g, r.block = some g → w'.heap[g]? = w.heap[g]?) : RowOK w' r := by
  cases r with
  | blk g T cs => exact (hb g rfl).trans h
  | own A c T sz n xs =>
    refine ⟨h.1, ?_⟩
    rcases h.2 with hn | ⟨g, cap, cur, hv, h0, hh, hr⟩
    · exact .inl hn
    · cases hv
      exact .inr ⟨g, c, cur, rfl, h0, (hb g rfl).trans hh, hr⟩
theorem RowOK.lt {w : World} {r : Row} (h : RowOK w r) {g : Nat} (hg : r.block = some g) : g < w.heap.size := by
  cases r with
  | blk k T cs => cases hg; exact lt_of_heap h
  | own A c T sz n xs => exact (World.ownsRow.lt h g (by cases A <;> simp_all [Row.block, Value.ownBlock])).2

/-- The blocks of some rows. -/
def blocks (rs : List Row) : List Nat := rs.filterMap Row.block
theorem mem_blocks {rs : List Row} {g : Nat} : g ∈ blocks rs ↔ ∃ r ∈ rs, r.block = some g := by simp [blocks]
@[simp] theorem blocks_cons (r : Row) (rs : List Row) : blocks (r :: rs) = r.block.toList ++ blocks rs := by
  cases h : r.block <;> simp [blocks, h]
@[simp] theorem blocks_nil : blocks [] = [] := rfl
@[simp] theorem blocks_append (rs rt : List Row) : blocks (rs ++ rt) = blocks rs ++ blocks rt := by simp [blocks]

structure Mem (I : IH) (rs : List Row) (w : World) : Prop where
  imm : ∀ k o, I k = some o → w.heap[k]? = some o
  rows : ∀ r ∈ rs, RowOK w r
  apart : ∀ g ∈ blocks rs, I g = none
  nodup : (blocks rs).Nodup

theorem Mem.lt {I : IH} {rs : List Row} {w : World} (h : Mem I rs w) {g : Nat} (hg : g ∈ blocks rs) : g < w.heap.size := by
  obtain ⟨r, hr, hb⟩ := mem_blocks.1 hg
  exact (h.rows r hr).lt hb
theorem Mem.imm_lt {I : IH} {rs : List Row} {w : World} (h : Mem I rs w) {k : Nat} {o : Obj} (hk : I k = some o) : k < w.heap.size := lt_of_heap (h.imm k o hk)

/-- From one memory to a later one: what was there and is not among D has not changed; what is new lies behind. -/
structure Fram (I : IH) (D : List Nat) (w : World) (I' : IH) (rs' : List Row) (w' : World) : Prop where
  os : w'.os = w.os
  tape : w'.tape = w.tape
  output : w'.output = w.output
  size : w.heap.size ≤ w'.heap.size
  old : ∀ k, k < w.heap.size → k ∉ D → w'.heap[k]? = w.heap[k]? ∧ I' k = I k
  new : ∀ g ∈ blocks rs', g ∈ D ∨ w.heap.size ≤ g

/-- One heap holds the other. -/
def IH.le (I I' : IH) : Prop := ∀ k o, I k = some o → I' k = some o
theorem IH.le.rfl {I : IH} : I.le I := fun _ _ h => h
theorem IH.le.trans {I J K : IH} (h : I.le J) (h' : J.le K) : I.le K := fun k o hk => h' k o (h k o hk)

theorem Fram.refl {I : IH} {rs : List Row} {w : World} : Fram I (blocks rs) w I rs w :=
  ⟨rfl, rfl, rfl, Nat.le_refl _, fun _ _ _ => ⟨rfl, rfl⟩, fun _ h => .inl h⟩
theorem Fram.le {I : IH} {rs rs' : List Row} {w w' : World} {I' : IH} (hm : Mem I rs w) (h : Fram I (blocks rs) w I' rs' w') : I.le I' := fun k o hk => by
  have hn : k ∉ blocks rs := fun hb => by have := hm.apart k hb; rw [hk] at this; cases this
  rw [(h.old k (hm.imm_lt hk) hn).2]; exact hk

/-- The state within a function that began in the world w0 with the heap I0 and the blocks D in its care. -/
structure Fr where
  w0 : World
  I0 : IH
  D : List Nat
structure Inv (F : Fr) (I : IH) (rs : List Row) (w : World) : Prop where
  mem : Mem I rs w
  fram : Fram F.I0 F.D F.w0 I rs w

theorem Inv.step {F : Fr} {I I' : IH} {rs rs' rf : List Row} {w w' : World} (h : Inv F I (rs ++ rf) w) (hm : Mem I' rs' w') (hf : Fram I (blocks rs) w I' rs' w') : Inv F I' (rs' ++ rf) w' := by
  have hnd := h.mem.nodup
  rw [blocks_append, List.nodup_append] at hnd
  obtain ⟨hn1, hn2, hn3⟩ := hnd
  have hlt : ∀ g ∈ blocks rf, g < w.heap.size := fun g hg => h.mem.lt (by simp [hg])
  have hout : ∀ g ∈ blocks rf, g ∉ blocks rs := fun g hg hg' => hn3 g hg' g hg rfl
  refine ⟨⟨hm.imm, ?_, ?_, ?_⟩, ⟨hf.os.trans h.fram.os, hf.tape.trans h.fram.tape, hf.output.trans h.fram.output, Nat.le_trans h.fram.size hf.size, ?_, ?_⟩⟩
  · intro r hr
    rcases List.mem_append.1 hr with hr | hr
    · exact hm.rows r hr
    · refine (h.mem.rows r (List.mem_append_right _ hr)).local fun g hg => ?_
      have hb : g ∈ blocks rf := mem_blocks.2 ⟨r, hr, hg⟩
      exact (hf.old g (hlt g hb) (hout g hb)).1
  · intro g hg
    rw [blocks_append, List.mem_append] at hg
    rcases hg with hg | hg
    · exact hm.apart g hg
    · rw [(hf.old g (hlt g hg) (hout g hg)).2]; exact h.mem.apart g (by simp [hg])
  · rw [blocks_append, List.nodup_append]
    refine ⟨hm.nodup, hn2, fun a ha b hb hab => ?_⟩
    subst hab
    rcases hf.new a ha with h1 | h1
    · exact hn3 a h1 a hb rfl
    · exact absurd (hlt a hb) (by omega)
  · intro k hk hkD
    have h0 := h.fram.old k hk hkD
    have hkr : k ∉ blocks rs := fun hb => by
      rcases h.fram.new k (by simp [hb]) with h1 | h1
      · exact hkD h1
      · omega
    have h1 := hf.old k (Nat.lt_of_lt_of_le hk h.fram.size) hkr
    exact ⟨h1.1.trans h0.1, h1.2.trans h0.2⟩
  · intro g hg
    rw [blocks_append, List.mem_append] at hg
    rcases hg with hg | hg
    · rcases hf.new g hg with h1 | h1
      · exact h.fram.new g (by simp [h1])
      · exact .inr (Nat.le_trans h.fram.size h1)
    · exact h.fram.new g (by simp [hg])

theorem Inv.perm {F : Fr} {I : IH} {rs rs' : List Row} {w : World} (h : Inv F I rs w) (hp : rs.Perm rs') : Inv F I rs' w := by
  have hb : (blocks rs).Perm (blocks rs') := hp.filterMap _
  exact ⟨⟨h.mem.imm, fun r hr => h.mem.rows r (hp.mem_iff.2 hr), fun g hg => h.mem.apart g (hb.mem_iff.2 hg), hb.nodup_iff.1 h.mem.nodup⟩,
    ⟨h.fram.os, h.fram.tape, h.fram.output, h.fram.size, h.fram.old, fun g hg => h.fram.new g (hb.mem_iff.2 hg)⟩⟩

theorem blocks_sublist {rs rs' : List Row} (h : rs'.Sublist rs) : (blocks rs').Sublist (blocks rs) := h.filterMap _
theorem Inv.sublist {F : Fr} {I : IH} {rs rs' : List Row} {w : World} (h : Inv F I rs w) (hs : rs'.Sublist rs) : Inv F I rs' w :=
  have hb := blocks_sublist hs
  ⟨⟨h.mem.imm, fun r hr => h.mem.rows r (hs.subset hr), fun g hg => h.mem.apart g (hb.subset hg), h.mem.nodup.sublist hb⟩,
    ⟨h.fram.os, h.fram.tape, h.fram.output, h.fram.size, h.fram.old, fun g hg => h.fram.new g (hb.subset hg)⟩⟩
/-- A row that is not wanted any longer. -/
theorem Inv.drop {F : Fr} {I : IH} {r : Row} {rs : List Row} {w : World} (h : Inv F I (r :: rs) w) : Inv F I rs w :=
  ⟨⟨h.mem.imm, fun x hx => h.mem.rows x (.tail _ hx), fun g hg => h.mem.apart g (by simp [hg]), by have := h.mem.nodup; rw [blocks_cons] at this; exact (List.nodup_append.1 this).2.1⟩,
    ⟨h.fram.os, h.fram.tape, h.fram.output, h.fram.size, h.fram.old, fun g hg => h.fram.new g (by simp [hg])⟩⟩

/-- A heap with a block more. -/
def IH.with (I : IH) (g : Nat) (o : Obj) : IH := fun k => if k = g then some o else I k
theorem IH.with_at (I : IH) (g : Nat) (o : Obj) : I.with g o g = some o := by simp [IH.with]
theorem IH.with_ne (I : IH) {g k : Nat} (h : k ≠ g) (o : Obj) : I.with g o k = I k := by simp [IH.with, h]

/-- An owned row becomes part of what never changes again. -/
theorem Inv.freeze {F : Fr} {I : IH} {r : Row} {rs : List Row} {w : World} {g : Nat} {o : Obj} (h : Inv F I (r :: rs) w) (hb : r.block = some g) (ho : w.heap[g]? = some o) :
    Inv F (I.with g o) rs w ∧ I.le (I.with g o) := by
  have hg : I g = none := h.mem.apart g (by simp [hb])
  have hnd := h.mem.nodup
  rw [blocks_cons, hb] at hnd
  simp at hnd
  refine ⟨⟨⟨?_, fun x hx => h.mem.rows x (.tail _ hx), ?_, hnd.2⟩, ⟨h.fram.os, h.fram.tape, h.fram.output, h.fram.size, ?_, fun k hk => h.fram.new k (by simp [hk])⟩⟩, ?_⟩
  · intro k o' hk
    by_cases e : k = g
    · subst e; rw [IH.with_at] at hk; cases hk; exact ho
    · rw [IH.with_ne I e] at hk; exact h.mem.imm k o' hk
  · intro k hk
    have e : k ≠ g := fun e => hnd.1 (e ▸ hk)
    rw [IH.with_ne I e]; exact h.mem.apart k (by simp [hk])
  · intro k hk hkD
    have e : k ≠ g := by
      rintro rfl
      rcases h.fram.new k (by simp [hb]) with h1 | h1
      · exact hkD h1
      · omega
    rw [IH.with_ne I e]; exact h.fram.old k hk hkD
  · intro k o' hk
    have e : k ≠ g := by rintro rfl; rw [hg] at hk; cases hk
    rw [IH.with_ne I e]; exact hk

/-- A block that was there becomes part of the known heap again (a step of its own is not wanted: a contract's reader may ask less). -/
def icell (I : IH) (a : Addr) : Option Value :=
  match I a.block with
  | some (.cells c _ _) => if a.spot.isSome then none else c[a.off]?
  | _ => none
theorem Mem.cell {I : IH} {rs : List Row} {w : World} (h : Mem I rs w) {a : Addr} {v : Value} (hc : icell I a = some v) : w.cell? a = some v := by
  unfold icell at hc
  cases hI : I a.block with
  | none => rw [hI] at hc; cases hc
  | some o =>
    rw [hI] at hc
    have := h.imm _ _ hI
    unfold World.cell?
    rw [this]
    exact hc
theorem icell_le {I I' : IH} (hle : I.le I') {a : Addr} {v : Value} (hc : icell I a = some v) : icell I' a = some v := by
  unfold icell at *
  cases hI : I a.block with
  | none => rw [hI] at hc; cases hc
  | some o => rw [hI] at hc; rw [hle _ _ hI]; exact hc

theorem Inv.drew {F : Fr} {I : IH} {rs : List Row} {w : World} (h : Inv F I rs w) (n : Nat) : Inv F I rs { w with drawn := n } := by
  refine ⟨⟨h.mem.imm, fun r hr => (h.mem.rows r hr).local fun _ _ => rfl, h.mem.apart, h.mem.nodup⟩, ⟨h.fram.os, h.fram.tape, h.fram.output, h.fram.size, h.fram.old, h.fram.new⟩⟩

/-- A new block. -/
theorem Inv.alloc {F : Fr} {I : IH} {rs : List Row} {w : World} (h : Inv F I rs w) (T : TypeId) (cs : List Value) :
    Inv F I (.blk w.heap.size T cs :: rs) { w with heap := w.heap.push (.cells cs.toArray T) } ∧ I w.heap.size = none := by
  have hI : I w.heap.size = none := by
    cases hI : I w.heap.size with
    | none => rfl
    | some o => exact absurd (h.mem.imm_lt hI) (by omega)
  have hpush : ∀ k, k < w.heap.size → (w.heap.push (.cells cs.toArray T))[k]? = w.heap[k]? := fun k hk => by
    rw [Array.getElem?_push]; simp [Nat.ne_of_lt hk]
  have hm : Mem I [.blk w.heap.size T cs] { w with heap := w.heap.push (.cells cs.toArray T) } := by
    refine ⟨fun k o hk => ?_, fun r hr => ?_, fun g hg => ?_, by simp [Row.block]⟩
    · rw [show ({ w with heap := w.heap.push (.cells cs.toArray T) } : World).heap[k]? = w.heap[k]? from hpush k (h.mem.imm_lt hk)]; exact h.mem.imm k o hk
    · simp at hr; subst hr
      show (w.heap.push _)[w.heap.size]? = _
      simp
    · simp [Row.block] at hg; subst hg; exact hI
  have h' : Inv F I ([] ++ rs) w := by simpa using h
  have hst := h'.step (rs := []) (rs' := [.blk w.heap.size T cs]) hm ⟨rfl, rfl, rfl, by simp, fun k hk _ => ⟨hpush k hk, rfl⟩, fun g hg => by
    simp [Row.block] at hg; exact .inr (by omega)⟩
  exact ⟨hst, hI⟩

/-- A store into a block of our own. -/
theorem Inv.setBlk {F : Fr} {I : IH} {rs : List Row} {w : World} {g : Nat} {T : TypeId} {cs : List Value} (h : Inv F I (.blk g T cs :: rs) w) (i : Nat) (v : Value) :
    Inv F I (.blk g T (cs.set i v) :: rs) (w.setCell ⟨g, i, none⟩ v) := by
  have hg : w.heap[g]? = some (.cells cs.toArray T (0, 0)) := h.mem.rows _ (.head _)
  have hset : (w.setCell ⟨g, i, none⟩ v).heap[g]? = some (.cells (cs.set i v).toArray T (0, 0)) := by
    simp [World.setCell, Array.getElem?_modify, hg]
  have hoth : ∀ k, k ≠ g → (w.setCell ⟨g, i, none⟩ v).heap[k]? = w.heap[k]? := fun k hk => by
    simp [World.setCell, Array.getElem?_modify, Ne.symm hk]
  have hIg : I g = none := h.mem.apart g (by simp [Row.block])
  have hm : Mem I [.blk g T (cs.set i v)] (w.setCell ⟨g, i, none⟩ v) := by
    refine ⟨fun k o hk => ?_, fun r hr => ?_, fun k hk => ?_, by simp [Row.block]⟩
    · have e : k ≠ g := by rintro rfl; rw [hIg] at hk; cases hk
      rw [hoth k e]; exact h.mem.imm k o hk
    · simp at hr; subst hr; exact hset
    · simp [Row.block] at hk; subst hk; exact hIg
  have h' : Inv F I ([.blk g T cs] ++ rs) w := h
  exact h'.step hm ⟨rfl, rfl, rfl, by simp [World.setCell], fun k _ hk => ⟨hoth k (by simpa [Row.block] using hk), rfl⟩, fun k hk => .inl (by simpa [Row.block] using hk)⟩

end Go.Sx
