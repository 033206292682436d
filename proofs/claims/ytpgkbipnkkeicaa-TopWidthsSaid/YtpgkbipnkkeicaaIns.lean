import Derived.Test.YtpgkbipnkkeicaaIns0
import Derived.Test.YtpgkbipnkkeicaaW2
import Derived.Deep.Upon
set_option linter.unusedSimpArgs false
set_option linter.unusedVariables false
/-! slices.Insert of one number: a contract. -/
namespace Go.Sx
open Go

def spl (cs : List Value) (o : Nat) (vs : List Value) : List Value := cs.take o ++ vs ++ cs.drop (o + vs.length)
theorem spl_nil (cs : List Value) (o : Nat) : spl cs o [] = cs := by simp [spl]
theorem spl_len {cs vs : List Value} {o : Nat} (h : o + vs.length ≤ cs.length) : (spl cs o vs).length = cs.length := by simp [spl]; omega
theorem spl_cons {cs vs : List Value} {o : Nat} {v : Value} (h : o < cs.length) : spl (cs.set o v) (o + 1) vs = spl cs o (v :: vs) := by
  unfold spl
  rw [List.take_set, List.take_add_one, List.getElem?_eq_getElem h, List.drop_set_of_lt (by omega), List.set_append, List.length_take, if_neg (by omega), Nat.min_eq_left (by omega), Nat.sub_self]
  simp
  omega
theorem spl_app {a b vs : List Value} {o : Nat} (ho : o = a.length) : spl (a ++ b) o vs = a ++ vs ++ b.drop vs.length := by
  subst ho
  unfold spl
  rw [List.take_append_of_le_length (Nat.le_refl _), List.take_of_length_le (Nat.le_refl _), List.drop_append, List.drop_eq_nil_of_le (by omega), List.nil_append, show a.length + vs.length - a.length = vs.length from by omega]
theorem take_app {a b : List Value} {o : Nat} (ho : o = a.length) : (a ++ b).take o = a := by subst ho; simp
theorem heap_setCells (g : Nat) (T : TypeId) : ∀ (vs : List Value) (o : Nat) (w : World) (cs : List Value), w.heap[g]? = some (.cells cs.toArray T (0, 0)) → o + vs.length ≤ cs.length →
    (w.setCells g o vs).heap[g]? = some (.cells (spl cs o vs).toArray T (0, 0))
  | [], o, w, cs, h, _ => by rw [World.setCells, spl_nil]; exact h
  | v :: vs, o, w, cs, h, hl => by
    simp at hl
    rw [World.setCells, ← spl_cons (by omega)]
    refine heap_setCells g T vs (o + 1) _ (cs.set o v) ?_ (by simp; omega)
    simp [World.setCell, Array.getElem?_modify, h]
theorem tape_setCells (g : Nat) : ∀ (vs : List Value) (o : Nat) (w : World), (w.setCells g o vs).tape = w.tape
  | [], _, _ => rfl
  | v :: vs, o, w => by rw [World.setCells, tape_setCells g vs]; rfl
theorem size_setCells' (g : Nat) : ∀ (vs : List Value) (o : Nat) (w : World), (w.setCells g o vs).heap.size = w.heap.size
  | [], _, _ => rfl
  | v :: vs, o, w => by rw [World.setCells, size_setCells' g vs]; simp

/-- One world from another: a block has these cells now; else what was there has not changed. -/
structure Upd (w w' : World) (g : Nat) (T : TypeId) (cs : List Value) : Prop where
  os : w'.os = w.os
  tape : w'.tape = w.tape
  output : w'.output = w.output
  size : w.heap.size ≤ w'.heap.size
  lt : g < w'.heap.size
  other : ∀ k, k < w.heap.size → k ≠ g → w'.heap[k]? = w.heap[k]?
  cells : w'.heap[g]? = some (.cells cs.toArray T (0, 0))
theorem Upd.drew {w w' : World} {g : Nat} {T : TypeId} {cs : List Value} (h : Upd w w' g T cs) : Upd w w'.drew g T cs := ⟨h.os, h.tape, h.output, h.size, h.lt, h.other, h.cells⟩
theorem Upd.start {w : World} {g : Nat} {T : TypeId} {cs : List Value} (h : w.heap[g]? = some (.cells cs.toArray T (0, 0))) : Upd w w g T cs := ⟨rfl, rfl, rfl, Nat.le_refl _, lt_of_heap h, fun _ _ _ => rfl, h⟩
theorem Upd.alloc (w : World) (T : TypeId) (cs : List Value) : Upd w (w.alloc (.cells cs.toArray T)) w.heap.size T cs :=
  ⟨rfl, rfl, rfl, by simp, by simp, fun k hk _ => heap_alloc_old w _ hk, heap_alloc_new w _⟩
theorem Upd.setCells {w w' : World} {g : Nat} {T : TypeId} {cs : List Value} (h : Upd w w' g T cs) (o : Nat) (vs : List Value) (hl : o + vs.length ≤ cs.length) : Upd w (w'.setCells g o vs) g T (spl cs o vs) := by
  refine ⟨?_, ?_, ?_, ?_, ?_, fun k hk hn => ?_, heap_setCells g T vs o w' cs h.cells hl⟩
  · rw [World.os_setCells]; exact h.os
  · rw [tape_setCells]; exact h.tape
  · rw [World.output_setCells]; exact h.output
  · rw [size_setCells']; exact h.size
  · rw [size_setCells']; exact h.lt
  · rw [World.heap_setCells_other w' g o vs (Nat.lt_of_lt_of_le hk h.size) hn]; exact h.other k hk hn
theorem Upd.done {w w' : World} {g : Nat} {T : TypeId} {cs : List Value} (h : Upd w w' g T cs) {I : IH} {rs : List Row} (hm : Mem I rs w) (hg : g ∈ blocks rs ∨ w.heap.size ≤ g) {cap n sz : Nat} {xs : List Value}
    (h1 : xs.length = n * sz) (h2 : n ≤ cap) (h3 : cap ≤ maxLen) (h4 : cs.length = cap * sz) (h5 : cs.take (n * sz) = xs) :
    Mem I [.own (some ⟨g, 0, none⟩) cap T sz n xs] w' ∧ Fram I (blocks rs) w I [.own (some ⟨g, 0, none⟩) cap T sz n xs] w' := by
  have hI : I g = none := by
    rcases hg with h | h
    · exact hm.apart g h
    · cases hI : I g with
      | none => rfl
      | some o => exact absurd (hm.imm_lt hI) (by omega)
  refine ⟨⟨fun k o hk => ?_, fun r hr => ?_, fun k hk => ?_, by simp [Row.block]⟩, ⟨h.os, h.tape, h.output, h.size, fun k hk hn => ⟨h.other k hk ?_, rfl⟩, fun k hk => ?_⟩⟩
  · rw [h.other k (hm.imm_lt hk) (by rintro rfl; rw [hI] at hk; cases hk)]; exact hm.imm k o hk
  · simp at hr; subst hr
    exact ⟨h1, .inr ⟨g, cap, cs.toArray, rfl, Nat.zero_le _, h.cells, h2, h3, by simpa using h4, by simpa using h5⟩⟩
  · simp [Row.block] at hk; subst hk; exact hI
  · rcases hg with hg | hg
    · rintro rfl; exact hn hg
    · omega
  · simp [Row.block] at hk; subst hk
    rcases hg with hg | hg
    · exact .inl hg
    · exact .inr hg
end Go.Sx

namespace Go.Proofs.Ytpgkbipnkkeicaa
open Go Go.Sx Go.Shelf
def insAt (xs : List Nat) (i x : Nat) : List Nat := xs.take i ++ [x] ++ xs.drop i
theorem N64_one (l : List Nat) : ∀ v ∈ N64 l, v.oneCell' = true := by
  intro v hv
  simp only [N64, List.mem_map] at hv
  obtain ⟨d, _, rfl⟩ := hv
  rfl
theorem N64_len (l : List Nat) : (N64 l).length = l.length := by simp [N64]
theorem N64_ins (xs : List Nat) (i x : Nat) : N64 (insAt xs i x) = (N64 xs).take i ++ [.int .i64 (x : Int)] ++ (N64 xs).drop i := by simp [N64, insAt, List.map_take, List.map_drop]
theorem insAt_len (xs : List Nat) (i x : Nat) (h : i ≤ xs.length) : (insAt xs i x).length = xs.length + 1 := by simp [insAt]; omega

theorem toArr (a : List Value) (b c : Array Value) (h : b = c) : a.toArray ++ b = (a ++ c.toList).toArray := by subst h; apply Array.ext'; simp
theorem Insert_c (I : IH) (A : Option Addr) (c : Nat) (xs : List Nat) (i x gv : Nat) (hi : i ≤ xs.length) (hsm : xs.length ≤ 1000) :
    Sx.Fn Try.prog 12 #[.slice A xs.length c, .int .i64 (i : Int), .slice (some ⟨gv, 0, none⟩) 1 1] I [.own A c 3 1 xs.length (N64 xs), .blk gv 3 [.int .i64 (x : Int)]]
      fun v I' rs' => ∃ A' c', v = .slice A' (xs.length + 1) c' ∧ I' = I ∧ rs' = [.own A' c' 3 1 (xs.length + 1) (N64 (insAt xs i x))] := by
  refine ⟨by kernel_rfl, fun w hm => ?_⟩
  have hown : w.ownsRow 0 3 1 (.slice A xs.length c) xs.length (N64 xs) := hm.rows _ (.head _)
  have hv : w.heap[gv]? = some (.cells [Value.int .i64 (x : Int)].toArray 3 (0, 0)) := hm.rows _ (.tail _ (.head _))
  have hnl := insAt_len xs i x hi
  have hvs : ∀ j v, [Value.int .i64 (x : Int)][j]? = some v → w.cell? ⟨gv, 0 + j, none⟩ = some v := fun j v hj => by simp [World.cell?, hv]; simpa using hj
  have h1v : ∀ v ∈ [Value.int .i64 (x : Int)], v.oneCell' = true := by simp [Value.oneCell']
  have hlen : (N64 xs).length = xs.length := N64_len xs
  have hge := grownCap_ge w (xs.length + 1) c 3
  have hcm : grownCap w (xs.length + 1) c 3 ≤ maxLen := grownCap_le_maxLen w (xs.length + 1) c 3 (by simp [maxLen]; omega)
  have hnc : xs.length ≤ c := by
    obtain ⟨_, h | ⟨g, cap, cur, h, h0, hh, h1, _⟩⟩ := hown
    · have := h.2; omega
    · cases h; exact h1
  have hz1 : ∀ k, (Builtin.zeroCells (Value.int .i64 0).cells k).toList.length = k := fun k => by simp [Builtin.zeroCells, Value.cells]
  by_cases hroom : c < xs.length + 1
  · -- a new row
    by_cases hin : i = xs.length
    · subst hin
      have hcs : ∀ a, A = some a → ∀ j v, (N64 xs)[j]? = some v → w.cell? (a.add j) = some v := by
        rintro a rfl j v hj
        obtain ⟨_, h | ⟨g, cap, cur, h, h0, hh, h1, h2, h3, h4⟩⟩ := hown
        · cases h.1
        · cases h
          rw [add_plain, Nat.zero_add]
          rw [← h4, List.getElem?_take] at hj
          split at hj
          · simp [World.cell?, hh]; simpa using hj
          · cases hj
      have hnil : A = none → xs.length = 0 := by
        rintro rfl
        obtain ⟨_, h | ⟨g, cap, cur, h, _⟩⟩ := hown
        · exact h.2
        · cases h
      have hcall := Any2.slices_Insert_int_end_grow lays21 A xs.length c gv 0 1 1 (N64 xs) [.int .i64 (x : Int)] w (by omega) hnc hroom (by omega) hlen rfl hnil hcs hvs h1v
      refine hcall.mono ?_
      rintro e w' ⟨rfl, rfl⟩
      rw [show rho.t 3 = 3 from rfl]
      generalize grownCap w (xs.length + 1) c 3 = G at hge hcm
      have hz := hz1 (G - (xs.length + 1))
      rw [toArr _ _ _ rfl]
      generalize (Builtin.zeroCells (Value.int .i64 0).cells (G - (xs.length + 1))).toList = Z at hz
      have hu : Upd w (w.drew.alloc (.cells (N64 xs ++ [Value.int .i64 (x : Int)] ++ Z).toArray 3)) w.heap.size 3 (N64 xs ++ [Value.int .i64 (x : Int)] ++ Z) :=
        let this := Upd.alloc w.drew 3 (N64 xs ++ [Value.int .i64 (x : Int)] ++ Z); ⟨this.os, this.tape, this.output, this.size, this.lt, this.other, this.cells⟩
      obtain ⟨h1, h2⟩ := hu.done hm (.inr (Nat.le_refl _)) (cap := G) (n := xs.length + 1) (sz := 1) (xs := N64 (insAt xs xs.length x)) (by rw [N64_len]; omega) (by omega) hcm (by simp [hlen, hz]; omega)
        (by rw [N64_ins, List.drop_eq_nil_of_le (by omega), List.take_of_length_le (l := N64 xs) (by omega), List.append_nil, Nat.mul_one, List.take_append_of_le_length (by simp [hlen]), List.take_of_length_le (by simp [hlen])])
      exact ⟨_, I, _, rfl, h1, h2, _, _, rfl, rfl, rfl⟩
    · -- within
      obtain ⟨_, h | ⟨g, cap, cur, h, h0, hh, h1, h2, h3, h4⟩⟩ := hown
      · have := h.2; omega
      cases h
      have hcs : ∀ j v, (N64 xs)[j]? = some v → w.cell? ⟨g, 0 + j, none⟩ = some v := fun j v hj => by
        rw [← h4, List.getElem?_take] at hj
        split at hj
        · simp [World.cell?, hh]; simpa using hj
        · cases hj
      have hcall := Any2.slices_Insert_int_grow lays21 g 0 xs.length c i gv 0 1 1 (N64 xs) [.int .i64 (x : Int)] w (by omega) (by omega) hnc hroom (by omega) hlen rfl hcs hvs (N64_one xs) h1v
      refine hcall.mono ?_
      rintro e w' ⟨rfl, rfl⟩
      rw [show rho.t 3 = 3 from rfl]
      generalize grownCap w (xs.length + 1) c 3 = G at hge hcm
      have hz := hz1 (G - (xs.length + 1))
      have hz' := hz1 (xs.length + 1 - i)
      rw [toArr _ _ _ rfl, toArr _ _ _ rfl]
      generalize (Builtin.zeroCells (Value.int .i64 0).cells (G - (xs.length + 1))).toList = Z at hz
      generalize (Builtin.zeroCells (Value.int .i64 0).cells (xs.length + 1 - i)).toList = Z' at hz'
      have hti : ((N64 xs).take i).length = i := by rw [List.length_take]; omega
      have hu := (((Upd.alloc w 3 ((N64 xs).take i ++ Z' ++ Z)).drew.setCells i [Value.int .i64 (x : Int)] (by simp; omega)).drew.setCells (i + 1) ((N64 xs).drop i) (by simp [spl]; omega))
      obtain ⟨h1, h2⟩ := hu.done hm (.inr (Nat.le_refl _)) (cap := G) (n := xs.length + 1) (sz := 1) (xs := N64 (insAt xs i x)) (by rw [N64_len]; omega) (by omega) hcm (by simp [spl]; omega)
        (by
          rw [List.append_assoc, spl_app (by omega), List.append_assoc _ _ (List.drop _ _), ← List.append_assoc, spl_app (by simp; omega), N64_ins, Nat.mul_one, take_app (by simp; omega)])
      exact ⟨_, I, _, rfl, h1, h2, _, _, rfl, rfl, rfl⟩
  · -- in place
    obtain ⟨_, h | ⟨g, cap, cur, h, h0, hh, h1, h2, h3, h4⟩⟩ := hown
    · exfalso; have h' := h.1; have h'' := h.2; rw [h''] at h'; injection h' with _ _ hc0; omega
    cases h
    have hnd := hm.nodup
    have hne : gv ≠ g := by simp [Row.block] at hnd; omega
    have hcl : cur.toList.length = c := by simpa using h3
    have hh' : w.heap[g]? = some (.cells cur.toList.toArray 3 (0, 0)) := by simpa using hh
    have hcs : ∀ j v, (N64 xs)[j]? = some v → w.cell? ⟨g, 0 + j, none⟩ = some v := fun j v hj => by
      rw [← h4, List.getElem?_take] at hj
      split at hj
      · simp [World.cell?, hh]; simpa using hj
      · cases hj
    have hsp : ∀ k, k < c → (w.cell? ⟨g, k, none⟩).isSome = true := fun k hk => by
      have : k < cur.size := by simpa using (show k < cur.toList.length by omega)
      simp [World.cell?, hh, this]
    have hfz : ∀ k, w.frozen? ⟨g, k, none⟩ = false := fun k => by simp [World.frozen?, hh]
    by_cases hin : i = xs.length
    · subst hin
      have hcall := Any2.slices_Insert_int_end_room lays21 g 0 xs.length c gv 0 1 1 [.int .i64 (x : Int)] w (by omega) (by omega) h2 rfl (fun j hj => hsp _ (by omega)) (fun j _ => hfz _) hvs h1v
      refine hcall.mono ?_
      rintro e w' ⟨rfl, rfl⟩
      have hu := (Upd.start hh').setCells (0 + xs.length) [Value.int .i64 (x : Int)] (by simp only [List.length_cons, List.length_nil]; omega)
      obtain ⟨h1, h2⟩ := hu.done hm (.inl (by simp [Row.block])) (cap := c) (n := xs.length + 1) (sz := 1) (xs := N64 (insAt xs xs.length x)) (by rw [N64_len]; omega) (by omega) h2 (by rw [spl_len (by simp only [List.length_cons, List.length_nil]; omega)]; omega)
        (by
          unfold spl
          rw [Nat.mul_one] at h4
          rw [Nat.zero_add, h4, N64_ins, @List.drop_eq_nil_of_le _ (N64 xs) xs.length (by omega), List.append_nil, List.take_of_length_le (l := N64 xs) (i := xs.length) (by omega), Nat.mul_one, List.take_append_of_le_length (by simp [hlen]), List.take_of_length_le (by simp [hlen])])
      exact ⟨_, I, _, rfl, h1, h2, _, _, rfl, rfl, rfl⟩
    · have hcall := Any2.slices_Insert_int_shift lays21 g 0 xs.length c i gv 0 1 1 (N64 xs) [.int .i64 (x : Int)] w (by omega) (by omega) (by omega) h2 hne hlen rfl hcs (fun j hj => hsp _ (by omega)) (fun j _ => hfz _) hvs (N64_one xs) h1v 3 3 1 c
        (by simp [World.shape?, hv]) (by simp [World.shape?, hh]; omega) (by omega) (by simp [World.frozen?, hv]) (by simp [World.frozen?, hv])
      refine hcall.mono ?_
      rintro e w' ⟨rfl, rfl⟩
      have hti : (cur.toList.take i).length = i := by rw [List.length_take]; omega
      have hdl : ((N64 xs).drop i).length = xs.length - i := by rw [List.length_drop]; omega
      have hu := ((Upd.start hh').drew.setCells (0 + (i + 1)) ((N64 xs).drop i) (by omega)).setCells (0 + i) [Value.int .i64 (x : Int)] (by rw [spl_len (by omega)]; simp only [List.length_cons, List.length_nil]; omega)
      have hu' : Upd w ((w.drew.setCells g (0 + (i + 1)) ((N64 xs).drop i)).setCells g (0 + i) [Value.int .i64 (x : Int)]) g 3 _ := hu
      obtain ⟨h1, h2⟩ := hu'.done hm (.inl (by simp [Row.block])) (cap := c) (n := xs.length + 1) (sz := 1) (xs := N64 (insAt xs i x)) (by rw [N64_len]; omega) (by omega) h2 (by rw [spl_len (by rw [spl_len (by omega)]; simp only [List.length_cons, List.length_nil]; omega), spl_len (by omega)]; omega)
        (by
          have e0 : cur.toList.take i = (N64 xs).take i := by rw [← h4, List.take_take, Nat.min_eq_left (by omega)]
          have ec : cur.toList = (cur.toList.take i ++ (cur.toList.drop i).take 1) ++ (cur.toList.drop (i + 1)) := by
            rw [List.append_assoc]
            conv => lhs; rw [← List.take_append_drop i cur.toList]
            congr 1
            conv => lhs; rw [← List.take_append_drop 1 (cur.toList.drop i)]
            rw [List.drop_drop]
          have el : (cur.toList.take i ++ (cur.toList.drop i).take 1).length = i + 1 := by simp; omega
          rw [ec, spl_app (by omega), List.append_assoc, List.append_assoc, spl_app (by omega), e0, N64_ins, Nat.mul_one]
          rw [List.drop_append_of_le_length (by simp; omega), List.drop_eq_nil_of_le (by simp; omega), List.nil_append, ← List.append_assoc, take_app (by simp; omega)])
      exact ⟨_, I, _, rfl, h1, h2, _, _, rfl, rfl, rfl⟩
end Go.Proofs.Ytpgkbipnkkeicaa
