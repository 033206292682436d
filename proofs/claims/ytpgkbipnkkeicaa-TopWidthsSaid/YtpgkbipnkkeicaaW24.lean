import Derived.Test.YtpgkbipnkkeicaaW23
set_option linter.unusedSimpArgs false
set_option linter.unusedVariables false
/-! TopWidths. -/
namespace Go.Proofs.Ytpgkbipnkkeicaa
open Go Go.Sx Go.Gr
attribute [local irreducible] popN

def OrdersC : Prop := ∀ (I : IH) (n g : Nat) (A : Option Addr) (c : Nat) (ss : List (List Nat)) (cells : List Value), Args I n A c ss cells → 0 < n →
    Sx.Fn Try.prog 18 #[.int .i64 (n : Int), .slice A ss.length c, .slice (some ⟨g, 0, none⟩) n n] I [.blk g 33 (U32 (GS n ss))] fun v I' rs' => v = .bool true
/-- Scopes that are being drawn. -/
structure Draw (I : IH) (n i : Nat) (ss : List (List Nat)) (cells : List Value) : Prop where
  len : ss.length = i
  clen : cells.length = i
  long : ∀ l ∈ ss, l.length ≤ 5
  below : ∀ l ∈ ss, ∀ x ∈ l, x < n
  el : ∀ (j : Nat) (x : Value), cells[j]? = some x → ∃ l B cb, ss[j]? = some l ∧ x = Value.slice B l.length cb ∧ RdSl I 1 (.slice B l.length cb) l.length (N64 l)
  one : ∀ v ∈ cells, v.oneCell' = true
theorem Draw.mono {I I' : IH} {n i : Nat} {ss : List (List Nat)} {cells : List Value} (h : Draw I n i ss cells) (hle : I.le I') : Draw I' n i ss cells :=
  ⟨h.len, h.clen, h.long, h.below, fun j x hx => let ⟨l, B, cb, h1, h2, h3⟩ := h.el j x hx; ⟨l, B, cb, h1, h2, h3.le hle⟩, h.one⟩
theorem Draw.snoc {I : IH} {n i : Nat} {ss : List (List Nat)} {cells : List Value} (h : Draw I n i ss cells) {l : List Nat} {B : Option Addr} {cb : Nat} (hl : l.length ≤ 5) (hb : ∀ x ∈ l, x < n) (hr : RdSl I 1 (.slice B l.length cb) l.length (N64 l)) :
    Draw I n (i + 1) (ss ++ [l]) (cells ++ [.slice B l.length cb]) := by
  refine ⟨by simp [h.len], by simp [h.clen], fun m hm => ?_, fun m hm => ?_, fun j x hx => ?_, fun v hv => ?_⟩
  · rcases List.mem_append.1 hm with h1 | h1
    · exact h.long m h1
    · simp at h1; subst h1; exact hl
  · rcases List.mem_append.1 hm with h1 | h1
    · exact h.below m h1
    · simp at h1; subst h1; exact hb
  · rw [List.getElem?_append] at hx
    split at hx
    · rename_i hj
      obtain ⟨l', B', cb', h1, h2, h3⟩ := h.el j x hx
      refine ⟨l', B', cb', ?_, h2, h3⟩
      rw [List.getElem?_append_left (by rw [h.len]; rw [h.clen] at hj; exact hj)]
      exact h1
    · rename_i hj
      have hj0 : j - cells.length = 0 := by
        have := (List.getElem?_eq_some_iff.1 hx).1
        simp at this
        omega
      rw [hj0] at hx
      simp at hx
      refine ⟨l, B, cb, ?_, hx.symm, hr⟩
      rw [List.getElem?_append_right (by rw [h.len]; rw [h.clen] at hj; omega), h.len, ← h.clen, hj0]
      rfl
  · rcases List.mem_append.1 hv with h1 | h1
    · exact h.one v h1
    · simp at h1; subst h1; rfl
/-- An order that is being drawn. -/
structure ODraw (i : Nat) (o : List Nat) : Prop where
  len : o.length = i
  nd : o.Nodup
  lt : ∀ x ∈ o, x < i
theorem ODraw.step {i at_ : Nat} {o : List Nat} (h : ODraw i o) (ha : at_ ≤ i) : ODraw (i + 1) (insAt o at_ i) :=
  ⟨by rw [insAt_len _ _ _ (by rw [h.len]; exact ha), h.len], insAt_nodup h.nd fun hm => by have := h.lt i hm; omega, fun x hx => (mem_insAt hx).elim (fun e => by omega) fun hx => by have := h.lt x hx; omega⟩

set_option maxRecDepth 100000 in
set_option maxHeartbeats 8000000 in
theorem widths_c (hO : OrdersC) (I : IH) (A : Option Addr) (c : Nat) (l : List Nat) (h : RdSl I 1 (.slice A l.length c) l.length (U8 l)) (hb : ∀ x ∈ l, x < 256) :
    Sx.Fn Try.prog 3 #[.slice A l.length c] I [] fun v I' rs' => v = .bool true := by
  refine Fn.intro (n := 150) (args := [.slice A l.length c]) (by kernel_rfl) Try.func3 rfl Try.ntmps3 (Nat.le_of_ble_eq_true rfl) [(0, .slice A l.length c)] rfl (fun w0 => ?_)
  repeat' (first
    | (refine SyC.seq ?_)
    | (refine SyC.region ?_)
    | (refine SyL.nil ?_)
    | (refine Then.norm ?_)
    | (refine SyL.light (LV.move rfl) Rq.nil (by first | (apply Wn.none; rfl) | (refine Wn.yes rfl rfl rfl ?_; first | assumption | (with_reducible rfl) | decide | (simp only [decide_eq_true_eq, decide_eq_false_iff_not, Bool.not_eq_true', Bool.not_eq_false', beq_iff_eq, bne_iff_ne, ne_eq, beq_eq_false_iff_ne, bne_eq_false_iff_eq, Int.not_lt, Int.not_le, Bool.true_eq_false, Bool.false_eq_true, tb_one, tb_zero]; omega))) rfl (ltB rfl) ?_)
    | (refine SyL.light (LV.assign rfl) Rq.nil (by first | (apply Wn.none; rfl) | (refine Wn.yes rfl rfl rfl ?_; first | assumption | (with_reducible rfl) | decide | (simp only [decide_eq_true_eq, decide_eq_false_iff_not, Bool.not_eq_true', Bool.not_eq_false', beq_iff_eq, bne_iff_ne, ne_eq, beq_eq_false_iff_ne, bne_eq_false_iff_eq, Int.not_lt, Int.not_le, Bool.true_eq_false, Bool.false_eq_true, tb_one, tb_zero]; omega))) rfl (ltB rfl) ?_)
    | (refine SyL.heavy (OpT.buildSlice (xs := [_, _, _, _, _, _]) (vs := [_, _, _, _, _, _]) rfl rfl rfl (by simp [Value.cells]) (by decide) (fun g_ hg_ => ?_)) (by first | (apply Wn.none; rfl) | (refine Wn.yes rfl rfl rfl ?_; first | assumption | (with_reducible rfl) | decide | (simp only [decide_eq_true_eq, decide_eq_false_iff_not, Bool.not_eq_true', Bool.not_eq_false', beq_iff_eq, bne_iff_ne, ne_eq, beq_eq_false_iff_ne, bne_eq_false_iff_eq, Int.not_lt, Int.not_le, Bool.true_eq_false, Bool.false_eq_true, tb_one, tb_zero]; omega))) rfl (ltB rfl))
    | (refine SyL.heavy (OpT.call rfl rfl (sigilOf_c _ A c l h hb) rfl ?_) (by first | (apply Wn.none; rfl) | (refine Wn.yes rfl rfl rfl ?_; first | assumption | (with_reducible rfl) | decide | (simp only [decide_eq_true_eq, decide_eq_false_iff_not, Bool.not_eq_true', Bool.not_eq_false', beq_iff_eq, bne_iff_ne, ne_eq, beq_eq_false_iff_ne, bne_eq_false_iff_eq, Int.not_lt, Int.not_le, Bool.true_eq_false, Bool.false_eq_true, tb_one, tb_zero]; omega))) rfl (ltB rfl); rintro v1 I1 rs1 - ⟨m, gd, hok, rfl, rfl, rfl⟩))
  refine SyL.ownOf (k := 0) (m := 6) (sz := 1) rfl rfl (by simp [maxLen]) ?_
  refine SyL.freezeOwn fun I2 hle2 hx => ?_
  repeat' (first
    | (refine SyC.seq ?_)
    | (refine SyC.region ?_)
    | (refine SyL.nil ?_)
    | (refine Then.norm ?_)
    | (refine SyL.light (LV.move rfl) Rq.nil (by first | (apply Wn.none; rfl) | (refine Wn.yes rfl rfl rfl ?_; first | assumption | (with_reducible rfl) | decide | (simp only [decide_eq_true_eq, decide_eq_false_iff_not, Bool.not_eq_true', Bool.not_eq_false', beq_iff_eq, bne_iff_ne, ne_eq, beq_eq_false_iff_ne, bne_eq_false_iff_eq, Int.not_lt, Int.not_le, Bool.true_eq_false, Bool.false_eq_true, tb_one, tb_zero]; omega))) rfl (ltB rfl) ?_)
    | (refine SyL.light (LV.assign rfl) Rq.nil (by first | (apply Wn.none; rfl) | (refine Wn.yes rfl rfl rfl ?_; first | assumption | (with_reducible rfl) | decide | (simp only [decide_eq_true_eq, decide_eq_false_iff_not, Bool.not_eq_true', Bool.not_eq_false', beq_iff_eq, bne_iff_ne, ne_eq, beq_eq_false_iff_ne, bne_eq_false_iff_eq, Int.not_lt, Int.not_le, Bool.true_eq_false, Bool.false_eq_true, tb_one, tb_zero]; omega))) rfl (ltB rfl) ?_)
    | (refine SyL.heavy (OpT.buildSlice (xs := [_, _, _, _, _]) (vs := [_, _, _, _, _]) rfl rfl rfl (by simp [Value.cells]) (by decide) (fun g_ hg_ => ?_)) (by first | (apply Wn.none; rfl) | (refine Wn.yes rfl rfl rfl ?_; first | assumption | (with_reducible rfl) | decide | (simp only [decide_eq_true_eq, decide_eq_false_iff_not, Bool.not_eq_true', Bool.not_eq_false', beq_iff_eq, bne_iff_ne, ne_eq, beq_eq_false_iff_ne, bne_eq_false_iff_eq, Int.not_lt, Int.not_le, Bool.true_eq_false, Bool.false_eq_true, tb_one, tb_zero]; omega))) rfl (ltB rfl))
    | (refine SyL.heavy (OpT.call rfl rfl (pick_c _ gd A c m 0 (hok.le hle2) (by omega) _ _ [1, 3, 5, 9, 10, 16] hx (by decide) (by decide)) rfl ?_) (by first | (apply Wn.none; rfl) | (refine Wn.yes rfl rfl rfl ?_; first | assumption | (with_reducible rfl) | decide | (simp only [decide_eq_true_eq, decide_eq_false_iff_not, Bool.not_eq_true', Bool.not_eq_false', beq_iff_eq, bne_iff_ne, ne_eq, beq_eq_false_iff_ne, bne_eq_false_iff_eq, Int.not_lt, Int.not_le, Bool.true_eq_false, Bool.false_eq_true, tb_one, tb_zero]; omega))) rfl (ltB rfl); rintro v3 I3 rs3 - ⟨x, hxm, k3, hk31, hk32, rfl, rfl, rfl⟩))
  obtain ⟨n, rfl, hn0, hn16⟩ : ∃ n : Nat, x = (n : Int) ∧ 0 < n ∧ n ≤ 16 := by
    simp only [List.mem_cons, List.not_mem_nil, or_false] at hxm
    refine ⟨x.toNat, ?_, ?_, ?_⟩ <;> omega
  skip
  refine SyL.ownOf (k := 0) (m := 5) (sz := 1) rfl rfl (by simp [maxLen]) ?_
  refine SyL.freezeOwn fun I4 hle4 hx4 => ?_
  have hok4 := (hok.le hle2).le hle4
  repeat' (first
    | (refine SyL.nil ?_)
    | (refine Then.norm ?_)
    | (refine SyC.block ?_)
    | (refine SyL.light (LV.move rfl) Rq.nil (by first | (apply Wn.none; rfl) | (refine Wn.yes rfl rfl rfl ?_; first | assumption | (with_reducible rfl) | decide | (simp only [decide_eq_true_eq, decide_eq_false_iff_not, Bool.not_eq_true', Bool.not_eq_false', beq_iff_eq, bne_iff_ne, ne_eq, beq_eq_false_iff_ne, bne_eq_false_iff_eq, Int.not_lt, Int.not_le, Bool.true_eq_false, Bool.false_eq_true, tb_one, tb_zero]; omega))) rfl (ltB rfl) ?_)
    | (refine SyL.heavy (OpT.call rfl rfl (pick_c _ gd A c m k3 hok4 (by omega) _ _ [0, 2, 6, 12, 24] hx4 (by decide) (by decide)) rfl ?_) (by first | (apply Wn.none; rfl) | (refine Wn.yes rfl rfl rfl ?_; first | assumption | (with_reducible rfl) | decide | (simp only [decide_eq_true_eq, decide_eq_false_iff_not, Bool.not_eq_true', Bool.not_eq_false', beq_iff_eq, bne_iff_ne, ne_eq, beq_eq_false_iff_ne, bne_eq_false_iff_eq, Int.not_lt, Int.not_le, Bool.true_eq_false, Bool.false_eq_true, tb_one, tb_zero]; omega))) rfl (ltB rfl); rintro v5 I5 rs5 - ⟨x5, hxm5, k5, hk51, hk52, rfl, rfl, rfl⟩))
  obtain ⟨q, rfl, hq⟩ : ∃ q : Nat, x5 = (q : Int) ∧ q ≤ 24 := by
    simp only [List.mem_cons, List.not_mem_nil, or_false] at hxm5
    refine ⟨x5.toNat, ?_, ?_⟩ <;> omega
  clear hxm hxm5 hx hx4
  refine SyC.ownNil 27 1 ?_
  refine SyC.loopD (fun m' env I' rs => ∃ i ss cells A2 c2 k, m' = q - i ∧ i ≤ q ∧ I5.le I' ∧ Draw I' n i ss cells ∧ k ≤ 4 + i * 20 ∧ rs = [.own A2 c2 27 1 ss.length cells, SigR gd A c m k] ∧ env = [(31, .int .i64 (i : Nat)), (30, .int .i64 (q : Nat)), (5, .slice A2 ss.length c2), (3, .pointer (some ⟨gd, 0, none⟩)), (4, .int .i64 (n : Nat))]) q [(31, .int .i64 ((0 : Nat) : Int)), (30, .int .i64 (q : Nat)), (5, .slice none 0 0), (3, .pointer (some ⟨gd, 0, none⟩)), (4, .int .i64 (n : Nat))] (by repeat (first | exact trivial | refine ⟨rfl, ?_⟩))
    ⟨0, [], [], none, 0, k5, rfl, by omega, IH.le.rfl, ⟨rfl, rfl, by simp, by simp, by simp, by simp⟩, by omega, rfl, rfl⟩ ?_
  rintro m' env I' rs ⟨i, ss, cells, A2, c2, k, rfl, hi, hle, hd, hk, rfl, rfl⟩
  have hok' := hok4.le hle
  by_cases hiq : i < q
  ·
    --<
    repeat' (first
      | (refine SyC.seq ?_)
      | (refine SyC.region ?_)
      | (refine SyL.nil ?_)
      | (refine Then.norm ?_)
      | (refine SyC.block ?_)
      | (refine SyC.skip ?_)
      | (refine SyL.light (LV.move rfl) Rq.nil (by first | (apply Wn.none; rfl) | (refine Wn.yes rfl rfl rfl ?_; first | assumption | (with_reducible rfl) | decide | (simp only [decide_eq_true_eq, decide_eq_false_iff_not, Bool.not_eq_true', Bool.not_eq_false', beq_iff_eq, bne_iff_ne, ne_eq, beq_eq_false_iff_ne, bne_eq_false_iff_eq, Int.not_lt, Int.not_le, Bool.true_eq_false, Bool.false_eq_true, tb_one, tb_zero]; omega))) rfl (ltB rfl) ?_)
      | (refine SyL.light (LV.assign rfl) Rq.nil (by first | (apply Wn.none; rfl) | (refine Wn.yes rfl rfl rfl ?_; first | assumption | (with_reducible rfl) | decide | (simp only [decide_eq_true_eq, decide_eq_false_iff_not, Bool.not_eq_true', Bool.not_eq_false', beq_iff_eq, bne_iff_ne, ne_eq, beq_eq_false_iff_ne, bne_eq_false_iff_eq, Int.not_lt, Int.not_le, Bool.true_eq_false, Bool.false_eq_true, tb_one, tb_zero]; omega))) rfl (ltB rfl) ?_)
      | (refine SyL.light (LV.cmp rfl rfl rfl) Rq.nil (by first | (apply Wn.none; rfl) | (refine Wn.yes rfl rfl rfl ?_; first | assumption | (with_reducible rfl) | decide | (simp only [decide_eq_true_eq, decide_eq_false_iff_not, Bool.not_eq_true', Bool.not_eq_false', beq_iff_eq, bne_iff_ne, ne_eq, beq_eq_false_iff_ne, bne_eq_false_iff_eq, Int.not_lt, Int.not_le, Bool.true_eq_false, Bool.false_eq_true, tb_one, tb_zero]; omega))) rfl (ltB rfl) ?_)
      | (refine SyL.heavy (OpT.buildSlice (xs := [_, _, _, _, _, _, _]) (vs := [_, _, _, _, _, _, _]) rfl rfl rfl (by simp [Value.cells]) (by decide) (fun g_ hg_ => ?_)) (by first | (apply Wn.none; rfl) | (refine Wn.yes rfl rfl rfl ?_; first | assumption | (with_reducible rfl) | decide | (simp only [decide_eq_true_eq, decide_eq_false_iff_not, Bool.not_eq_true', Bool.not_eq_false', beq_iff_eq, bne_iff_ne, ne_eq, beq_eq_false_iff_ne, bne_eq_false_iff_eq, Int.not_lt, Int.not_le, Bool.true_eq_false, Bool.false_eq_true, tb_one, tb_zero]; omega))) rfl (ltB rfl))
      | (refine SyC.condT rfl (by first | assumption | (with_reducible rfl) | decide | (simp only [decide_eq_true_eq, decide_eq_false_iff_not, Bool.not_eq_true', Bool.not_eq_false', beq_iff_eq, bne_iff_ne, ne_eq, beq_eq_false_iff_ne, bne_eq_false_iff_eq, Int.not_lt, Int.not_le, Bool.true_eq_false, Bool.false_eq_true, tb_one, tb_zero]; omega)) ?_))
    refine SyL.ownOf (k := 0) (m := 7) (sz := 1) rfl rfl (by simp [maxLen]) ?_
    refine SyL.freezeOwn fun I6 hle6 hx6 => ?_
    repeat' (first
      | (refine SyL.nil ?_)
      | (refine Then.norm ?_)
      | (refine SyC.block ?_)
      | (refine SyL.light (LV.move rfl) Rq.nil (by first | (apply Wn.none; rfl) | (refine Wn.yes rfl rfl rfl ?_; first | assumption | (with_reducible rfl) | decide | (simp only [decide_eq_true_eq, decide_eq_false_iff_not, Bool.not_eq_true', Bool.not_eq_false', beq_iff_eq, bne_iff_ne, ne_eq, beq_eq_false_iff_ne, bne_eq_false_iff_eq, Int.not_lt, Int.not_le, Bool.true_eq_false, Bool.false_eq_true, tb_one, tb_zero]; omega))) rfl (ltB rfl) ?_)
      | (refine SyL.heavy (OpT.callW 1 1 rfl rfl (pick_c _ gd A c m k (hok'.le hle6) (by omega) _ _ [0, 1, 2, 2, 2, 3, 5] hx6 (by decide) (by decide)) rfl ?_) (by first | (apply Wn.none; rfl) | (refine Wn.yes rfl rfl rfl ?_; first | assumption | (with_reducible rfl) | decide | (simp only [decide_eq_true_eq, decide_eq_false_iff_not, Bool.not_eq_true', Bool.not_eq_false', beq_iff_eq, bne_iff_ne, ne_eq, beq_eq_false_iff_ne, bne_eq_false_iff_eq, Int.not_lt, Int.not_le, Bool.true_eq_false, Bool.false_eq_true, tb_one, tb_zero]; omega))) rfl (ltB rfl); rintro v7 I7 rs7 - ⟨x7, hxm7, k7, hk71, hk72, rfl, rfl, rfl⟩))
    obtain ⟨p, rfl, hp⟩ : ∃ p : Nat, x7 = (p : Int) ∧ p ≤ 5 := by
      simp only [List.mem_cons, List.not_mem_nil, or_false] at hxm7
      refine ⟨x7.toNat, ?_, ?_⟩ <;> omega
    clear hxm7 hx6
    have hok7 := hok'.le hle6
    have hd7 := hd.mono hle6
    refine SyC.ownNil 3 1 ?_
    refine SyC.loopD (fun m' env I' rs => ∃ j l B cb k', m' = p - j ∧ j ≤ p ∧ I' = I7 ∧ l.length = j ∧ (∀ x ∈ l, x < n) ∧ k' ≤ k7 + j * 2 ∧ rs = [.own B cb 3 1 l.length (N64 l), .own A2 c2 27 1 ss.length cells, SigR gd A c m k'] ∧ env = [(36, .int .i64 (j : Nat)), (35, .int .i64 (p : Nat)), (6, .slice B l.length cb), (31, .int .i64 (i : Nat)), (30, .int .i64 (q : Nat)), (5, .slice A2 ss.length c2), (3, .pointer (some ⟨gd, 0, none⟩)), (4, .int .i64 (n : Nat))]) p [(36, .int .i64 ((0 : Nat) : Int)), (35, .int .i64 (p : Nat)), (6, .slice none 0 0), (31, .int .i64 (i : Nat)), (30, .int .i64 (q : Nat)), (5, .slice A2 ss.length c2), (3, .pointer (some ⟨gd, 0, none⟩)), (4, .int .i64 (n : Nat))] (by repeat (first | exact trivial | refine ⟨rfl, ?_⟩))
      ⟨0, [], none, 0, k7, rfl, by omega, rfl, rfl, by simp, by omega, rfl, rfl⟩ ?_
    rintro m' env I' rs ⟨j, l', B, cb, k', rfl, hj, rfl, hl', hb', hk', rfl, rfl⟩
    by_cases hjp : j < p
    · repeat' (first
        | (refine SyC.seq ?_)
        | (refine SyC.region ?_)
        | (refine SyL.nil ?_)
        | (refine Then.norm ?_)
        | (refine InB.norm ?_)
        | (refine SyC.block ?_)
        | (refine SyC.skip ?_)
        | (refine SyL.light (LV.move rfl) Rq.nil (by first | (apply Wn.none; rfl) | (refine Wn.yes rfl rfl rfl ?_; first | assumption | (with_reducible rfl) | decide | (simp only [decide_eq_true_eq, decide_eq_false_iff_not, Bool.not_eq_true', Bool.not_eq_false', beq_iff_eq, bne_iff_ne, ne_eq, beq_eq_false_iff_ne, bne_eq_false_iff_eq, Int.not_lt, Int.not_le, Bool.true_eq_false, Bool.false_eq_true, tb_one, tb_zero]; omega))) rfl (ltB rfl) ?_)
        | (refine SyL.light (LV.assign rfl) Rq.nil (by first | (apply Wn.none; rfl) | (refine Wn.yes rfl rfl rfl ?_; first | assumption | (with_reducible rfl) | decide | (simp only [decide_eq_true_eq, decide_eq_false_iff_not, Bool.not_eq_true', Bool.not_eq_false', beq_iff_eq, bne_iff_ne, ne_eq, beq_eq_false_iff_ne, bne_eq_false_iff_eq, Int.not_lt, Int.not_le, Bool.true_eq_false, Bool.false_eq_true, tb_one, tb_zero]; omega))) rfl (ltB rfl) ?_)
        | (refine SyL.light (LV.cmp rfl rfl rfl) Rq.nil (by first | (apply Wn.none; rfl) | (refine Wn.yes rfl rfl rfl ?_; first | assumption | (with_reducible rfl) | decide | (simp only [decide_eq_true_eq, decide_eq_false_iff_not, Bool.not_eq_true', Bool.not_eq_false', beq_iff_eq, bne_iff_ne, ne_eq, beq_eq_false_iff_ne, bne_eq_false_iff_eq, Int.not_lt, Int.not_le, Bool.true_eq_false, Bool.false_eq_true, tb_one, tb_zero]; omega))) rfl (ltB rfl) ?_)
        | (refine SyL.light (LV.arN rfl rfl rfl (by simp only [Fits]; omega)) Rq.nil (by first | (apply Wn.none; rfl) | (refine Wn.yes rfl rfl rfl ?_; first | assumption | (with_reducible rfl) | decide | (simp only [decide_eq_true_eq, decide_eq_false_iff_not, Bool.not_eq_true', Bool.not_eq_false', beq_iff_eq, bne_iff_ne, ne_eq, beq_eq_false_iff_ne, bne_eq_false_iff_eq, Int.not_lt, Int.not_le, Bool.true_eq_false, Bool.false_eq_true, tb_one, tb_zero]; omega))) rfl (ltB rfl) ?_)
        | (refine SyL.heavy (OpT.buildSlice (xs := [_]) (vs := [_]) rfl rfl rfl (by simp [Value.cells]) (by decide) (fun g_ hg_ => ?_)) (by first | (apply Wn.none; rfl) | (refine Wn.yes rfl rfl rfl ?_; first | assumption | (with_reducible rfl) | decide | (simp only [decide_eq_true_eq, decide_eq_false_iff_not, Bool.not_eq_true', Bool.not_eq_false', beq_iff_eq, bne_iff_ne, ne_eq, beq_eq_false_iff_ne, bne_eq_false_iff_eq, Int.not_lt, Int.not_le, Bool.true_eq_false, Bool.false_eq_true, tb_one, tb_zero]; omega))) rfl (ltB rfl))
        | (refine SyL.heavy (OpT.append (by apply rfl) (by apply rfl) (k := 1) rfl (by first | (simp; done) | (simp only [List.length_cons, List.length_nil]; done) | (simp only [List.length_cons, List.length_nil]; omega) | (simp; omega) | omega) (Rq.blkAll (List.mem_of_getElem? (i := 0) rfl)) (by simp [Value.oneCell']) (by first | omega | (simp only [List.length_append, List.length_cons, List.length_nil]; omega)) (by first | omega | (simp only [List.length_append, List.length_cons, List.length_nil]; omega)) (by decide) (fun A_ c_ => ?_)) (by first | (apply Wn.none; rfl) | (refine Wn.yes rfl rfl rfl ?_; first | assumption | (with_reducible rfl) | decide | (simp only [decide_eq_true_eq, decide_eq_false_iff_not, Bool.not_eq_true', Bool.not_eq_false', beq_iff_eq, bne_iff_ne, ne_eq, beq_eq_false_iff_ne, bne_eq_false_iff_eq, Int.not_lt, Int.not_le, Bool.true_eq_false, Bool.false_eq_true, tb_one, tb_zero]; omega))) rfl (ltB rfl))
        | (refine SyL.heavy (OpT.callW 2 1 rfl rfl (less_c _ gd A c m k' hok7 (by omega) (n : Int) (by omega) (by omega)) rfl ?_) (by first | (apply Wn.none; rfl) | (refine Wn.yes rfl rfl rfl ?_; first | assumption | (with_reducible rfl) | decide | (simp only [decide_eq_true_eq, decide_eq_false_iff_not, Bool.not_eq_true', Bool.not_eq_false', beq_iff_eq, bne_iff_ne, ne_eq, beq_eq_false_iff_ne, bne_eq_false_iff_eq, Int.not_lt, Int.not_le, Bool.true_eq_false, Bool.false_eq_true, tb_one, tb_zero]; omega))) rfl (ltB rfl); rintro v8 I8 rs8 - ⟨b, k8, hb8, hk81, hk82, rfl, rfl, rfl⟩)
        | (refine SyC.condT rfl (by first | assumption | (with_reducible rfl) | decide | (simp only [decide_eq_true_eq, decide_eq_false_iff_not, Bool.not_eq_true', Bool.not_eq_false', beq_iff_eq, bne_iff_ne, ne_eq, beq_eq_false_iff_ne, bne_eq_false_iff_eq, Int.not_lt, Int.not_le, Bool.true_eq_false, Bool.false_eq_true, tb_one, tb_zero]; omega)) ?_))
      rw [N64_snoc, show l'.length + 1 = (l' ++ [b]).length from by simp]
      exact ⟨p - (j + 1), [(36, .int .i64 (j + 1 : Nat)), (35, .int .i64 (p : Nat)), (6, .slice A_ (l' ++ [b]).length c_), (31, .int .i64 (i : Nat)), (30, .int .i64 (q : Nat)), (5, .slice A2 ss.length c2), (3, .pointer (some ⟨gd, 0, none⟩)), (4, .int .i64 (n : Nat))], [.own A_ c_ 3 1 (l' ++ [b]).length (N64 (l' ++ [b])), .own A2 c2 27 1 ss.length cells, SigR gd A c m k8], by omega, (by repeat (first | exact trivial | refine ⟨rfl, ?_⟩)), ⟨j + 1, l' ++ [b], A_, c_, k8, rfl, by omega, rfl, by simp [hl'], fun x hx => by
        rcases List.mem_append.1 hx with h1 | h1
        · exact hb' x h1
        · simp at h1; omega, by omega, rfl, rfl⟩, (by repeat (first | exact List.Sublist.refl _ | exact List.nil_sublist _ | refine List.Sublist.cons_cons _ ?_ | refine List.Sublist.cons _ ?_))⟩
    · obtain rfl : p = j := by omega
      refine SyC.freezeOwn fun I9 hle9 hr9 => ?_
      have hd9 := (hd7.mono hle9).snoc (l := l') (B := B) (cb := cb) (by omega) hb' hr9
      have hsl := hd7.len
      have hone := hd7.one
      repeat' (first
        | (refine SyC.seq ?_)
        | (refine SyC.region ?_)
        | (refine SyL.nil ?_)
        | (refine Then.norm ?_)
        | (refine Then.exit ?_)
        | (refine InB.norm ?_)
        | (refine InB.hit ?_)
        | (refine SyC.exit ?_)
        | (refine SyL.light (LV.move rfl) Rq.nil (by first | (apply Wn.none; rfl) | (refine Wn.yes rfl rfl rfl ?_; first | assumption | (with_reducible rfl) | decide | (simp only [decide_eq_true_eq, decide_eq_false_iff_not, Bool.not_eq_true', Bool.not_eq_false', beq_iff_eq, bne_iff_ne, ne_eq, beq_eq_false_iff_ne, bne_eq_false_iff_eq, Int.not_lt, Int.not_le, Bool.true_eq_false, Bool.false_eq_true, tb_one, tb_zero]; omega))) rfl (ltB rfl) ?_)
        | (refine SyL.light (LV.assign rfl) Rq.nil (by first | (apply Wn.none; rfl) | (refine Wn.yes rfl rfl rfl ?_; first | assumption | (with_reducible rfl) | decide | (simp only [decide_eq_true_eq, decide_eq_false_iff_not, Bool.not_eq_true', Bool.not_eq_false', beq_iff_eq, bne_iff_ne, ne_eq, beq_eq_false_iff_ne, bne_eq_false_iff_eq, Int.not_lt, Int.not_le, Bool.true_eq_false, Bool.false_eq_true, tb_one, tb_zero]; omega))) rfl (ltB rfl) ?_)
        | (refine SyL.light (LV.cmp rfl rfl rfl) Rq.nil (by first | (apply Wn.none; rfl) | (refine Wn.yes rfl rfl rfl ?_; first | assumption | (with_reducible rfl) | decide | (simp only [decide_eq_true_eq, decide_eq_false_iff_not, Bool.not_eq_true', Bool.not_eq_false', beq_iff_eq, bne_iff_ne, ne_eq, beq_eq_false_iff_ne, bne_eq_false_iff_eq, Int.not_lt, Int.not_le, Bool.true_eq_false, Bool.false_eq_true, tb_one, tb_zero]; omega))) rfl (ltB rfl) ?_)
        | (refine SyL.light (LV.arN rfl rfl rfl (by simp only [Fits]; omega)) Rq.nil (by first | (apply Wn.none; rfl) | (refine Wn.yes rfl rfl rfl ?_; first | assumption | (with_reducible rfl) | decide | (simp only [decide_eq_true_eq, decide_eq_false_iff_not, Bool.not_eq_true', Bool.not_eq_false', beq_iff_eq, bne_iff_ne, ne_eq, beq_eq_false_iff_ne, bne_eq_false_iff_eq, Int.not_lt, Int.not_le, Bool.true_eq_false, Bool.false_eq_true, tb_one, tb_zero]; omega))) rfl (ltB rfl) ?_)
        | (refine SyL.heavy (OpT.buildSlice (xs := [_]) (vs := [_]) rfl rfl rfl (by simp [Value.cells]) (by decide) (fun g_ hg_ => ?_)) (by first | (apply Wn.none; rfl) | (refine Wn.yes rfl rfl rfl ?_; first | assumption | (with_reducible rfl) | decide | (simp only [decide_eq_true_eq, decide_eq_false_iff_not, Bool.not_eq_true', Bool.not_eq_false', beq_iff_eq, bne_iff_ne, ne_eq, beq_eq_false_iff_ne, bne_eq_false_iff_eq, Int.not_lt, Int.not_le, Bool.true_eq_false, Bool.false_eq_true, tb_one, tb_zero]; omega))) rfl (ltB rfl))
        | (refine SyL.heavy (OpT.append (by apply rfl) (by apply rfl) (k := 1) rfl (by first | (simp; done) | (simp only [List.length_cons, List.length_nil]; done) | (simp only [List.length_cons, List.length_nil]; omega) | (simp; omega) | omega) (Rq.blkAll (List.mem_of_getElem? (i := 0) rfl)) (by simp [Value.oneCell']) (by first | omega | (simp only [List.length_append, List.length_cons, List.length_nil]; omega)) (by first | omega | (simp only [List.length_append, List.length_cons, List.length_nil]; omega)) (by decide) (fun A_ c_ => ?_)) (by first | (apply Wn.none; rfl) | (refine Wn.yes rfl rfl rfl ?_; first | assumption | (with_reducible rfl) | decide | (simp only [decide_eq_true_eq, decide_eq_false_iff_not, Bool.not_eq_true', Bool.not_eq_false', beq_iff_eq, bne_iff_ne, ne_eq, beq_eq_false_iff_ne, bne_eq_false_iff_eq, Int.not_lt, Int.not_le, Bool.true_eq_false, Bool.false_eq_true, tb_one, tb_zero]; omega))) rfl (ltB rfl))
        | (refine SyC.condF rfl (by first | assumption | (with_reducible rfl) | decide | (simp only [decide_eq_true_eq, decide_eq_false_iff_not, Bool.not_eq_true', Bool.not_eq_false', beq_iff_eq, bne_iff_ne, ne_eq, beq_eq_false_iff_ne, bne_eq_false_iff_eq, Int.not_lt, Int.not_le, Bool.true_eq_false, Bool.false_eq_true, tb_one, tb_zero]; omega)) ?_))
      rw [show ss.length + 1 = (ss ++ [l']).length from by simp]
      exact ⟨q - (i + 1), [(31, .int .i64 (i + 1 : Nat)), (30, .int .i64 (q : Nat)), (5, .slice A_ (ss ++ [l']).length c_), (3, .pointer (some ⟨gd, 0, none⟩)), (4, .int .i64 (n : Nat))], [.own A_ c_ 27 1 (ss ++ [l']).length (cells ++ [.slice B l'.length cb]), SigR gd A c m k'], by omega, (by repeat (first | exact trivial | refine ⟨rfl, ?_⟩)), ⟨i + 1, ss ++ [l'], cells ++ [.slice B l'.length cb], A_, c_, k', rfl, by omega, (hle.trans hle6).trans hle9, hd9, by omega, rfl, rfl⟩, (by repeat (first | exact List.Sublist.refl _ | exact List.nil_sublist _ | refine List.Sublist.cons_cons _ ?_ | refine List.Sublist.cons _ ?_))⟩
    -->
  · obtain rfl : q = i := by omega
    refine SyC.freezeOwn fun I9 hle9 hr9 => ?_
    have hd9 := hd.mono hle9
    have hok9 := hok'.le hle9
    have hargs : Args I9 n A2 c2 ss cells := ⟨⟨hr9, hd9.el⟩, ⟨by rw [hd9.len]; omega, fun l hl => Nat.le_trans (hd9.long l hl) (by omega), hd9.below⟩, hn16⟩
    have hscn := hargs.ok
    clear hr9 hd hd9 hok' hok4 hok hiq
    have hgraph := graph_c I9 n hn16 A2 c2 ss cells hargs.rd hargs.ok
    have hrel := Rel.start hn16 hscn
    have hGG := Hd.mk (GO_GS hn16 hscn)
    have hGSeq : addS (List.replicate n 0) ss = GS n ss := rfl
    rw [hGSeq] at hgraph
    clear hGSeq
    have hGl := hrel.ls
    have hGs := hrel.ss
    clear hrel
    obtain ⟨G, hG⟩ : ∃ G, Hd (GS n ss = G) := ⟨_, ⟨rfl⟩⟩
    rw [hG.out] at hgraph hGl hGs
    repeat' (first
      | (refine SyC.seq ?_)
      | (refine SyC.region ?_)
      | (refine SyL.nil ?_)
      | (refine Then.norm ?_)
      | (refine Then.exit ?_)
      | (refine InB.hit ?_)
      | (refine SyC.block ?_)
      | (refine SyC.exit ?_)
      | (refine SyL.light (LV.move rfl) Rq.nil (by first | (apply Wn.none; rfl) | (refine Wn.yes rfl rfl rfl ?_; first | assumption | (with_reducible rfl) | decide | (simp only [decide_eq_true_eq, decide_eq_false_iff_not, Bool.not_eq_true', Bool.not_eq_false', beq_iff_eq, bne_iff_ne, ne_eq, beq_eq_false_iff_ne, bne_eq_false_iff_eq, Int.not_lt, Int.not_le, Bool.true_eq_false, Bool.false_eq_true, tb_one, tb_zero]; omega))) rfl (ltB rfl) ?_)
      | (refine SyL.light (LV.assign rfl) Rq.nil (by first | (apply Wn.none; rfl) | (refine Wn.yes rfl rfl rfl ?_; first | assumption | (with_reducible rfl) | decide | (simp only [decide_eq_true_eq, decide_eq_false_iff_not, Bool.not_eq_true', Bool.not_eq_false', beq_iff_eq, bne_iff_ne, ne_eq, beq_eq_false_iff_ne, bne_eq_false_iff_eq, Int.not_lt, Int.not_le, Bool.true_eq_false, Bool.false_eq_true, tb_one, tb_zero]; omega))) rfl (ltB rfl) ?_)
      | (refine SyL.light (LV.cmp rfl rfl rfl) Rq.nil (by first | (apply Wn.none; rfl) | (refine Wn.yes rfl rfl rfl ?_; first | assumption | (with_reducible rfl) | decide | (simp only [decide_eq_true_eq, decide_eq_false_iff_not, Bool.not_eq_true', Bool.not_eq_false', beq_iff_eq, bne_iff_ne, ne_eq, beq_eq_false_iff_ne, bne_eq_false_iff_eq, Int.not_lt, Int.not_le, Bool.true_eq_false, Bool.false_eq_true, tb_one, tb_zero]; omega))) rfl (ltB rfl) ?_)
      | (refine SyL.heavy (OpT.call rfl rfl (hgraph) rfl ?_) (by first | (apply Wn.none; rfl) | (refine Wn.yes rfl rfl rfl ?_; first | assumption | (with_reducible rfl) | decide | (simp only [decide_eq_true_eq, decide_eq_false_iff_not, Bool.not_eq_true', Bool.not_eq_false', beq_iff_eq, bne_iff_ne, ne_eq, beq_eq_false_iff_ne, bne_eq_false_iff_eq, Int.not_lt, Int.not_le, Bool.true_eq_false, Bool.false_eq_true, tb_one, tb_zero]; omega))) rfl (ltB rfl); rintro v10 I10 rs10 - ⟨gr, rfl, rfl, rfl⟩)
      | (refine SyC.condF rfl (by first | assumption | (with_reducible rfl) | decide | (simp only [decide_eq_true_eq, decide_eq_false_iff_not, Bool.not_eq_true', Bool.not_eq_false', beq_iff_eq, bne_iff_ne, ne_eq, beq_eq_false_iff_ne, bne_eq_false_iff_eq, Int.not_lt, Int.not_le, Bool.true_eq_false, Bool.false_eq_true, tb_one, tb_zero]; omega)) ?_))
    refine SyC.ownNil 34 2 ?_
    obtain ⟨pe, hpe⟩ : ∃ pe, Hd (edgeP G = pe) := ⟨_, ⟨rfl⟩⟩
    refine SyC.loopD (fun m' env I' rs => ∃ a B cb, m' = n - a ∧ a ≤ n ∧ I' = I10 ∧ rs = [.own B cb 34 2 (pairsP pe n a).length (P64 (pairsP pe n a)), .blk gr 33 (U32 G), SigR gd A c m k] ∧ env = [(54, .int .i64 (a : Nat)), (53, .int .i64 (n : Nat)), (8, .slice B (pairsP pe n a).length cb), (7, .slice (some ⟨gr, 0, none⟩) n n), (5, .slice A2 ss.length c2), (3, .pointer (some ⟨gd, 0, none⟩)), (4, .int .i64 (n : Nat))]) n [(54, .int .i64 ((0 : Nat) : Int)), (53, .int .i64 (n : Nat)), (8, .slice none 0 0), (7, .slice (some ⟨gr, 0, none⟩) n n), (5, .slice A2 ss.length c2), (3, .pointer (some ⟨gd, 0, none⟩)), (4, .int .i64 (n : Nat))] (by repeat (first | exact trivial | refine ⟨rfl, ?_⟩)) ⟨0, _, _, rfl, by omega, rfl, rfl, rfl⟩ ?_
    rintro m' env I' rs ⟨a, B, cb, rfl, ha, rfl, rfl, rfl⟩
    have hl1 := pairsP_len pe n a
    have hl0 : a * n ≤ 16 * 16 := Nat.mul_le_mul (by omega) hn16
    by_cases hlt : a < n
    ·
      --<
      repeat' (first
        | (refine SyC.seq ?_)
        | (refine SyC.region ?_)
        | (refine SyL.nil ?_)
        | (refine Then.norm ?_)
        | (refine SyC.block ?_)
        | (refine SyC.skip ?_)
        | (refine SyL.light (LV.move rfl) Rq.nil (by first | (apply Wn.none; rfl) | (refine Wn.yes rfl rfl rfl ?_; first | assumption | (with_reducible rfl) | decide | (simp only [decide_eq_true_eq, decide_eq_false_iff_not, Bool.not_eq_true', Bool.not_eq_false', beq_iff_eq, bne_iff_ne, ne_eq, beq_eq_false_iff_ne, bne_eq_false_iff_eq, Int.not_lt, Int.not_le, Bool.true_eq_false, Bool.false_eq_true, tb_one, tb_zero]; omega))) rfl (ltB rfl) ?_)
        | (refine SyL.light (LV.assign rfl) Rq.nil (by first | (apply Wn.none; rfl) | (refine Wn.yes rfl rfl rfl ?_; first | assumption | (with_reducible rfl) | decide | (simp only [decide_eq_true_eq, decide_eq_false_iff_not, Bool.not_eq_true', Bool.not_eq_false', beq_iff_eq, bne_iff_ne, ne_eq, beq_eq_false_iff_ne, bne_eq_false_iff_eq, Int.not_lt, Int.not_le, Bool.true_eq_false, Bool.false_eq_true, tb_one, tb_zero]; omega))) rfl (ltB rfl) ?_)
        | (refine SyL.light (LV.cmp rfl rfl rfl) Rq.nil (by first | (apply Wn.none; rfl) | (refine Wn.yes rfl rfl rfl ?_; first | assumption | (with_reducible rfl) | decide | (simp only [decide_eq_true_eq, decide_eq_false_iff_not, Bool.not_eq_true', Bool.not_eq_false', beq_iff_eq, bne_iff_ne, ne_eq, beq_eq_false_iff_ne, bne_eq_false_iff_eq, Int.not_lt, Int.not_le, Bool.true_eq_false, Bool.false_eq_true, tb_one, tb_zero]; omega))) rfl (ltB rfl) ?_)
        | (refine SyL.light (LV.arN rfl rfl rfl (by simp only [Fits]; omega)) Rq.nil (by first | (apply Wn.none; rfl) | (refine Wn.yes rfl rfl rfl ?_; first | assumption | (with_reducible rfl) | decide | (simp only [decide_eq_true_eq, decide_eq_false_iff_not, Bool.not_eq_true', Bool.not_eq_false', beq_iff_eq, bne_iff_ne, ne_eq, beq_eq_false_iff_ne, bne_eq_false_iff_eq, Int.not_lt, Int.not_le, Bool.true_eq_false, Bool.false_eq_true, tb_one, tb_zero]; omega))) rfl (ltB rfl) ?_)
        | (refine SyC.condT rfl (by first | assumption | (with_reducible rfl) | decide | (simp only [decide_eq_true_eq, decide_eq_false_iff_not, Bool.not_eq_true', Bool.not_eq_false', beq_iff_eq, bne_iff_ne, ne_eq, beq_eq_false_iff_ne, bne_eq_false_iff_eq, Int.not_lt, Int.not_le, Bool.true_eq_false, Bool.false_eq_true, tb_one, tb_zero]; omega)) ?_))
      have hstepa := pairsP_step pe n a
      generalize pairsP pe n a = L at hl1 hstepa
      refine SyC.loopD (fun m' env I'' rs => ∃ b B cb, m' = n - b ∧ a + 1 ≤ b ∧ b ≤ n ∧ I'' = I' ∧ rs = [.own B cb 34 2 (L ++ rowP pe a b).length (P64 (L ++ rowP pe a b)), .blk gr 33 (U32 G), SigR gd A c m k] ∧ env = [(10, .int .i64 (b : Nat)), (9, .int .i64 (a : Nat)), (54, .int .i64 (a : Nat)), (53, .int .i64 (n : Nat)), (8, .slice B (L ++ rowP pe a b).length cb), (7, .slice (some ⟨gr, 0, none⟩) n n), (5, .slice A2 ss.length c2), (3, .pointer (some ⟨gd, 0, none⟩)), (4, .int .i64 (n : Nat))])
        (n - (a + 1)) [(10, .int .i64 (a + 1 : Nat)), (9, .int .i64 (a : Nat)), (54, .int .i64 (a : Nat)), (53, .int .i64 (n : Nat)), (8, .slice B L.length cb), (7, .slice (some ⟨gr, 0, none⟩) n n), (5, .slice A2 ss.length c2), (3, .pointer (some ⟨gd, 0, none⟩)), (4, .int .i64 (n : Nat))] (by repeat (first | exact trivial | refine ⟨rfl, ?_⟩))
        ⟨a + 1, B, cb, rfl, by omega, by omega, rfl, by rw [rowP_zero, List.append_nil], by rw [rowP_zero, List.append_nil]⟩ ?_
      rintro m' env I'' rs ⟨b, B, cb, rfl, hb1, hb2, rfl, rfl, rfl⟩
      have hl2 := rowP_len pe a b
      have hl3 : (L ++ rowP pe a b).length = L.length + (rowP pe a b).length := List.length_append
      by_cases hbt : b < n
      · have hst := rowP_step pe hb1
        have hpv : pe a b = (G.getD a 0).testBit b := by rw [← hpe.out]; rfl
        have hga := hGs.getD a
        cases hpb : (G.getD a 0).testBit b
        · rw [hpb] at hpv
          simp only [hpv, Bool.false_eq_true, if_false, List.append_nil] at hst
          rw [← hst]
          repeat' (first
            | (refine SyC.seq ?_)
            | (refine SyC.region ?_)
            | (refine SyL.nil ?_)
            | (refine Then.norm ?_)
            | (refine InB.norm ?_)
            | (refine SyC.block ?_)
            | (refine SyC.skip ?_)
            | (refine SyL.light (LV.move rfl) Rq.nil (by first | (apply Wn.none; rfl) | (refine Wn.yes rfl rfl rfl ?_; first | assumption | (with_reducible rfl) | decide | (simp only [decide_eq_true_eq, decide_eq_false_iff_not, Bool.not_eq_true', Bool.not_eq_false', beq_iff_eq, bne_iff_ne, ne_eq, beq_eq_false_iff_ne, bne_eq_false_iff_eq, Int.not_lt, Int.not_le, Bool.true_eq_false, Bool.false_eq_true, tb_one, tb_zero]; omega))) rfl (ltB rfl) ?_)
            | (refine SyL.light (LV.assign rfl) Rq.nil (by first | (apply Wn.none; rfl) | (refine Wn.yes rfl rfl rfl ?_; first | assumption | (with_reducible rfl) | decide | (simp only [decide_eq_true_eq, decide_eq_false_iff_not, Bool.not_eq_true', Bool.not_eq_false', beq_iff_eq, bne_iff_ne, ne_eq, beq_eq_false_iff_ne, bne_eq_false_iff_eq, Int.not_lt, Int.not_le, Bool.true_eq_false, Bool.false_eq_true, tb_one, tb_zero]; omega))) rfl (ltB rfl) ?_)
            | (refine SyL.light (LV.tst rfl rfl rfl) Rq.nil (by first | (apply Wn.none; rfl) | (refine Wn.yes rfl rfl rfl ?_; first | assumption | (with_reducible rfl) | decide | (simp only [decide_eq_true_eq, decide_eq_false_iff_not, Bool.not_eq_true', Bool.not_eq_false', beq_iff_eq, bne_iff_ne, ne_eq, beq_eq_false_iff_ne, bne_eq_false_iff_eq, Int.not_lt, Int.not_le, Bool.true_eq_false, Bool.false_eq_true, tb_one, tb_zero]; omega))) rfl (ltB rfl) ?_)
            | (refine SyL.light (LV.tstEq1 rfl rfl) Rq.nil (by first | (apply Wn.none; rfl) | (refine Wn.yes rfl rfl rfl ?_; first | assumption | (with_reducible rfl) | decide | (simp only [decide_eq_true_eq, decide_eq_false_iff_not, Bool.not_eq_true', Bool.not_eq_false', beq_iff_eq, bne_iff_ne, ne_eq, beq_eq_false_iff_ne, bne_eq_false_iff_eq, Int.not_lt, Int.not_le, Bool.true_eq_false, Bool.false_eq_true, tb_one, tb_zero]; omega))) rfl (ltB rfl) ?_)
            | (refine SyL.light (LV.cmp rfl rfl rfl) Rq.nil (by first | (apply Wn.none; rfl) | (refine Wn.yes rfl rfl rfl ?_; first | assumption | (with_reducible rfl) | decide | (simp only [decide_eq_true_eq, decide_eq_false_iff_not, Bool.not_eq_true', Bool.not_eq_false', beq_iff_eq, bne_iff_ne, ne_eq, beq_eq_false_iff_ne, bne_eq_false_iff_eq, Int.not_lt, Int.not_le, Bool.true_eq_false, Bool.false_eq_true, tb_one, tb_zero]; omega))) rfl (ltB rfl) ?_)
            | (refine SyL.light (LV.arN rfl rfl rfl (by simp only [Fits]; omega)) Rq.nil (by first | (apply Wn.none; rfl) | (refine Wn.yes rfl rfl rfl ?_; first | assumption | (with_reducible rfl) | decide | (simp only [decide_eq_true_eq, decide_eq_false_iff_not, Bool.not_eq_true', Bool.not_eq_false', beq_iff_eq, bne_iff_ne, ne_eq, beq_eq_false_iff_ne, bne_eq_false_iff_eq, Int.not_lt, Int.not_le, Bool.true_eq_false, Bool.false_eq_true, tb_one, tb_zero]; omega))) rfl (ltB rfl) ?_)
            | (refine SyL.light (LV.shrN rfl rfl (by simp only [IntKind.bits]; omega)) Rq.nil (by first | (apply Wn.none; rfl) | (refine Wn.yes rfl rfl rfl ?_; first | assumption | (with_reducible rfl) | decide | (simp only [decide_eq_true_eq, decide_eq_false_iff_not, Bool.not_eq_true', Bool.not_eq_false', beq_iff_eq, bne_iff_ne, ne_eq, beq_eq_false_iff_ne, bne_eq_false_iff_eq, Int.not_lt, Int.not_le, Bool.true_eq_false, Bool.false_eq_true, tb_one, tb_zero]; omega))) rfl (ltB rfl) ?_)
            | (refine SyL.light (LV.idxBN (by apply rfl) (by apply rfl) (by omega)) Rq.nil (by first | (apply Wn.none; rfl) | (refine Wn.yes rfl rfl rfl ?_; first | assumption | (with_reducible rfl) | decide | (simp only [decide_eq_true_eq, decide_eq_false_iff_not, Bool.not_eq_true', Bool.not_eq_false', beq_iff_eq, bne_iff_ne, ne_eq, beq_eq_false_iff_ne, bne_eq_false_iff_eq, Int.not_lt, Int.not_le, Bool.true_eq_false, Bool.false_eq_true, tb_one, tb_zero]; omega))) rfl (ltB rfl) ?_)
            | (refine SyL.light (LV.load rfl) (Rq.blk (List.mem_of_getElem? (i := 1) rfl) (U32_get (by omega))) (by first | (apply Wn.none; rfl) | (refine Wn.yes rfl rfl rfl ?_; first | assumption | (with_reducible rfl) | decide | (simp only [decide_eq_true_eq, decide_eq_false_iff_not, Bool.not_eq_true', Bool.not_eq_false', beq_iff_eq, bne_iff_ne, ne_eq, beq_eq_false_iff_ne, bne_eq_false_iff_eq, Int.not_lt, Int.not_le, Bool.true_eq_false, Bool.false_eq_true, tb_one, tb_zero]; omega))) rfl (ltB rfl) ?_)
            | (refine SyC.condT rfl (by first | assumption | (with_reducible rfl) | decide | (simp only [decide_eq_true_eq, decide_eq_false_iff_not, Bool.not_eq_true', Bool.not_eq_false', beq_iff_eq, bne_iff_ne, ne_eq, beq_eq_false_iff_ne, bne_eq_false_iff_eq, Int.not_lt, Int.not_le, Bool.true_eq_false, Bool.false_eq_true, tb_one, tb_zero]; omega)) ?_)
            | (refine SyC.condF rfl (by first | assumption | (with_reducible rfl) | decide | (simp only [decide_eq_true_eq, decide_eq_false_iff_not, Bool.not_eq_true', Bool.not_eq_false', beq_iff_eq, bne_iff_ne, ne_eq, beq_eq_false_iff_ne, bne_eq_false_iff_eq, Int.not_lt, Int.not_le, Bool.true_eq_false, Bool.false_eq_true, tb_one, tb_zero]; omega)) ?_))
          exact ⟨n - (b + 1), _, _, by omega, (by repeat (first | exact trivial | refine ⟨rfl, ?_⟩)), ⟨b + 1, B, cb, rfl, by omega, by omega, rfl, rfl, rfl⟩, (by repeat (first | exact List.Sublist.refl _ | exact List.nil_sublist _ | refine List.Sublist.cons_cons _ ?_ | refine List.Sublist.cons _ ?_))⟩
        · rw [hpb] at hpv
          rw [hpv, if_pos rfl] at hst
          generalize hM : L ++ rowP pe a b = M at hl3
          have e1 : P64 (M ++ [(a, b)]) = P64 M ++ [.int .i64 (a : Int), .int .i64 (b : Int)] := by rw [P64_app]; rfl
          have e2 : (M ++ [(a, b)]).length = M.length + 1 := by simp
          have e3 : L ++ rowP pe a (b + 1) = M ++ [(a, b)] := by rw [hst, ← List.append_assoc, hM]
          repeat' (first
            | (refine SyC.seq ?_)
            | (refine SyC.region ?_)
            | (refine SyL.nil ?_)
            | (refine Then.norm ?_)
            | (refine InB.norm ?_)
            | (refine SyC.block ?_)
            | (refine SyC.skip ?_)
            | (refine SyL.light (LV.move rfl) Rq.nil (by first | (apply Wn.none; rfl) | (refine Wn.yes rfl rfl rfl ?_; first | assumption | (with_reducible rfl) | decide | (simp only [decide_eq_true_eq, decide_eq_false_iff_not, Bool.not_eq_true', Bool.not_eq_false', beq_iff_eq, bne_iff_ne, ne_eq, beq_eq_false_iff_ne, bne_eq_false_iff_eq, Int.not_lt, Int.not_le, Bool.true_eq_false, Bool.false_eq_true, tb_one, tb_zero]; omega))) rfl (ltB rfl) ?_)
            | (refine SyL.light (LV.assign rfl) Rq.nil (by first | (apply Wn.none; rfl) | (refine Wn.yes rfl rfl rfl ?_; first | assumption | (with_reducible rfl) | decide | (simp only [decide_eq_true_eq, decide_eq_false_iff_not, Bool.not_eq_true', Bool.not_eq_false', beq_iff_eq, bne_iff_ne, ne_eq, beq_eq_false_iff_ne, bne_eq_false_iff_eq, Int.not_lt, Int.not_le, Bool.true_eq_false, Bool.false_eq_true, tb_one, tb_zero]; omega))) rfl (ltB rfl) ?_)
            | (refine SyL.light (LV.tst rfl rfl rfl) Rq.nil (by first | (apply Wn.none; rfl) | (refine Wn.yes rfl rfl rfl ?_; first | assumption | (with_reducible rfl) | decide | (simp only [decide_eq_true_eq, decide_eq_false_iff_not, Bool.not_eq_true', Bool.not_eq_false', beq_iff_eq, bne_iff_ne, ne_eq, beq_eq_false_iff_ne, bne_eq_false_iff_eq, Int.not_lt, Int.not_le, Bool.true_eq_false, Bool.false_eq_true, tb_one, tb_zero]; omega))) rfl (ltB rfl) ?_)
            | (refine SyL.light (LV.tstEq1 rfl rfl) Rq.nil (by first | (apply Wn.none; rfl) | (refine Wn.yes rfl rfl rfl ?_; first | assumption | (with_reducible rfl) | decide | (simp only [decide_eq_true_eq, decide_eq_false_iff_not, Bool.not_eq_true', Bool.not_eq_false', beq_iff_eq, bne_iff_ne, ne_eq, beq_eq_false_iff_ne, bne_eq_false_iff_eq, Int.not_lt, Int.not_le, Bool.true_eq_false, Bool.false_eq_true, tb_one, tb_zero]; omega))) rfl (ltB rfl) ?_)
            | (refine SyL.light (LV.cmp rfl rfl rfl) Rq.nil (by first | (apply Wn.none; rfl) | (refine Wn.yes rfl rfl rfl ?_; first | assumption | (with_reducible rfl) | decide | (simp only [decide_eq_true_eq, decide_eq_false_iff_not, Bool.not_eq_true', Bool.not_eq_false', beq_iff_eq, bne_iff_ne, ne_eq, beq_eq_false_iff_ne, bne_eq_false_iff_eq, Int.not_lt, Int.not_le, Bool.true_eq_false, Bool.false_eq_true, tb_one, tb_zero]; omega))) rfl (ltB rfl) ?_)
            | (refine SyL.light (LV.arN rfl rfl rfl (by simp only [Fits]; omega)) Rq.nil (by first | (apply Wn.none; rfl) | (refine Wn.yes rfl rfl rfl ?_; first | assumption | (with_reducible rfl) | decide | (simp only [decide_eq_true_eq, decide_eq_false_iff_not, Bool.not_eq_true', Bool.not_eq_false', beq_iff_eq, bne_iff_ne, ne_eq, beq_eq_false_iff_ne, bne_eq_false_iff_eq, Int.not_lt, Int.not_le, Bool.true_eq_false, Bool.false_eq_true, tb_one, tb_zero]; omega))) rfl (ltB rfl) ?_)
            | (refine SyL.light (LV.shrN rfl rfl (by simp only [IntKind.bits]; omega)) Rq.nil (by first | (apply Wn.none; rfl) | (refine Wn.yes rfl rfl rfl ?_; first | assumption | (with_reducible rfl) | decide | (simp only [decide_eq_true_eq, decide_eq_false_iff_not, Bool.not_eq_true', Bool.not_eq_false', beq_iff_eq, bne_iff_ne, ne_eq, beq_eq_false_iff_ne, bne_eq_false_iff_eq, Int.not_lt, Int.not_le, Bool.true_eq_false, Bool.false_eq_true, tb_one, tb_zero]; omega))) rfl (ltB rfl) ?_)
            | (refine SyL.light (LV.idxBN (by apply rfl) (by apply rfl) (by omega)) Rq.nil (by first | (apply Wn.none; rfl) | (refine Wn.yes rfl rfl rfl ?_; first | assumption | (with_reducible rfl) | decide | (simp only [decide_eq_true_eq, decide_eq_false_iff_not, Bool.not_eq_true', Bool.not_eq_false', beq_iff_eq, bne_iff_ne, ne_eq, beq_eq_false_iff_ne, bne_eq_false_iff_eq, Int.not_lt, Int.not_le, Bool.true_eq_false, Bool.false_eq_true, tb_one, tb_zero]; omega))) rfl (ltB rfl) ?_)
            | (refine SyL.light (LV.load rfl) (Rq.blk (List.mem_of_getElem? (i := 1) rfl) (U32_get (by omega))) (by first | (apply Wn.none; rfl) | (refine Wn.yes rfl rfl rfl ?_; first | assumption | (with_reducible rfl) | decide | (simp only [decide_eq_true_eq, decide_eq_false_iff_not, Bool.not_eq_true', Bool.not_eq_false', beq_iff_eq, bne_iff_ne, ne_eq, beq_eq_false_iff_ne, bne_eq_false_iff_eq, Int.not_lt, Int.not_le, Bool.true_eq_false, Bool.false_eq_true, tb_one, tb_zero]; omega))) rfl (ltB rfl) ?_)
            | (refine SyL.light (LV.buildArr (xs := [_, _]) (vs := [_, _]) rfl rfl rfl (by simp [Value.cells])) Rq.nil (by first | (apply Wn.none; rfl) | (refine Wn.yes rfl rfl rfl ?_; first | assumption | (with_reducible rfl) | decide | (simp only [decide_eq_true_eq, decide_eq_false_iff_not, Bool.not_eq_true', Bool.not_eq_false', beq_iff_eq, bne_iff_ne, ne_eq, beq_eq_false_iff_ne, bne_eq_false_iff_eq, Int.not_lt, Int.not_le, Bool.true_eq_false, Bool.false_eq_true, tb_one, tb_zero]; omega))) rfl (ltB rfl) ?_)
            | (refine SyL.heavy (OpT.buildSlice1 (by apply rfl) (by apply rfl) (by apply rfl) (by decide) (by decide) (fun g_ hg_ => ?_)) (by first | (apply Wn.none; rfl) | (refine Wn.yes rfl rfl rfl ?_; first | assumption | (with_reducible rfl) | decide | (simp only [decide_eq_true_eq, decide_eq_false_iff_not, Bool.not_eq_true', Bool.not_eq_false', beq_iff_eq, bne_iff_ne, ne_eq, beq_eq_false_iff_ne, bne_eq_false_iff_eq, Int.not_lt, Int.not_le, Bool.true_eq_false, Bool.false_eq_true, tb_one, tb_zero]; omega))) rfl (ltB rfl))
            | (refine SyL.heavy (OpT.append (by apply rfl) (by apply rfl) (k := 1) rfl (by first | (simp; done) | (simp only [List.length_cons, List.length_nil]; done) | (simp only [List.length_cons, List.length_nil]; omega) | (simp; omega) | omega) (Rq.blkAll (List.mem_of_getElem? (i := 0) rfl)) (by simp [Value.oneCell']) (by first | omega | (simp only [List.length_append, List.length_cons, List.length_nil]; omega)) (by first | omega | (simp only [List.length_append, List.length_cons, List.length_nil]; omega)) (by decide) (fun A_ c_ => ?_)) (by first | (apply Wn.none; rfl) | (refine Wn.yes rfl rfl rfl ?_; first | assumption | (with_reducible rfl) | decide | (simp only [decide_eq_true_eq, decide_eq_false_iff_not, Bool.not_eq_true', Bool.not_eq_false', beq_iff_eq, bne_iff_ne, ne_eq, beq_eq_false_iff_ne, bne_eq_false_iff_eq, Int.not_lt, Int.not_le, Bool.true_eq_false, Bool.false_eq_true, tb_one, tb_zero]; omega))) rfl (ltB rfl))
            | (refine SyC.condT rfl (by first | assumption | (with_reducible rfl) | decide | (simp only [decide_eq_true_eq, decide_eq_false_iff_not, Bool.not_eq_true', Bool.not_eq_false', beq_iff_eq, bne_iff_ne, ne_eq, beq_eq_false_iff_ne, bne_eq_false_iff_eq, Int.not_lt, Int.not_le, Bool.true_eq_false, Bool.false_eq_true, tb_one, tb_zero]; omega)) ?_))
          rw [← e1, ← e2, ← e3]
          exact ⟨n - (b + 1), _, _, by omega, (by repeat (first | exact trivial | refine ⟨rfl, ?_⟩)), ⟨b + 1, A_, c_, rfl, by omega, by omega, rfl, rfl, rfl⟩, (by repeat (first | exact List.Sublist.refl _ | exact List.nil_sublist _ | refine List.Sublist.cons_cons _ ?_ | refine List.Sublist.cons _ ?_))⟩
      · obtain rfl : n = b := by omega
        rw [← hstepa]
        repeat' (first
          | (refine SyC.seq ?_)
          | (refine SyC.region ?_)
          | (refine SyL.nil ?_)
          | (refine Then.norm ?_)
          | (refine Then.exit ?_)
          | (refine InB.norm ?_)
          | (refine InB.hit ?_)
          | (refine SyC.exit ?_)
          | (refine SyL.light (LV.move rfl) Rq.nil (by first | (apply Wn.none; rfl) | (refine Wn.yes rfl rfl rfl ?_; first | assumption | (with_reducible rfl) | decide | (simp only [decide_eq_true_eq, decide_eq_false_iff_not, Bool.not_eq_true', Bool.not_eq_false', beq_iff_eq, bne_iff_ne, ne_eq, beq_eq_false_iff_ne, bne_eq_false_iff_eq, Int.not_lt, Int.not_le, Bool.true_eq_false, Bool.false_eq_true, tb_one, tb_zero]; omega))) rfl (ltB rfl) ?_)
          | (refine SyL.light (LV.cmp rfl rfl rfl) Rq.nil (by first | (apply Wn.none; rfl) | (refine Wn.yes rfl rfl rfl ?_; first | assumption | (with_reducible rfl) | decide | (simp only [decide_eq_true_eq, decide_eq_false_iff_not, Bool.not_eq_true', Bool.not_eq_false', beq_iff_eq, bne_iff_ne, ne_eq, beq_eq_false_iff_ne, bne_eq_false_iff_eq, Int.not_lt, Int.not_le, Bool.true_eq_false, Bool.false_eq_true, tb_one, tb_zero]; omega))) rfl (ltB rfl) ?_)
          | (refine SyL.light (LV.arN rfl rfl rfl (by simp only [Fits]; omega)) Rq.nil (by first | (apply Wn.none; rfl) | (refine Wn.yes rfl rfl rfl ?_; first | assumption | (with_reducible rfl) | decide | (simp only [decide_eq_true_eq, decide_eq_false_iff_not, Bool.not_eq_true', Bool.not_eq_false', beq_iff_eq, bne_iff_ne, ne_eq, beq_eq_false_iff_ne, bne_eq_false_iff_eq, Int.not_lt, Int.not_le, Bool.true_eq_false, Bool.false_eq_true, tb_one, tb_zero]; omega))) rfl (ltB rfl) ?_)
          | (refine SyC.condF rfl (by first | assumption | (with_reducible rfl) | decide | (simp only [decide_eq_true_eq, decide_eq_false_iff_not, Bool.not_eq_true', Bool.not_eq_false', beq_iff_eq, bne_iff_ne, ne_eq, beq_eq_false_iff_ne, bne_eq_false_iff_eq, Int.not_lt, Int.not_le, Bool.true_eq_false, Bool.false_eq_true, tb_one, tb_zero]; omega)) ?_))
        exact ⟨n - (a + 1), _, _, by omega, (by repeat (first | exact trivial | refine ⟨rfl, ?_⟩)), ⟨a + 1, B, cb, rfl, by omega, rfl, rfl, rfl⟩, (by repeat (first | exact List.Sublist.refl _ | exact List.nil_sublist _ | refine List.Sublist.cons_cons _ ?_ | refine List.Sublist.cons _ ?_))⟩
      -->
    · obtain rfl : n = a := by omega
      refine SyC.freezeOwn fun I11 hle11 hr11 => ?_
      have hedge := fun (I0 : IH) hle => Edges_c I0 n A2 c2 ss cells (hargs.mono (I' := I0) hle)
      have heq : pairsP (edgeP (GO ss)) n n = pairsP pe n n := pairsP_congr fun x y hx _ _ => by
        rw [← hpe.out]
        have := hGG.out x y
        rw [hG.out] at this
        exact this
      rw [heq] at hedge
      clear heq hpe hlt ha
      generalize pairsP pe n n = L at hl1 hr11 hedge
      have hL1 : decide (L = L) = true := decide_eq_true rfl
      have hL2 : (!decide (L = L)) = false := by rw [hL1]; rfl
      repeat' (first
        | (refine SyC.seq ?_)
        | (refine SyC.region ?_)
        | (refine SyL.nil ?_)
        | (refine Then.norm ?_)
        | (refine Then.exit ?_)
        | (refine InB.hit ?_)
        | (refine SyC.block ?_)
        | (refine SyC.skip ?_)
        | (refine SyC.exit ?_)
        | (refine SyL.light (LV.move rfl) Rq.nil (by first | (apply Wn.none; rfl) | (refine Wn.yes rfl rfl rfl ?_; first | assumption | (with_reducible rfl) | decide | (simp only [decide_eq_true_eq, decide_eq_false_iff_not, Bool.not_eq_true', Bool.not_eq_false', beq_iff_eq, bne_iff_ne, ne_eq, beq_eq_false_iff_ne, bne_eq_false_iff_eq, Int.not_lt, Int.not_le, Bool.true_eq_false, Bool.false_eq_true, tb_one, tb_zero]; omega))) rfl (ltB rfl) ?_)
        | (refine SyL.light (LV.assign rfl) Rq.nil (by first | (apply Wn.none; rfl) | (refine Wn.yes rfl rfl rfl ?_; first | assumption | (with_reducible rfl) | decide | (simp only [decide_eq_true_eq, decide_eq_false_iff_not, Bool.not_eq_true', Bool.not_eq_false', beq_iff_eq, bne_iff_ne, ne_eq, beq_eq_false_iff_ne, bne_eq_false_iff_eq, Int.not_lt, Int.not_le, Bool.true_eq_false, Bool.false_eq_true, tb_one, tb_zero]; omega))) rfl (ltB rfl) ?_)
        | (refine SyL.light (LV.cmp rfl rfl rfl) Rq.nil (by first | (apply Wn.none; rfl) | (refine Wn.yes rfl rfl rfl ?_; first | assumption | (with_reducible rfl) | decide | (simp only [decide_eq_true_eq, decide_eq_false_iff_not, Bool.not_eq_true', Bool.not_eq_false', beq_iff_eq, bne_iff_ne, ne_eq, beq_eq_false_iff_ne, bne_eq_false_iff_eq, Int.not_lt, Int.not_le, Bool.true_eq_false, Bool.false_eq_true, tb_one, tb_zero]; omega))) rfl (ltB rfl) ?_)
        | (refine SyL.light (LV.not rfl) Rq.nil (by first | (apply Wn.none; rfl) | (refine Wn.yes rfl rfl rfl ?_; first | assumption | (with_reducible rfl) | decide | (simp only [decide_eq_true_eq, decide_eq_false_iff_not, Bool.not_eq_true', Bool.not_eq_false', beq_iff_eq, bne_iff_ne, ne_eq, beq_eq_false_iff_ne, bne_eq_false_iff_eq, Int.not_lt, Int.not_le, Bool.true_eq_false, Bool.false_eq_true, tb_one, tb_zero]; omega))) rfl (ltB rfl) ?_)
        | (refine SyL.light (LV.extract rfl rfl) Rq.nil (by first | (apply Wn.none; rfl) | (refine Wn.yes rfl rfl rfl ?_; first | assumption | (with_reducible rfl) | decide | (simp only [decide_eq_true_eq, decide_eq_false_iff_not, Bool.not_eq_true', Bool.not_eq_false', beq_iff_eq, bne_iff_ne, ne_eq, beq_eq_false_iff_ne, bne_eq_false_iff_eq, Int.not_lt, Int.not_le, Bool.true_eq_false, Bool.false_eq_true, tb_one, tb_zero]; omega))) rfl (ltB rfl) ?_)
        | (refine SyL.light (LV.pickF rfl (by first | assumption | (with_reducible rfl) | decide | (simp only [decide_eq_true_eq, decide_eq_false_iff_not, Bool.not_eq_true', Bool.not_eq_false', beq_iff_eq, bne_iff_ne, ne_eq, beq_eq_false_iff_ne, bne_eq_false_iff_eq, Int.not_lt, Int.not_le, Bool.true_eq_false, Bool.false_eq_true, tb_one, tb_zero]; omega)) rfl) Rq.nil (by first | (apply Wn.none; rfl) | (refine Wn.yes rfl rfl rfl ?_; first | assumption | (with_reducible rfl) | decide | (simp only [decide_eq_true_eq, decide_eq_false_iff_not, Bool.not_eq_true', Bool.not_eq_false', beq_iff_eq, bne_iff_ne, ne_eq, beq_eq_false_iff_ne, bne_eq_false_iff_eq, Int.not_lt, Int.not_le, Bool.true_eq_false, Bool.false_eq_true, tb_one, tb_zero]; omega))) rfl (ltB rfl) ?_)
        | (refine SyL.heavy (OpT.alloc (by apply rfl) (fun g_ hg_ => ?_)) (by first | (apply Wn.none; rfl) | (refine Wn.yes rfl rfl rfl ?_; first | assumption | (with_reducible rfl) | decide | (simp only [decide_eq_true_eq, decide_eq_false_iff_not, Bool.not_eq_true', Bool.not_eq_false', beq_iff_eq, bne_iff_ne, ne_eq, beq_eq_false_iff_ne, bne_eq_false_iff_eq, Int.not_lt, Int.not_le, Bool.true_eq_false, Bool.false_eq_true, tb_one, tb_zero]; omega))) rfl (ltB rfl))
        | (refine SyL.heavy (OpT.pcall rfl rfl (hedge _ hle11) ?_) (by first | (apply Wn.none; rfl) | (refine Wn.yes rfl rfl rfl ?_; first | assumption | (with_reducible rfl) | decide | (simp only [decide_eq_true_eq, decide_eq_false_iff_not, Bool.not_eq_true', Bool.not_eq_false', beq_iff_eq, bne_iff_ne, ne_eq, beq_eq_false_iff_ne, bne_eq_false_iff_eq, Int.not_lt, Int.not_le, Bool.true_eq_false, Bool.false_eq_true, tb_one, tb_zero]; omega))) rfl (ltB rfl); rintro v12 I12 hle12 ⟨B12, c12, rfl, hr12⟩)
        | (refine SyL.heavy (OpT.pcall rfl rfl (eqP_c _ _ _ _ _ L L hr12 (hr11.le hle12)) ?_) (by first | (apply Wn.none; rfl) | (refine Wn.yes rfl rfl rfl ?_; first | assumption | (with_reducible rfl) | decide | (simp only [decide_eq_true_eq, decide_eq_false_iff_not, Bool.not_eq_true', Bool.not_eq_false', beq_iff_eq, bne_iff_ne, ne_eq, beq_eq_false_iff_ne, bne_eq_false_iff_eq, Int.not_lt, Int.not_le, Bool.true_eq_false, Bool.false_eq_true, tb_one, tb_zero]; omega))) rfl (ltB rfl); rintro v13 I13 - ⟨rfl, rfl⟩)
        | (refine SyC.condF rfl (by first | assumption | (with_reducible rfl) | decide | (simp only [decide_eq_true_eq, decide_eq_false_iff_not, Bool.not_eq_true', Bool.not_eq_false', beq_iff_eq, bne_iff_ne, ne_eq, beq_eq_false_iff_ne, bne_eq_false_iff_eq, Int.not_lt, Int.not_le, Bool.true_eq_false, Bool.false_eq_true, tb_one, tb_zero]; omega)) ?_))
      rename Nat => ga
      refine SyC.ownNil 3 1 ?_
      refine SyC.loopD (fun m' env I' rs => ∃ i o Aa ca k', m' = n - i ∧ i ≤ n ∧ I11.le I' ∧ ODraw i o ∧ k' ≤ k + i * 2 ∧ rs = [.own Aa ca 3 1 o.length (N64 o), .blk ga 27 [.slice Aa o.length ca], .blk gr 33 (U32 G), SigR gd A c m k'] ∧ env = [(94, .int .i64 (i : Nat)), (93, .int .i64 (n : Nat)), (13, .pointer (some ⟨ga, 0, none⟩)), (7, .slice (some ⟨gr, 0, none⟩) n n), (5, .slice A2 ss.length c2), (3, .pointer (some ⟨gd, 0, none⟩)), (4, .int .i64 (n : Nat))]) n [(94, .int .i64 ((0 : Nat) : Int)), (93, .int .i64 (n : Nat)), (13, .pointer (some ⟨ga, 0, none⟩)), (7, .slice (some ⟨gr, 0, none⟩) n n), (5, .slice A2 ss.length c2), (3, .pointer (some ⟨gd, 0, none⟩)), (4, .int .i64 (n : Nat))] (by repeat (first | exact trivial | refine ⟨rfl, ?_⟩))
        ⟨0, [], none, 0, k, rfl, by omega, hle12, ⟨rfl, by simp, by simp⟩, by omega, rfl, rfl⟩ ?_
      rintro m' env I' rs ⟨i, o, Aa, ca, k', rfl, hi', hle12', hod, hk', rfl, rfl⟩
      have hol := hod.len
      have hok12 := (hok9.le hle11).le hle12'
      by_cases hin : i < n
      ·
        --<
        repeat' (first
          | (refine SyC.seq ?_)
          | (refine SyC.region ?_)
          | (refine SyL.nil ?_)
          | (refine Then.norm ?_)
          | (refine InB.norm ?_)
          | (refine SyC.block ?_)
          | (refine SyC.skip ?_)
          | (refine SyL.light (LV.move rfl) Rq.nil (by first | (apply Wn.none; rfl) | (refine Wn.yes rfl rfl rfl ?_; first | assumption | (with_reducible rfl) | decide | (simp only [decide_eq_true_eq, decide_eq_false_iff_not, Bool.not_eq_true', Bool.not_eq_false', beq_iff_eq, bne_iff_ne, ne_eq, beq_eq_false_iff_ne, bne_eq_false_iff_eq, Int.not_lt, Int.not_le, Bool.true_eq_false, Bool.false_eq_true, tb_one, tb_zero]; omega))) rfl (ltB rfl) ?_)
          | (refine SyL.light (LV.assign rfl) Rq.nil (by first | (apply Wn.none; rfl) | (refine Wn.yes rfl rfl rfl ?_; first | assumption | (with_reducible rfl) | decide | (simp only [decide_eq_true_eq, decide_eq_false_iff_not, Bool.not_eq_true', Bool.not_eq_false', beq_iff_eq, bne_iff_ne, ne_eq, beq_eq_false_iff_ne, bne_eq_false_iff_eq, Int.not_lt, Int.not_le, Bool.true_eq_false, Bool.false_eq_true, tb_one, tb_zero]; omega))) rfl (ltB rfl) ?_)
          | (refine SyL.light (LV.cmp rfl rfl rfl) Rq.nil (by first | (apply Wn.none; rfl) | (refine Wn.yes rfl rfl rfl ?_; first | assumption | (with_reducible rfl) | decide | (simp only [decide_eq_true_eq, decide_eq_false_iff_not, Bool.not_eq_true', Bool.not_eq_false', beq_iff_eq, bne_iff_ne, ne_eq, beq_eq_false_iff_ne, bne_eq_false_iff_eq, Int.not_lt, Int.not_le, Bool.true_eq_false, Bool.false_eq_true, tb_one, tb_zero]; omega))) rfl (ltB rfl) ?_)
          | (refine SyL.light (LV.arN rfl rfl rfl (by simp only [Fits]; omega)) Rq.nil (by first | (apply Wn.none; rfl) | (refine Wn.yes rfl rfl rfl ?_; first | assumption | (with_reducible rfl) | decide | (simp only [decide_eq_true_eq, decide_eq_false_iff_not, Bool.not_eq_true', Bool.not_eq_false', beq_iff_eq, bne_iff_ne, ne_eq, beq_eq_false_iff_ne, bne_eq_false_iff_eq, Int.not_lt, Int.not_le, Bool.true_eq_false, Bool.false_eq_true, tb_one, tb_zero]; omega))) rfl (ltB rfl) ?_)
          | (refine SyL.light (LV.load rfl) (Rq.blkL (by decide) (List.mem_of_getElem? (i := 1) rfl) (by exact rfl)) (by first | (apply Wn.none; rfl) | (refine Wn.yes rfl rfl rfl ?_; first | assumption | (with_reducible rfl) | decide | (simp only [decide_eq_true_eq, decide_eq_false_iff_not, Bool.not_eq_true', Bool.not_eq_false', beq_iff_eq, bne_iff_ne, ne_eq, beq_eq_false_iff_ne, bne_eq_false_iff_eq, Int.not_lt, Int.not_le, Bool.true_eq_false, Bool.false_eq_true, tb_one, tb_zero]; omega))) rfl (ltB rfl) ?_)
          | (refine SyL.heavy (OpT.buildSlice (xs := [_]) (vs := [_]) rfl rfl rfl (by simp [Value.cells]) (by decide) (fun g_ hg_ => ?_)) (by first | (apply Wn.none; rfl) | (refine Wn.yes rfl rfl rfl ?_; first | assumption | (with_reducible rfl) | decide | (simp only [decide_eq_true_eq, decide_eq_false_iff_not, Bool.not_eq_true', Bool.not_eq_false', beq_iff_eq, bne_iff_ne, ne_eq, beq_eq_false_iff_ne, bne_eq_false_iff_eq, Int.not_lt, Int.not_le, Bool.true_eq_false, Bool.false_eq_true, tb_one, tb_zero]; omega))) rfl (ltB rfl))
          | (refine SyL.heavy0 (OpT.store rfl rfl rfl (k := 1) rfl (by first | (simp; done) | (simp only [List.length_cons, List.length_nil]; done) | (simp only [List.length_cons, List.length_nil]; omega) | (simp; omega) | omega) ?_) (by first | (apply Wn.none; rfl) | (refine Wn.yes rfl rfl rfl ?_; first | assumption | (with_reducible rfl) | decide | (simp only [decide_eq_true_eq, decide_eq_false_iff_not, Bool.not_eq_true', Bool.not_eq_false', beq_iff_eq, bne_iff_ne, ne_eq, beq_eq_false_iff_ne, bne_eq_false_iff_eq, Int.not_lt, Int.not_le, Bool.true_eq_false, Bool.false_eq_true, tb_one, tb_zero]; omega))) rfl)
          | (refine SyL.heavy (OpT.callW 3 1 rfl rfl (less_c _ gd A c m k' hok12 (by omega) ((i : Int) + 1) (by omega) (by omega)) rfl ?_) (by first | (apply Wn.none; rfl) | (refine Wn.yes rfl rfl rfl ?_; first | assumption | (with_reducible rfl) | decide | (simp only [decide_eq_true_eq, decide_eq_false_iff_not, Bool.not_eq_true', Bool.not_eq_false', beq_iff_eq, bne_iff_ne, ne_eq, beq_eq_false_iff_ne, bne_eq_false_iff_eq, Int.not_lt, Int.not_le, Bool.true_eq_false, Bool.false_eq_true, tb_one, tb_zero]; omega))) rfl (ltB rfl); rintro v14 I14 rs14 - ⟨b, k14, hb14, hk141, hk142, rfl, rfl, rfl⟩)
          | (refine SyL.heavy (OpT.callW 0 2 rfl rfl (Fn.perm (Insert_c _ Aa ca o b i _ (by omega) (by omega)) (List.Perm.swap _ _ _)) rfl ?_) (by first | (apply Wn.none; rfl) | (refine Wn.yes rfl rfl rfl ?_; first | assumption | (with_reducible rfl) | decide | (simp only [decide_eq_true_eq, decide_eq_false_iff_not, Bool.not_eq_true', Bool.not_eq_false', beq_iff_eq, bne_iff_ne, ne_eq, beq_eq_false_iff_ne, bne_eq_false_iff_eq, Int.not_lt, Int.not_le, Bool.true_eq_false, Bool.false_eq_true, tb_one, tb_zero]; omega))) rfl (ltB rfl); rintro v15 I15 rs15 - ⟨A15, c15, rfl, rfl, rfl⟩)
          | (refine SyC.condT rfl (by first | assumption | (with_reducible rfl) | decide | (simp only [decide_eq_true_eq, decide_eq_false_iff_not, Bool.not_eq_true', Bool.not_eq_false', beq_iff_eq, bne_iff_ne, ne_eq, beq_eq_false_iff_ne, bne_eq_false_iff_eq, Int.not_lt, Int.not_le, Bool.true_eq_false, Bool.false_eq_true, tb_one, tb_zero]; omega)) ?_))
        have hlo : (insAt o b i).length = o.length + 1 := insAt_len _ _ _ (by omega)
        rw [← hlo]
        exact ⟨n - (i + 1), [(94, .int .i64 (i + 1 : Nat)), (93, .int .i64 (n : Nat)), (13, .pointer (some ⟨ga, 0, none⟩)), (7, .slice (some ⟨gr, 0, none⟩) n n), (5, .slice A2 ss.length c2), (3, .pointer (some ⟨gd, 0, none⟩)), (4, .int .i64 (n : Nat))], [.own A15 c15 3 1 (insAt o b i).length (N64 (insAt o b i)), .blk ga 27 [.slice A15 (insAt o b i).length c15], .blk gr 33 (U32 G), SigR gd A c m k14], by omega, (by repeat (first | exact trivial | refine ⟨rfl, ?_⟩)), ⟨i + 1, insAt o b i, A15, c15, k14, rfl, by omega, hle12', hod.step (by omega), by omega, rfl, rfl⟩, (by repeat (first | exact List.Sublist.refl _ | exact List.nil_sublist _ | refine List.Sublist.cons_cons _ ?_ | refine List.Sublist.cons _ ?_))⟩
        -->
      · obtain rfl : n = i := by omega
        refine SyC.freezeOwn fun I16 hle16 hra => ?_
        have hord : Ord n o := ⟨hod.nd, hod.lt, hol⟩
        obtain ⟨aa, rfl⟩ := hra.addr (by omega)
        obtain ⟨hw1, hw2⟩ := width_law hn16 hscn hord
        have hW := fun (I0 : IH) hle => Width_c I0 n A2 c2 ss cells (hargs.mono (I' := I0) hle) (some aa) ca o hord
        have hF := fun (I0 : IH) hle => Fill_c I0 n A2 c2 ss cells (hargs.mono (I' := I0) hle) (some aa) ca o hord
        rw [hw1] at hW
        rw [hw2] at hF
        rw [hG.out] at hW hF
        have hal := fun (I0 : IH) (hle0 : I16.le I0) gk gc cg => along_c I0 gc n cg G hn16 hGl hGs 15 #[.pointer (some ⟨gk, 0, none⟩), .pointer (some ⟨ga, 0, none⟩)] (chO o) (fun i => [.blk gr 33 (U32 G), SigR gd A c m k', kRow gk i, .blk ga 27 [.slice (some aa) o.length ca]])
          (fun i hi => by
            have e1 : o[i]? = some (o.getD i 0) := by simp [show i < o.length from by omega]
            exact hord.lt _ (List.mem_of_getElem? e1))
          (fun i I1 hi hle1 => any_c I1 gk ga aa ca o i _ _ _ _ _ (by omega) (by omega) ((hra.le hle0).le hle1))
        have hO' := fun (I0 : IH) hle => hO I0 n gr A2 c2 ss cells (hargs.mono (I' := I0) hle) hn0
        rw [hG.out] at hO'
        clear hw1 hw2
        generalize (aRun (chO o) n G n).wid = wv at hW hal
        generalize (aRun (chO o) n G n).fill = fl at hF hal
        generalize (aRun (chO o) n G n).ord = od at hal
        generalize (aRun (chO o) n G n).G = GG at hal
        have hww : (((wv : Nat) : Int) != (wv : Int)) = false := by simp
        have hf1 : decide (fl = fl) = true := decide_eq_true rfl
        have hf2 : (!decide (fl = fl)) = false := by rw [hf1]; rfl
        repeat' (first
          | (refine SyC.seq ?_)
          | (refine SyC.region ?_)
          | (refine SyL.nil ?_)
          | (refine Then.norm ?_)
          | (refine Then.exit ?_)
          | (refine InB.hit ?_)
          | (refine SyC.skip ?_)
          | (refine SyC.exit ?_)
          | (refine SyC.ret ?_)
          | (refine SyL.light (LV.move rfl) Rq.nil (by first | (apply Wn.none; rfl) | (refine Wn.yes rfl rfl rfl ?_; first | assumption | (with_reducible rfl) | decide | (simp only [decide_eq_true_eq, decide_eq_false_iff_not, Bool.not_eq_true', Bool.not_eq_false', beq_iff_eq, bne_iff_ne, ne_eq, beq_eq_false_iff_ne, bne_eq_false_iff_eq, Int.not_lt, Int.not_le, Bool.true_eq_false, Bool.false_eq_true, tb_one, tb_zero]; omega))) rfl (ltB rfl) ?_)
          | (refine SyL.light (LV.assign rfl) Rq.nil (by first | (apply Wn.none; rfl) | (refine Wn.yes rfl rfl rfl ?_; first | assumption | (with_reducible rfl) | decide | (simp only [decide_eq_true_eq, decide_eq_false_iff_not, Bool.not_eq_true', Bool.not_eq_false', beq_iff_eq, bne_iff_ne, ne_eq, beq_eq_false_iff_ne, bne_eq_false_iff_eq, Int.not_lt, Int.not_le, Bool.true_eq_false, Bool.false_eq_true, tb_one, tb_zero]; omega))) rfl (ltB rfl) ?_)
          | (refine SyL.light (LV.cmp rfl rfl rfl) Rq.nil (by first | (apply Wn.none; rfl) | (refine Wn.yes rfl rfl rfl ?_; first | assumption | (with_reducible rfl) | decide | (simp only [decide_eq_true_eq, decide_eq_false_iff_not, Bool.not_eq_true', Bool.not_eq_false', beq_iff_eq, bne_iff_ne, ne_eq, beq_eq_false_iff_ne, bne_eq_false_iff_eq, Int.not_lt, Int.not_le, Bool.true_eq_false, Bool.false_eq_true, tb_one, tb_zero]; omega))) rfl (ltB rfl) ?_)
          | (refine SyL.light (LV.not rfl) Rq.nil (by first | (apply Wn.none; rfl) | (refine Wn.yes rfl rfl rfl ?_; first | assumption | (with_reducible rfl) | decide | (simp only [decide_eq_true_eq, decide_eq_false_iff_not, Bool.not_eq_true', Bool.not_eq_false', beq_iff_eq, bne_iff_ne, ne_eq, beq_eq_false_iff_ne, bne_eq_false_iff_eq, Int.not_lt, Int.not_le, Bool.true_eq_false, Bool.false_eq_true, tb_one, tb_zero]; omega))) rfl (ltB rfl) ?_)
          | (refine SyL.light (LV.extract rfl rfl) Rq.nil (by first | (apply Wn.none; rfl) | (refine Wn.yes rfl rfl rfl ?_; first | assumption | (with_reducible rfl) | decide | (simp only [decide_eq_true_eq, decide_eq_false_iff_not, Bool.not_eq_true', Bool.not_eq_false', beq_iff_eq, bne_iff_ne, ne_eq, beq_eq_false_iff_ne, bne_eq_false_iff_eq, Int.not_lt, Int.not_le, Bool.true_eq_false, Bool.false_eq_true, tb_one, tb_zero]; omega))) rfl (ltB rfl) ?_)
          | (refine SyL.light (LV.pickF rfl (by first | assumption | (with_reducible rfl) | decide | (simp only [decide_eq_true_eq, decide_eq_false_iff_not, Bool.not_eq_true', Bool.not_eq_false', beq_iff_eq, bne_iff_ne, ne_eq, beq_eq_false_iff_ne, bne_eq_false_iff_eq, Int.not_lt, Int.not_le, Bool.true_eq_false, Bool.false_eq_true, tb_one, tb_zero]; omega)) rfl) Rq.nil (by first | (apply Wn.none; rfl) | (refine Wn.yes rfl rfl rfl ?_; first | assumption | (with_reducible rfl) | decide | (simp only [decide_eq_true_eq, decide_eq_false_iff_not, Bool.not_eq_true', Bool.not_eq_false', beq_iff_eq, bne_iff_ne, ne_eq, beq_eq_false_iff_ne, bne_eq_false_iff_eq, Int.not_lt, Int.not_le, Bool.true_eq_false, Bool.false_eq_true, tb_one, tb_zero]; omega))) rfl (ltB rfl) ?_)
          | (refine SyL.light (LV.load rfl) (Rq.blk (List.mem_of_getElem? (i := 4) rfl) (i := 0) rfl) (by first | (apply Wn.none; rfl) | (refine Wn.yes rfl rfl rfl ?_; first | assumption | (with_reducible rfl) | decide | (simp only [decide_eq_true_eq, decide_eq_false_iff_not, Bool.not_eq_true', Bool.not_eq_false', beq_iff_eq, bne_iff_ne, ne_eq, beq_eq_false_iff_ne, bne_eq_false_iff_eq, Int.not_lt, Int.not_le, Bool.true_eq_false, Bool.false_eq_true, tb_one, tb_zero]; omega))) rfl (ltB rfl) ?_)
          | (refine SyL.light (LV.makeFunc rfl rfl) Rq.nil (by first | (apply Wn.none; rfl) | (refine Wn.yes rfl rfl rfl ?_; first | assumption | (with_reducible rfl) | decide | (simp only [decide_eq_true_eq, decide_eq_false_iff_not, Bool.not_eq_true', Bool.not_eq_false', beq_iff_eq, bne_iff_ne, ne_eq, beq_eq_false_iff_ne, bne_eq_false_iff_eq, Int.not_lt, Int.not_le, Bool.true_eq_false, Bool.false_eq_true, tb_one, tb_zero]; omega))) rfl (ltB rfl) ?_)
          | (refine SyL.heavy (OpT.alloc (by apply rfl) (fun g_ hg_ => ?_)) (by first | (apply Wn.none; rfl) | (refine Wn.yes rfl rfl rfl ?_; first | assumption | (with_reducible rfl) | decide | (simp only [decide_eq_true_eq, decide_eq_false_iff_not, Bool.not_eq_true', Bool.not_eq_false', beq_iff_eq, bne_iff_ne, ne_eq, beq_eq_false_iff_ne, bne_eq_false_iff_eq, Int.not_lt, Int.not_le, Bool.true_eq_false, Bool.false_eq_true, tb_one, tb_zero]; omega))) rfl (ltB rfl))
          | (refine SyL.heavy0 (OpT.store rfl rfl rfl (k := 0) rfl (by first | (simp; done) | (simp only [List.length_cons, List.length_nil]; done) | (simp only [List.length_cons, List.length_nil]; omega) | (simp; omega) | omega) ?_) (by first | (apply Wn.none; rfl) | (refine Wn.yes rfl rfl rfl ?_; first | assumption | (with_reducible rfl) | decide | (simp only [decide_eq_true_eq, decide_eq_false_iff_not, Bool.not_eq_true', Bool.not_eq_false', beq_iff_eq, bne_iff_ne, ne_eq, beq_eq_false_iff_ne, bne_eq_false_iff_eq, Int.not_lt, Int.not_le, Bool.true_eq_false, Bool.false_eq_true, tb_one, tb_zero]; omega))) rfl)
          | (refine SyL.heavy (OpT.callW 2 1 rfl rfl (cloneB_c _ gr n n G hGl (by omega) hn0) rfl ?_) (by first | (apply Wn.none; rfl) | (refine Wn.yes rfl rfl rfl ?_; first | assumption | (with_reducible rfl) | decide | (simp only [decide_eq_true_eq, decide_eq_false_iff_not, Bool.not_eq_true', Bool.not_eq_false', beq_iff_eq, bne_iff_ne, ne_eq, beq_eq_false_iff_ne, bne_eq_false_iff_eq, Int.not_lt, Int.not_le, Bool.true_eq_false, Bool.false_eq_true, tb_one, tb_zero]; omega))) rfl (ltB rfl); rintro v17 I17 rs17 - ⟨gc, cg, rfl, rfl, rfl⟩)
          | (refine SyL.heavy (OpT.callR 2 rfl rfl (hal _ (by repeat' (first | assumption | exact IH.le.rfl | (refine IH.le.trans ?_ (by assumption)))) _ _ _) rfl ?_) (by first | (apply Wn.none; rfl) | (refine Wn.yes rfl rfl rfl ?_; first | assumption | (with_reducible rfl) | decide | (simp only [decide_eq_true_eq, decide_eq_false_iff_not, Bool.not_eq_true', Bool.not_eq_false', beq_iff_eq, bne_iff_ne, ne_eq, beq_eq_false_iff_ne, bne_eq_false_iff_eq, Int.not_lt, Int.not_le, Bool.true_eq_false, Bool.false_eq_true, tb_one, tb_zero]; omega))) rfl (ltB rfl); rintro v18 I18 rs18 hle18 ⟨A18, c18, B18, d18, rfl, hr18, hr18f, rfl⟩)
          | (refine SyL.heavy (OpT.pcall rfl rfl (hW _ (by repeat' (first | assumption | exact IH.le.rfl | (refine IH.le.trans ?_ (by assumption)))) (hra.le (by repeat' (first | assumption | exact IH.le.rfl | (refine IH.le.trans ?_ (by assumption)))))) ?_) (by first | (apply Wn.none; rfl) | (refine Wn.yes rfl rfl rfl ?_; first | assumption | (with_reducible rfl) | decide | (simp only [decide_eq_true_eq, decide_eq_false_iff_not, Bool.not_eq_true', Bool.not_eq_false', beq_iff_eq, bne_iff_ne, ne_eq, beq_eq_false_iff_ne, bne_eq_false_iff_eq, Int.not_lt, Int.not_le, Bool.true_eq_false, Bool.false_eq_true, tb_one, tb_zero]; omega))) rfl (ltB rfl); rintro v19 I19 hle19 rfl)
          | (refine SyL.heavy (OpT.pcall rfl rfl (hF _ (by repeat' (first | assumption | exact IH.le.rfl | (refine IH.le.trans ?_ (by assumption)))) (hra.le (by repeat' (first | assumption | exact IH.le.rfl | (refine IH.le.trans ?_ (by assumption)))))) ?_) (by first | (apply Wn.none; rfl) | (refine Wn.yes rfl rfl rfl ?_; first | assumption | (with_reducible rfl) | decide | (simp only [decide_eq_true_eq, decide_eq_false_iff_not, Bool.not_eq_true', Bool.not_eq_false', beq_iff_eq, bne_iff_ne, ne_eq, beq_eq_false_iff_ne, bne_eq_false_iff_eq, Int.not_lt, Int.not_le, Bool.true_eq_false, Bool.false_eq_true, tb_one, tb_zero]; omega))) rfl (ltB rfl); rintro v20 I20 hle20 ⟨A20, c20, rfl, hr20⟩)
          | (refine SyL.heavy (OpT.pcall rfl rfl (eqP_c _ _ _ _ _ fl fl (hr20.le (by repeat' (first | assumption | exact IH.le.rfl | (refine IH.le.trans ?_ (by assumption))))) (hr18f.le (by repeat' (first | assumption | exact IH.le.rfl | (refine IH.le.trans ?_ (by assumption)))))) ?_) (by first | (apply Wn.none; rfl) | (refine Wn.yes rfl rfl rfl ?_; first | assumption | (with_reducible rfl) | decide | (simp only [decide_eq_true_eq, decide_eq_false_iff_not, Bool.not_eq_true', Bool.not_eq_false', beq_iff_eq, bne_iff_ne, ne_eq, beq_eq_false_iff_ne, bne_eq_false_iff_eq, Int.not_lt, Int.not_le, Bool.true_eq_false, Bool.false_eq_true, tb_one, tb_zero]; omega))) rfl (ltB rfl); rintro v21 I21 - ⟨rfl, rfl⟩)
          | (refine SyL.heavy (OpT.callW 1 1 rfl rfl (hO' _ (by repeat' (first | assumption | exact IH.le.rfl | (refine IH.le.trans ?_ (by assumption))))) rfl ?_) (by first | (apply Wn.none; rfl) | (refine Wn.yes rfl rfl rfl ?_; first | assumption | (with_reducible rfl) | decide | (simp only [decide_eq_true_eq, decide_eq_false_iff_not, Bool.not_eq_true', Bool.not_eq_false', beq_iff_eq, bne_iff_ne, ne_eq, beq_eq_false_iff_ne, bne_eq_false_iff_eq, Int.not_lt, Int.not_le, Bool.true_eq_false, Bool.false_eq_true, tb_one, tb_zero]; omega))) rfl (ltB rfl); rintro v22 I22 rs22 hle22 rfl)
          | (refine SyC.condF rfl (by first | assumption | (with_reducible rfl) | decide | (simp only [decide_eq_true_eq, decide_eq_false_iff_not, Bool.not_eq_true', Bool.not_eq_false', beq_iff_eq, bne_iff_ne, ne_eq, beq_eq_false_iff_ne, bne_eq_false_iff_eq, Int.not_lt, Int.not_le, Bool.true_eq_false, Bool.false_eq_true, tb_one, tb_zero]; omega)) ?_))
        refine Ret.one (by simp) Try.results3 (.tmp rfl) ?_
        rfl
end Go.Proofs.Ytpgkbipnkkeicaa
