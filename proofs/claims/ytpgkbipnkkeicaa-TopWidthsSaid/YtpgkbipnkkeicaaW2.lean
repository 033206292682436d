import Derived.Test.YtpgkbipnkkeicaaW1
set_option linter.unusedSimpArgs false
set_option linter.unusedVariables false
/-! order.Right, at scopes that are right. -/
namespace Go.Proofs.Ytpgkbipnkkeicaa
open Go Go.Sx

def N64 (l : List Nat) : List Value := l.map fun (d : Nat) => Value.int .i64 (d : Int)
theorem N64_get {l : List Nat} {j : Nat} (h : j < l.length) : (N64 l)[j]? = some (.int .i64 ((l.getD j 0 : Nat) : Int)) := by
  simp [N64, h]
theorem N64_at {l : List Nat} {j : Nat} {x : Value} (h : (N64 l)[j]? = some x) : ∃ d, l[j]? = some d ∧ x = .int .i64 ((d : Nat) : Int) := by
  simp only [N64, List.getElem?_map, Option.map_eq_some_iff] at h
  obtain ⟨d, h1, h2⟩ := h
  exact ⟨d, h1, h2.symm⟩
/-- A list of lists of numbers. -/
structure RdSs (I : IH) (A : Option Addr) (c : Nat) (ss : List (List Nat)) (cells : List Value) : Prop where
  rd : RdSl I 1 (.slice A ss.length c) ss.length cells
  el : ∀ (j : Nat) (x : Value), cells[j]? = some x → ∃ l B cb, ss[j]? = some l ∧ x = Value.slice B l.length cb ∧ RdSl I 1 (.slice B l.length cb) l.length (N64 l)
theorem RdSs.le {I I' : IH} {A : Option Addr} {c : Nat} {ss : List (List Nat)} {cells : List Value} (h : RdSs I A c ss cells) (hle : I.le I') : RdSs I' A c ss cells :=
  ⟨h.rd.le hle, fun j x hx => let ⟨l, B, cb, h1, h2, h3⟩ := h.el j x hx; ⟨l, B, cb, h1, h2, h3.le hle⟩⟩
/-- .. all below n, and not many. -/
structure Scopes (n : Nat) (ss : List (List Nat)) : Prop where
  many : ss.length ≤ 1000
  long : ∀ l ∈ ss, l.length ≤ 100
  below : ∀ l ∈ ss, ∀ x ∈ l, x < n

set_option maxRecDepth 100000 in
theorem right11_c (I : IH) (g n : Nat) (x : Nat) (hx : x < n) : Sx.Fn Try.prog 118 #[.int .i64 (x : Int), .pointer (some ⟨g, 0, none⟩)] I [.blk g 3 [.int .i64 (n : Int)]] fun v I' rs' => v = .bool false ∧ rs' = [.blk g 3 [.int .i64 (n : Int)]] := by
  refine Fn.intro (n := 11) (args := [.int .i64 (x : Int), .pointer (some ⟨g, 0, none⟩)]) (by kernel_rfl) Try.func118 rfl Try.ntmps118 (Nat.le_of_ble_eq_true rfl) [(0, .int .i64 (x : Int)), (1, .pointer (some ⟨g, 0, none⟩))] rfl (fun w0 => ?_)
  repeat' (first
    | (refine SyC.seq ?_)
    | (refine SyC.region ?_)
    | (refine SyL.nil ?_)
    | (refine Then.norm ?_)
    | (refine SyC.ret ?_)
    | (refine SyL.light (LV.move rfl) Rq.nil (by first | (apply Wn.none; rfl) | (refine Wn.yes rfl rfl rfl ?_; first | assumption | (with_reducible rfl) | decide | (simp only [decide_eq_true_eq, decide_eq_false_iff_not, Bool.not_eq_true', Bool.not_eq_false', beq_iff_eq, bne_iff_ne, ne_eq, beq_eq_false_iff_ne, bne_eq_false_iff_eq, Int.not_lt, Int.not_le, Bool.true_eq_false, Bool.false_eq_true, tb_one, tb_zero]; omega))) rfl (ltB rfl) ?_)
    | (refine SyL.light (LV.assign rfl) Rq.nil (by first | (apply Wn.none; rfl) | (refine Wn.yes rfl rfl rfl ?_; first | assumption | (with_reducible rfl) | decide | (simp only [decide_eq_true_eq, decide_eq_false_iff_not, Bool.not_eq_true', Bool.not_eq_false', beq_iff_eq, bne_iff_ne, ne_eq, beq_eq_false_iff_ne, bne_eq_false_iff_eq, Int.not_lt, Int.not_le, Bool.true_eq_false, Bool.false_eq_true, tb_one, tb_zero]; omega))) rfl (ltB rfl) ?_)
    | (refine SyL.light (LV.cmp rfl rfl rfl) Rq.nil (by first | (apply Wn.none; rfl) | (refine Wn.yes rfl rfl rfl ?_; first | assumption | (with_reducible rfl) | decide | (simp only [decide_eq_true_eq, decide_eq_false_iff_not, Bool.not_eq_true', Bool.not_eq_false', beq_iff_eq, bne_iff_ne, ne_eq, beq_eq_false_iff_ne, bne_eq_false_iff_eq, Int.not_lt, Int.not_le, Bool.true_eq_false, Bool.false_eq_true, tb_one, tb_zero]; omega))) rfl (ltB rfl) ?_)
    | (refine SyL.light (LV.pickF rfl (by first | assumption | (with_reducible rfl) | decide | (simp only [decide_eq_true_eq, decide_eq_false_iff_not, Bool.not_eq_true', Bool.not_eq_false', beq_iff_eq, bne_iff_ne, ne_eq, beq_eq_false_iff_ne, bne_eq_false_iff_eq, Int.not_lt, Int.not_le, Bool.true_eq_false, Bool.false_eq_true, tb_one, tb_zero]; omega)) rfl) Rq.nil (by first | (apply Wn.none; rfl) | (refine Wn.yes rfl rfl rfl ?_; first | assumption | (with_reducible rfl) | decide | (simp only [decide_eq_true_eq, decide_eq_false_iff_not, Bool.not_eq_true', Bool.not_eq_false', beq_iff_eq, bne_iff_ne, ne_eq, beq_eq_false_iff_ne, bne_eq_false_iff_eq, Int.not_lt, Int.not_le, Bool.true_eq_false, Bool.false_eq_true, tb_one, tb_zero]; omega))) rfl (ltB rfl) ?_)
    | (refine SyL.light (LV.load rfl) (Rq.blkL (by decide) (List.mem_of_getElem? (i := 0) rfl) (by exact rfl)) (by first | (apply Wn.none; rfl) | (refine Wn.yes rfl rfl rfl ?_; first | assumption | (with_reducible rfl) | decide | (simp only [decide_eq_true_eq, decide_eq_false_iff_not, Bool.not_eq_true', Bool.not_eq_false', beq_iff_eq, bne_iff_ne, ne_eq, beq_eq_false_iff_ne, bne_eq_false_iff_eq, Int.not_lt, Int.not_le, Bool.true_eq_false, Bool.false_eq_true, tb_one, tb_zero]; omega))) rfl (ltB rfl) ?_))
  refine Ret.one (by simp) Try.results118 (.tmp rfl) ?_
  exact ⟨by simp; omega, rfl⟩

set_option maxRecDepth 100000 in
theorem right1_c (I : IH) (g n : Nat) (B : Option Addr) (cb : Nat) (l : List Nat) (h : RdSl I 1 (.slice B l.length cb) l.length (N64 l)) (hl : l.length ≤ 100) (hb : ∀ x ∈ l, x < n) :
    Sx.Fn Try.prog 116 #[.slice B l.length cb, .pointer (some ⟨g, 0, none⟩)] I [.blk g 3 [.int .i64 (n : Int)]] fun v I' rs' => v = .bool false ∧ rs' = [.blk g 3 [.int .i64 (n : Int)]] := by
  refine Fn.intro (n := 12) (args := [.slice B l.length cb, .pointer (some ⟨g, 0, none⟩)]) (by kernel_rfl) Try.func116 rfl Try.ntmps116 (Nat.le_of_ble_eq_true rfl) [(0, .slice B l.length cb), (1, .pointer (some ⟨g, 0, none⟩))] rfl (fun w0 => ?_)
  have hcall := conI_c I [.blk g 3 [.int .i64 (n : Int)]] B l.length cb (N64 l) h 118 #[.pointer (some ⟨g, 0, none⟩)] (fun _ => false) (fun j x I' hle hx => by
    obtain ⟨d, hd, rfl⟩ := N64_at hx
    exact right11_c I' g n d (hb d (List.mem_of_getElem? hd)))
  rw [ffind_none (fun _ _ => rfl)] at hcall
  repeat' (first
    | (refine SyC.seq ?_)
    | (refine SyC.region ?_)
    | (refine SyL.nil ?_)
    | (refine Then.norm ?_)
    | (refine SyC.ret ?_)
    | (refine SyL.light (LV.move rfl) Rq.nil (by first | (apply Wn.none; rfl) | (refine Wn.yes rfl rfl rfl ?_; first | assumption | (with_reducible rfl) | decide | (simp only [decide_eq_true_eq, decide_eq_false_iff_not, Bool.not_eq_true', Bool.not_eq_false', beq_iff_eq, bne_iff_ne, ne_eq, beq_eq_false_iff_ne, bne_eq_false_iff_eq, Int.not_lt, Int.not_le, Bool.true_eq_false, Bool.false_eq_true, tb_one, tb_zero]; omega))) rfl (ltB rfl) ?_)
    | (refine SyL.light (LV.assign rfl) Rq.nil (by first | (apply Wn.none; rfl) | (refine Wn.yes rfl rfl rfl ?_; first | assumption | (with_reducible rfl) | decide | (simp only [decide_eq_true_eq, decide_eq_false_iff_not, Bool.not_eq_true', Bool.not_eq_false', beq_iff_eq, bne_iff_ne, ne_eq, beq_eq_false_iff_ne, bne_eq_false_iff_eq, Int.not_lt, Int.not_le, Bool.true_eq_false, Bool.false_eq_true, tb_one, tb_zero]; omega))) rfl (ltB rfl) ?_)
    | (refine SyL.light (LV.len (by apply rfl)) Rq.nil (by first | (apply Wn.none; rfl) | (refine Wn.yes rfl rfl rfl ?_; first | assumption | (with_reducible rfl) | decide | (simp only [decide_eq_true_eq, decide_eq_false_iff_not, Bool.not_eq_true', Bool.not_eq_false', beq_iff_eq, bne_iff_ne, ne_eq, beq_eq_false_iff_ne, bne_eq_false_iff_eq, Int.not_lt, Int.not_le, Bool.true_eq_false, Bool.false_eq_true, tb_one, tb_zero]; omega))) rfl (ltB rfl) ?_)
    | (refine SyL.light (LV.cmp rfl rfl rfl) Rq.nil (by first | (apply Wn.none; rfl) | (refine Wn.yes rfl rfl rfl ?_; first | assumption | (with_reducible rfl) | decide | (simp only [decide_eq_true_eq, decide_eq_false_iff_not, Bool.not_eq_true', Bool.not_eq_false', beq_iff_eq, bne_iff_ne, ne_eq, beq_eq_false_iff_ne, bne_eq_false_iff_eq, Int.not_lt, Int.not_le, Bool.true_eq_false, Bool.false_eq_true, tb_one, tb_zero]; omega))) rfl (ltB rfl) ?_)
    | (refine SyL.light (LV.pickF rfl (by first | assumption | (with_reducible rfl) | decide | (simp only [decide_eq_true_eq, decide_eq_false_iff_not, Bool.not_eq_true', Bool.not_eq_false', beq_iff_eq, bne_iff_ne, ne_eq, beq_eq_false_iff_ne, bne_eq_false_iff_eq, Int.not_lt, Int.not_le, Bool.true_eq_false, Bool.false_eq_true, tb_one, tb_zero]; omega)) rfl) Rq.nil (by first | (apply Wn.none; rfl) | (refine Wn.yes rfl rfl rfl ?_; first | assumption | (with_reducible rfl) | decide | (simp only [decide_eq_true_eq, decide_eq_false_iff_not, Bool.not_eq_true', Bool.not_eq_false', beq_iff_eq, bne_iff_ne, ne_eq, beq_eq_false_iff_ne, bne_eq_false_iff_eq, Int.not_lt, Int.not_le, Bool.true_eq_false, Bool.false_eq_true, tb_one, tb_zero]; omega))) rfl (ltB rfl) ?_)
    | (refine SyL.light (LV.makeFunc rfl rfl) Rq.nil (by first | (apply Wn.none; rfl) | (refine Wn.yes rfl rfl rfl ?_; first | assumption | (with_reducible rfl) | decide | (simp only [decide_eq_true_eq, decide_eq_false_iff_not, Bool.not_eq_true', Bool.not_eq_false', beq_iff_eq, bne_iff_ne, ne_eq, beq_eq_false_iff_ne, bne_eq_false_iff_eq, Int.not_lt, Int.not_le, Bool.true_eq_false, Bool.false_eq_true, tb_one, tb_zero]; omega))) rfl (ltB rfl) ?_)
    | (refine SyL.heavy (OpT.callA rfl rfl (hcall) ?_) (by first | (apply Wn.none; rfl) | (refine Wn.yes rfl rfl rfl ?_; first | assumption | (with_reducible rfl) | decide | (simp only [decide_eq_true_eq, decide_eq_false_iff_not, Bool.not_eq_true', Bool.not_eq_false', beq_iff_eq, bne_iff_ne, ne_eq, beq_eq_false_iff_ne, bne_eq_false_iff_eq, Int.not_lt, Int.not_le, Bool.true_eq_false, Bool.false_eq_true, tb_one, tb_zero]; omega))) rfl (ltB rfl); rintro v1 I1 rs1 hle1 ⟨rfl, rfl⟩))
  refine Ret.one (by simp) Try.results116 (.tmp rfl) ?_
  exact ⟨by simp, rfl⟩

set_option maxRecDepth 100000 in
/-- Right, where all is right. -/
theorem Right_c (I : IH) (n : Nat) (A : Option Addr) (c : Nat) (ss : List (List Nat)) (cells : List Value) (h : RdSs I A c ss cells) (hs : Scopes n ss) (hn : n ≤ 16) :
    PFn Try.prog 51 #[.int .i64 (n : Int), .slice A ss.length c] I fun v _ => v = .bool true := by
  refine Fn.intro (n := 20) (args := [.int .i64 (n : Int), .slice A ss.length c]) (by kernel_rfl) Try.func51 rfl Try.ntmps51 (Nat.le_of_ble_eq_true rfl) [(0, .int .i64 (n : Int)), (1, .slice A ss.length c)] rfl (fun w0 => ?_)
  have hm := hs.many
  repeat' (first
    | (refine SyC.seq ?_)
    | (refine SyC.region ?_)
    | (refine SyL.nil ?_)
    | (refine Then.norm ?_)
    | (refine SyC.skip ?_)
    | (refine SyL.light (LV.move rfl) Rq.nil (by first | (apply Wn.none; rfl) | (refine Wn.yes rfl rfl rfl ?_; first | assumption | (with_reducible rfl) | decide | (simp only [decide_eq_true_eq, decide_eq_false_iff_not, Bool.not_eq_true', Bool.not_eq_false', beq_iff_eq, bne_iff_ne, ne_eq, beq_eq_false_iff_ne, bne_eq_false_iff_eq, Int.not_lt, Int.not_le, Bool.true_eq_false, Bool.false_eq_true, tb_one, tb_zero]; omega))) rfl (ltB rfl) ?_)
    | (refine SyL.light (LV.assign rfl) Rq.nil (by first | (apply Wn.none; rfl) | (refine Wn.yes rfl rfl rfl ?_; first | assumption | (with_reducible rfl) | decide | (simp only [decide_eq_true_eq, decide_eq_false_iff_not, Bool.not_eq_true', Bool.not_eq_false', beq_iff_eq, bne_iff_ne, ne_eq, beq_eq_false_iff_ne, bne_eq_false_iff_eq, Int.not_lt, Int.not_le, Bool.true_eq_false, Bool.false_eq_true, tb_one, tb_zero]; omega))) rfl (ltB rfl) ?_)
    | (refine SyL.light (LV.len (by apply rfl)) Rq.nil (by first | (apply Wn.none; rfl) | (refine Wn.yes rfl rfl rfl ?_; first | assumption | (with_reducible rfl) | decide | (simp only [decide_eq_true_eq, decide_eq_false_iff_not, Bool.not_eq_true', Bool.not_eq_false', beq_iff_eq, bne_iff_ne, ne_eq, beq_eq_false_iff_ne, bne_eq_false_iff_eq, Int.not_lt, Int.not_le, Bool.true_eq_false, Bool.false_eq_true, tb_one, tb_zero]; omega))) rfl (ltB rfl) ?_)
    | (refine SyL.light (LV.cmp rfl rfl rfl) Rq.nil (by first | (apply Wn.none; rfl) | (refine Wn.yes rfl rfl rfl ?_; first | assumption | (with_reducible rfl) | decide | (simp only [decide_eq_true_eq, decide_eq_false_iff_not, Bool.not_eq_true', Bool.not_eq_false', beq_iff_eq, bne_iff_ne, ne_eq, beq_eq_false_iff_ne, bne_eq_false_iff_eq, Int.not_lt, Int.not_le, Bool.true_eq_false, Bool.false_eq_true, tb_one, tb_zero]; omega))) rfl (ltB rfl) ?_)
    | (refine SyL.light (LV.pickF rfl (by first | assumption | (with_reducible rfl) | decide | (simp only [decide_eq_true_eq, decide_eq_false_iff_not, Bool.not_eq_true', Bool.not_eq_false', beq_iff_eq, bne_iff_ne, ne_eq, beq_eq_false_iff_ne, bne_eq_false_iff_eq, Int.not_lt, Int.not_le, Bool.true_eq_false, Bool.false_eq_true, tb_one, tb_zero]; omega)) rfl) Rq.nil (by first | (apply Wn.none; rfl) | (refine Wn.yes rfl rfl rfl ?_; first | assumption | (with_reducible rfl) | decide | (simp only [decide_eq_true_eq, decide_eq_false_iff_not, Bool.not_eq_true', Bool.not_eq_false', beq_iff_eq, bne_iff_ne, ne_eq, beq_eq_false_iff_ne, bne_eq_false_iff_eq, Int.not_lt, Int.not_le, Bool.true_eq_false, Bool.false_eq_true, tb_one, tb_zero]; omega))) rfl (ltB rfl) ?_)
    | (refine SyL.light (LV.load rfl) (Rq.blkL (by decide) (List.mem_of_getElem? (i := 0) rfl) (by exact rfl)) (by first | (apply Wn.none; rfl) | (refine Wn.yes rfl rfl rfl ?_; first | assumption | (with_reducible rfl) | decide | (simp only [decide_eq_true_eq, decide_eq_false_iff_not, Bool.not_eq_true', Bool.not_eq_false', beq_iff_eq, bne_iff_ne, ne_eq, beq_eq_false_iff_ne, bne_eq_false_iff_eq, Int.not_lt, Int.not_le, Bool.true_eq_false, Bool.false_eq_true, tb_one, tb_zero]; omega))) rfl (ltB rfl) ?_)
    | (refine SyL.light (LV.makeFunc rfl rfl) Rq.nil (by first | (apply Wn.none; rfl) | (refine Wn.yes rfl rfl rfl ?_; first | assumption | (with_reducible rfl) | decide | (simp only [decide_eq_true_eq, decide_eq_false_iff_not, Bool.not_eq_true', Bool.not_eq_false', beq_iff_eq, bne_iff_ne, ne_eq, beq_eq_false_iff_ne, bne_eq_false_iff_eq, Int.not_lt, Int.not_le, Bool.true_eq_false, Bool.false_eq_true, tb_one, tb_zero]; omega))) rfl (ltB rfl) ?_)
    | (refine SyL.heavy (OpT.box rfl rfl (fun g_ hg_ => ?_)) (by first | (apply Wn.none; rfl) | (refine Wn.yes rfl rfl rfl ?_; first | assumption | (with_reducible rfl) | decide | (simp only [decide_eq_true_eq, decide_eq_false_iff_not, Bool.not_eq_true', Bool.not_eq_false', beq_iff_eq, bne_iff_ne, ne_eq, beq_eq_false_iff_ne, bne_eq_false_iff_eq, Int.not_lt, Int.not_le, Bool.true_eq_false, Bool.false_eq_true, tb_one, tb_zero]; omega))) rfl (ltB rfl))
    | (refine SyC.condF rfl (by first | assumption | (with_reducible rfl) | decide | (simp only [decide_eq_true_eq, decide_eq_false_iff_not, Bool.not_eq_true', Bool.not_eq_false', beq_iff_eq, bne_iff_ne, ne_eq, beq_eq_false_iff_ne, bne_eq_false_iff_eq, Int.not_lt, Int.not_le, Bool.true_eq_false, Bool.false_eq_true, tb_one, tb_zero]; omega)) ?_))
  have hcall := conS_c I [.blk g_ 3 [.int .i64 (n : Int)]] A ss.length c cells h.rd 116 #[.pointer (some ⟨g_, 0, none⟩)] (fun _ => false) (fun j x I' hle hx => by
    obtain ⟨l, B, cb, h1, rfl, h3⟩ := h.el j x hx
    exact right1_c I' g_ n B cb l (h3.le hle) (hs.long l (List.mem_of_getElem? h1)) (hs.below l (List.mem_of_getElem? h1)))
  rw [ffind_none (fun _ _ => rfl)] at hcall
  repeat' (first
    | (refine SyL.nil ?_)
    | (refine Then.norm ?_)
    | (refine SyC.ret ?_)
    | (refine SyL.light (LV.assign rfl) Rq.nil (by first | (apply Wn.none; rfl) | (refine Wn.yes rfl rfl rfl ?_; first | assumption | (with_reducible rfl) | decide | (simp only [decide_eq_true_eq, decide_eq_false_iff_not, Bool.not_eq_true', Bool.not_eq_false', beq_iff_eq, bne_iff_ne, ne_eq, beq_eq_false_iff_ne, bne_eq_false_iff_eq, Int.not_lt, Int.not_le, Bool.true_eq_false, Bool.false_eq_true, tb_one, tb_zero]; omega))) rfl (ltB rfl) ?_)
    | (refine SyL.light (LV.not rfl) Rq.nil (by first | (apply Wn.none; rfl) | (refine Wn.yes rfl rfl rfl ?_; first | assumption | (with_reducible rfl) | decide | (simp only [decide_eq_true_eq, decide_eq_false_iff_not, Bool.not_eq_true', Bool.not_eq_false', beq_iff_eq, bne_iff_ne, ne_eq, beq_eq_false_iff_ne, bne_eq_false_iff_eq, Int.not_lt, Int.not_le, Bool.true_eq_false, Bool.false_eq_true, tb_one, tb_zero]; omega))) rfl (ltB rfl) ?_)
    | (refine SyL.heavy (OpT.callA rfl rfl (hcall) ?_) (by first | (apply Wn.none; rfl) | (refine Wn.yes rfl rfl rfl ?_; first | assumption | (with_reducible rfl) | decide | (simp only [decide_eq_true_eq, decide_eq_false_iff_not, Bool.not_eq_true', Bool.not_eq_false', beq_iff_eq, bne_iff_ne, ne_eq, beq_eq_false_iff_ne, bne_eq_false_iff_eq, Int.not_lt, Int.not_le, Bool.true_eq_false, Bool.false_eq_true, tb_one, tb_zero]; omega))) rfl (ltB rfl); rintro v1 I1 rs1 hle1 ⟨rfl, rfl⟩))
  refine Ret.oneP (by simp) Try.results51 (.tmp rfl) ?_
  exact ⟨rfl, by simp⟩
end Go.Proofs.Ytpgkbipnkkeicaa
