import Derived.Test.YtpgkbipnkkeicaaW9
set_option linter.unusedSimpArgs false
set_option linter.unusedVariables false
/-! all, played, Width, Fill. -/
namespace Go.Proofs.Ytpgkbipnkkeicaa
open Go Go.Sx Go.Gr
attribute [local irreducible] popN

/-- An order has just the variables. -/
structure Ord (n : Nat) (o : List Nat) : Prop where
  nd : o.Nodup
  lt : ∀ x ∈ o, x < n
  len : o.length = n
def bitsOf (l : List Nat) : Nat := l.foldl (fun s v => s ||| 2 ^ v) 0
theorem bitsOf_step {l : List Nat} {k x : Nat} (h : l[k]? = some x) : bitsOf (l.take (k + 1)) = bitsOf (l.take k) ||| 2 ^ x := by
  unfold bitsOf
  rw [List.take_add_one, h]
  simp
theorem bitsOf_foldl (l : List Nat) (s x : Nat) : (l.foldl (fun s v => s ||| 2 ^ v) s).testBit x = (s.testBit x || decide (x ∈ l)) := by
  induction l generalizing s with
  | nil => simp
  | cons y l ih =>
    rw [List.foldl_cons, ih, Nat.testBit_or, Nat.testBit_two_pow]
    by_cases hxy : x = y
    · simp [hxy]
    · have h1 : decide (y = x) = false := by simp; omega
      simp [h1, hxy]
theorem bitsOf_bit (l : List Nat) (x : Nat) : (bitsOf l).testBit x = decide (x ∈ l) := by
  unfold bitsOf; rw [bitsOf_foldl]; simp
theorem bitsOf_lt {l : List Nat} (h : ∀ x ∈ l, x < 16) : bitsOf l < 65536 := by
  have : bitsOf l < 2 ^ 16 := Nat.lt_pow_two_of_testBit _ fun i hi => by
    rw [bitsOf_bit]
    simp
    intro hm
    have := h i hm
    omega
  omega

set_option maxRecDepth 100000 in
theorem all_c (I : IH) (n : Nat) (hn : n ≤ 16) (A : Option Addr) (c : Nat) (o : List Nat) (ho : Ord n o) (hrd : RdSl I 1 (.slice A o.length c) o.length (N64 o)) :
    PFn Try.prog 120 #[.int .i64 (n : Int), .slice A o.length c] I fun v I' => v = .bool true ∧ I' = I := by
  have hlo := ho.len
  refine Fn.intro (n := 37) (args := [.int .i64 (n : Int), .slice A o.length c]) (by kernel_rfl) Try.func120 rfl Try.ntmps120 (Nat.le_of_ble_eq_true rfl) [(0, .int .i64 (n : Int)), (1, .slice A o.length c)] rfl (fun w0 => ?_)
  repeat' (first
    | (refine SyC.seq ?_)
    | (refine SyC.region ?_)
    | (refine SyL.nil ?_)
    | (refine Then.norm ?_)
    | (refine SyC.block ?_)
    | (refine SyL.light (LV.move rfl) Rq.nil (by first | (apply Wn.none; rfl) | (refine Wn.yes rfl rfl rfl ?_; first | assumption | (with_reducible rfl) | decide | (simp only [decide_eq_true_eq, decide_eq_false_iff_not, Bool.not_eq_true', Bool.not_eq_false', beq_iff_eq, bne_iff_ne, ne_eq, beq_eq_false_iff_ne, bne_eq_false_iff_eq, Int.not_lt, Int.not_le, Bool.true_eq_false, Bool.false_eq_true, tb_one, tb_zero]; omega))) rfl (ltB rfl) ?_)
    | (refine SyL.light (LV.assign rfl) Rq.nil (by first | (apply Wn.none; rfl) | (refine Wn.yes rfl rfl rfl ?_; first | assumption | (with_reducible rfl) | decide | (simp only [decide_eq_true_eq, decide_eq_false_iff_not, Bool.not_eq_true', Bool.not_eq_false', beq_iff_eq, bne_iff_ne, ne_eq, beq_eq_false_iff_ne, bne_eq_false_iff_eq, Int.not_lt, Int.not_le, Bool.true_eq_false, Bool.false_eq_true, tb_one, tb_zero]; omega))) rfl (ltB rfl) ?_)
    | (refine SyL.light (LV.len (by apply rfl)) Rq.nil (by first | (apply Wn.none; rfl) | (refine Wn.yes rfl rfl rfl ?_; first | assumption | (with_reducible rfl) | decide | (simp only [decide_eq_true_eq, decide_eq_false_iff_not, Bool.not_eq_true', Bool.not_eq_false', beq_iff_eq, bne_iff_ne, ne_eq, beq_eq_false_iff_ne, bne_eq_false_iff_eq, Int.not_lt, Int.not_le, Bool.true_eq_false, Bool.false_eq_true, tb_one, tb_zero]; omega))) rfl (ltB rfl) ?_))
  refine SyC.loop (fun t env I' rs => ∃ k : Nat, t = o.length - k ∧ k ≤ o.length ∧ I' = I ∧ rs = [] ∧
    env = [(10, .int .i64 (k : Nat)), (9, .int .i64 (o.length : Nat)), (8, .slice A o.length c), (5, .int .i64 (bitsOf (o.take k) : Nat)), (0, .int .i64 (n : Nat)), (1, .slice A o.length c)]) o.length _ (by repeat (first | exact trivial | refine ⟨rfl, ?_⟩)) ⟨0, rfl, by omega, rfl, rfl, rfl⟩ ?_
  rintro t env I' rs ⟨k, rfl, hk, rfl, rfl, rfl⟩
  by_cases hlt : k < o.length
  · obtain ⟨ad, rfl⟩ := hrd.addr (by omega)
    have e1 : o[k]? = some (o.getD k 0) := by simp [hlt]
    have hx := ho.lt _ (List.mem_of_getElem? e1)
    have hst := bitsOf_step e1
    have hsb := bitsOf_lt (l := o.take k) fun x hx => Nat.lt_of_lt_of_le (ho.lt x (List.mem_of_mem_take hx)) hn
    have hbit : (bitsOf (o.take k)).testBit (o.getD k 0) = false := by
      rw [bitsOf_bit, decide_eq_false_iff_not]
      intro hm
      obtain ⟨j, hj⟩ := List.mem_iff_getElem?.1 hm
      rw [List.getElem?_take] at hj
      split at hj
      · rename_i hjk
        have := (List.getElem?_inj (by omega) ho.nd).1 (hj.trans e1.symm)
        omega
      · cases hj
    have hg := N64_get hlt
    generalize o.getD k 0 = x at e1 hx hst hbit hg
    generalize bitsOf (o.take k) = s at hst hsb hbit
    have h2x : 2 ^ x < 9223372036854775808 := Nat.lt_trans (Nat.pow_lt_pow_right (by omega) (by omega : x < 16)) (by decide)
    repeat' (first
      | (refine SyC.seq ?_)
      | (refine SyC.region ?_)
      | (refine SyL.nil ?_)
      | (refine Then.norm ?_)
      | (refine InB.norm ?_)
      | (refine SyC.block ?_)
      | (refine SyC.skip ?_)
      | (refine SyL.light (LV.move rfl) Rq.nil (by first | (apply Wn.none; rfl) | (refine Wn.yes rfl rfl rfl ?_; first | assumption | (with_reducible rfl) | decide | (simp only [decide_eq_true_eq, decide_eq_false_iff_not, Bool.not_eq_true', Bool.not_eq_false', beq_iff_eq, bne_iff_ne, ne_eq, beq_eq_false_iff_ne, bne_eq_false_iff_eq, Int.not_lt, Int.not_le, Bool.true_eq_false, Bool.false_eq_true, tb_one, tb_zero]; omega))) rfl (ltB rfl) ?_)
      | (refine SyL.light (LV.assign rfl) Rq.nil (by first | (apply Wn.none; rfl) | (refine Wn.yes rfl rfl rfl ?_; first | assumption | (with_reducible rfl) | decide | (simp only [decide_eq_true_eq, decide_eq_false_iff_not, Bool.not_eq_true', Bool.not_eq_false', beq_iff_eq, bne_iff_ne, ne_eq, beq_eq_false_iff_ne, bne_eq_false_iff_eq, Int.not_lt, Int.not_le, Bool.true_eq_false, Bool.false_eq_true, tb_one, tb_zero]; omega))) rfl (ltB rfl) ?_)
      | (refine SyL.light (LV.tstI rfl rfl) Rq.nil (by first | (apply Wn.none; rfl) | (refine Wn.yes rfl rfl rfl ?_; first | assumption | (with_reducible rfl) | decide | (simp only [decide_eq_true_eq, decide_eq_false_iff_not, Bool.not_eq_true', Bool.not_eq_false', beq_iff_eq, bne_iff_ne, ne_eq, beq_eq_false_iff_ne, bne_eq_false_iff_eq, Int.not_lt, Int.not_le, Bool.true_eq_false, Bool.false_eq_true, tb_one, tb_zero]; omega))) rfl (ltB rfl) ?_)
      | (refine SyL.light (LV.tstEq1 rfl rfl) Rq.nil (by first | (apply Wn.none; rfl) | (refine Wn.yes rfl rfl rfl ?_; first | assumption | (with_reducible rfl) | decide | (simp only [decide_eq_true_eq, decide_eq_false_iff_not, Bool.not_eq_true', Bool.not_eq_false', beq_iff_eq, bne_iff_ne, ne_eq, beq_eq_false_iff_ne, bne_eq_false_iff_eq, Int.not_lt, Int.not_le, Bool.true_eq_false, Bool.false_eq_true, tb_one, tb_zero]; omega))) rfl (ltB rfl) ?_)
      | (refine SyL.light (LV.cmp rfl rfl rfl) Rq.nil (by first | (apply Wn.none; rfl) | (refine Wn.yes rfl rfl rfl ?_; first | assumption | (with_reducible rfl) | decide | (simp only [decide_eq_true_eq, decide_eq_false_iff_not, Bool.not_eq_true', Bool.not_eq_false', beq_iff_eq, bne_iff_ne, ne_eq, beq_eq_false_iff_ne, bne_eq_false_iff_eq, Int.not_lt, Int.not_le, Bool.true_eq_false, Bool.false_eq_true, tb_one, tb_zero]; omega))) rfl (ltB rfl) ?_)
      | (refine SyL.light (LV.arN rfl rfl rfl (by simp only [Fits]; omega)) Rq.nil (by first | (apply Wn.none; rfl) | (refine Wn.yes rfl rfl rfl ?_; first | assumption | (with_reducible rfl) | decide | (simp only [decide_eq_true_eq, decide_eq_false_iff_not, Bool.not_eq_true', Bool.not_eq_false', beq_iff_eq, bne_iff_ne, ne_eq, beq_eq_false_iff_ne, bne_eq_false_iff_eq, Int.not_lt, Int.not_le, Bool.true_eq_false, Bool.false_eq_true, tb_one, tb_zero]; omega))) rfl (ltB rfl) ?_)
      | (refine SyL.light (LV.shl1I rfl rfl (by omega)) Rq.nil (by first | (apply Wn.none; rfl) | (refine Wn.yes rfl rfl rfl ?_; first | assumption | (with_reducible rfl) | decide | (simp only [decide_eq_true_eq, decide_eq_false_iff_not, Bool.not_eq_true', Bool.not_eq_false', beq_iff_eq, bne_iff_ne, ne_eq, beq_eq_false_iff_ne, bne_eq_false_iff_eq, Int.not_lt, Int.not_le, Bool.true_eq_false, Bool.false_eq_true, tb_one, tb_zero]; omega))) rfl (ltB rfl) ?_)
      | (refine SyL.light (LV.shrN rfl rfl (by simp only [IntKind.bits]; omega)) Rq.nil (by first | (apply Wn.none; rfl) | (refine Wn.yes rfl rfl rfl ?_; first | assumption | (with_reducible rfl) | decide | (simp only [decide_eq_true_eq, decide_eq_false_iff_not, Bool.not_eq_true', Bool.not_eq_false', beq_iff_eq, bne_iff_ne, ne_eq, beq_eq_false_iff_ne, bne_eq_false_iff_eq, Int.not_lt, Int.not_le, Bool.true_eq_false, Bool.false_eq_true, tb_one, tb_zero]; omega))) rfl (ltB rfl) ?_)
      | (refine SyL.light (LV.bitsI rfl rfl rfl (by first | assumption | omega) (by first | assumption | omega)) Rq.nil (by first | (apply Wn.none; rfl) | (refine Wn.yes rfl rfl rfl ?_; first | assumption | (with_reducible rfl) | decide | (simp only [decide_eq_true_eq, decide_eq_false_iff_not, Bool.not_eq_true', Bool.not_eq_false', beq_iff_eq, bne_iff_ne, ne_eq, beq_eq_false_iff_ne, bne_eq_false_iff_eq, Int.not_lt, Int.not_le, Bool.true_eq_false, Bool.false_eq_true, tb_one, tb_zero]; omega))) rfl (ltB rfl) ?_)
      | (refine SyL.light (LV.pickF rfl (by first | assumption | (with_reducible rfl) | decide | (simp only [decide_eq_true_eq, decide_eq_false_iff_not, Bool.not_eq_true', Bool.not_eq_false', beq_iff_eq, bne_iff_ne, ne_eq, beq_eq_false_iff_ne, bne_eq_false_iff_eq, Int.not_lt, Int.not_le, Bool.true_eq_false, Bool.false_eq_true, tb_one, tb_zero]; omega)) rfl) Rq.nil (by first | (apply Wn.none; rfl) | (refine Wn.yes rfl rfl rfl ?_; first | assumption | (with_reducible rfl) | decide | (simp only [decide_eq_true_eq, decide_eq_false_iff_not, Bool.not_eq_true', Bool.not_eq_false', beq_iff_eq, bne_iff_ne, ne_eq, beq_eq_false_iff_ne, bne_eq_false_iff_eq, Int.not_lt, Int.not_le, Bool.true_eq_false, Bool.false_eq_true, tb_one, tb_zero]; omega))) rfl (ltB rfl) ?_)
      | (refine SyL.light (LV.idxN (by apply rfl) (by apply rfl) (by omega)) Rq.nil (by first | (apply Wn.none; rfl) | (refine Wn.yes rfl rfl rfl ?_; first | assumption | (with_reducible rfl) | decide | (simp only [decide_eq_true_eq, decide_eq_false_iff_not, Bool.not_eq_true', Bool.not_eq_false', beq_iff_eq, bne_iff_ne, ne_eq, beq_eq_false_iff_ne, bne_eq_false_iff_eq, Int.not_lt, Int.not_le, Bool.true_eq_false, Bool.false_eq_true, tb_one, tb_zero]; omega))) rfl (ltB rfl) ?_)
      | (refine SyL.light (LV.load rfl) (Rq.imm (RdSl.at hrd hg)) (by first | (apply Wn.none; rfl) | (refine Wn.yes rfl rfl rfl ?_; first | assumption | (with_reducible rfl) | decide | (simp only [decide_eq_true_eq, decide_eq_false_iff_not, Bool.not_eq_true', Bool.not_eq_false', beq_iff_eq, bne_iff_ne, ne_eq, beq_eq_false_iff_ne, bne_eq_false_iff_eq, Int.not_lt, Int.not_le, Bool.true_eq_false, Bool.false_eq_true, tb_one, tb_zero]; omega))) rfl (ltB rfl) ?_)
      | (refine SyC.condT rfl (by first | assumption | (with_reducible rfl) | decide | (simp only [decide_eq_true_eq, decide_eq_false_iff_not, Bool.not_eq_true', Bool.not_eq_false', beq_iff_eq, bne_iff_ne, ne_eq, beq_eq_false_iff_ne, bne_eq_false_iff_eq, Int.not_lt, Int.not_le, Bool.true_eq_false, Bool.false_eq_true, tb_one, tb_zero]; omega)) ?_)
      | (refine SyC.condF rfl (by first | assumption | (with_reducible rfl) | decide | (simp only [decide_eq_true_eq, decide_eq_false_iff_not, Bool.not_eq_true', Bool.not_eq_false', beq_iff_eq, bne_iff_ne, ne_eq, beq_eq_false_iff_ne, bne_eq_false_iff_eq, Int.not_lt, Int.not_le, Bool.true_eq_false, Bool.false_eq_true, tb_one, tb_zero]; omega)) ?_))
    rw [← hst]
    exact ⟨o.length - (k + 1), _, by omega, (by repeat (first | exact trivial | refine ⟨rfl, ?_⟩)), k + 1, rfl, by omega, rfl, rfl, rfl⟩
  · obtain rfl : k = o.length := by omega
    repeat' (first
      | (refine SyC.seq ?_)
      | (refine SyC.region ?_)
      | (refine SyL.nil ?_)
      | (refine Then.norm ?_)
      | (refine Then.exit ?_)
      | (refine InB.hit ?_)
      | (refine SyC.exit ?_)
      | (refine SyC.ret ?_)
      | (refine SyL.light (LV.move rfl) Rq.nil (by first | (apply Wn.none; rfl) | (refine Wn.yes rfl rfl rfl ?_; first | assumption | (with_reducible rfl) | decide | (simp only [decide_eq_true_eq, decide_eq_false_iff_not, Bool.not_eq_true', Bool.not_eq_false', beq_iff_eq, bne_iff_ne, ne_eq, beq_eq_false_iff_ne, bne_eq_false_iff_eq, Int.not_lt, Int.not_le, Bool.true_eq_false, Bool.false_eq_true, tb_one, tb_zero]; omega))) rfl (ltB rfl) ?_)
      | (refine SyL.light (LV.assign rfl) Rq.nil (by first | (apply Wn.none; rfl) | (refine Wn.yes rfl rfl rfl ?_; first | assumption | (with_reducible rfl) | decide | (simp only [decide_eq_true_eq, decide_eq_false_iff_not, Bool.not_eq_true', Bool.not_eq_false', beq_iff_eq, bne_iff_ne, ne_eq, beq_eq_false_iff_ne, bne_eq_false_iff_eq, Int.not_lt, Int.not_le, Bool.true_eq_false, Bool.false_eq_true, tb_one, tb_zero]; omega))) rfl (ltB rfl) ?_)
      | (refine SyL.light (LV.len (by apply rfl)) Rq.nil (by first | (apply Wn.none; rfl) | (refine Wn.yes rfl rfl rfl ?_; first | assumption | (with_reducible rfl) | decide | (simp only [decide_eq_true_eq, decide_eq_false_iff_not, Bool.not_eq_true', Bool.not_eq_false', beq_iff_eq, bne_iff_ne, ne_eq, beq_eq_false_iff_ne, bne_eq_false_iff_eq, Int.not_lt, Int.not_le, Bool.true_eq_false, Bool.false_eq_true, tb_one, tb_zero]; omega))) rfl (ltB rfl) ?_)
      | (refine SyL.light (LV.cmp rfl rfl rfl) Rq.nil (by first | (apply Wn.none; rfl) | (refine Wn.yes rfl rfl rfl ?_; first | assumption | (with_reducible rfl) | decide | (simp only [decide_eq_true_eq, decide_eq_false_iff_not, Bool.not_eq_true', Bool.not_eq_false', beq_iff_eq, bne_iff_ne, ne_eq, beq_eq_false_iff_ne, bne_eq_false_iff_eq, Int.not_lt, Int.not_le, Bool.true_eq_false, Bool.false_eq_true, tb_one, tb_zero]; omega))) rfl (ltB rfl) ?_)
      | (refine SyC.condF rfl (by first | assumption | (with_reducible rfl) | decide | (simp only [decide_eq_true_eq, decide_eq_false_iff_not, Bool.not_eq_true', Bool.not_eq_false', beq_iff_eq, bne_iff_ne, ne_eq, beq_eq_false_iff_ne, bne_eq_false_iff_eq, Int.not_lt, Int.not_le, Bool.true_eq_false, Bool.false_eq_true, tb_one, tb_zero]; omega)) ?_))
    refine Ret.one (by simp) Try.results120 (.tmp rfl) ?_
    exact ⟨rfl, by simp [hlo], rfl⟩

structure OSt where
  G : List Nat
  wid : Nat
  fill : List (Nat × Nat)
def oStep (s : OSt) (v : Nat) : OSt := ⟨elimO s.G v, max s.wid (popN 32 (s.G.getD v 0)), s.fill ++ missing s.G v⟩
theorem oStep_G (s : OSt) (v : Nat) : (oStep s v).G = elimO s.G v := by simp only [oStep]
def oRun (s : OSt) (o : List Nat) : OSt := o.foldl oStep s
theorem oRun_step {s : OSt} {o : List Nat} {k v : Nat} (h : o[k]? = some v) : oRun s (o.take (k + 1)) = oStep (oRun s (o.take k)) v := foldl_take _ _ _ _ _ h
theorem elimO_len (G : List Nat) (v : Nat) : (elimO G v).length = G.length := by unfold elimO; rw [cut_len, addP_len]
theorem elimO_small {G : List Nat} (h : Small G) (v : Nat) : Small (elimO G v) := (h.addP fun p hp => missing_lt hp).cut v
theorem oRun_len (s : OSt) (o : List Nat) : (oRun s o).G.length = s.G.length := by
  unfold oRun
  induction o generalizing s with
  | nil => rfl
  | cons v o ih => rw [List.foldl_cons, ih (oStep s v), oStep_G, elimO_len]
theorem oRun_small (s : OSt) (h : Small s.G) (o : List Nat) : Small (oRun s o).G := by
  unfold oRun
  induction o generalizing s with
  | nil => exact h
  | cons v o ih => rw [List.foldl_cons]; exact ih (oStep s v) (by rw [oStep_G]; exact elimO_small h v)
theorem missing_len (G : List Nat) (v : Nat) : (missing G v).length ≤ 256 := pairsP_len _ 16 16
theorem oRun_fill (s : OSt) (o : List Nat) : (oRun s o).fill.length ≤ s.fill.length + o.length * 256 := by
  unfold oRun
  induction o generalizing s with
  | nil => simp
  | cons v o ih =>
    rw [List.foldl_cons]
    have := ih (oStep s v)
    have h2 := missing_len s.G v
    simp only [oStep, List.length_append, List.length_cons] at this ⊢
    omega
theorem oRun_wid (s : OSt) (h : s.wid ≤ 32) (o : List Nat) : (oRun s o).wid ≤ 32 := by
  unfold oRun
  induction o generalizing s with
  | nil => exact h
  | cons v o ih =>
    rw [List.foldl_cons]
    refine ih _ ?_
    have := popN_le 32 (s.G.getD v 0)
    simp only [oStep]
    omega
/-- What an order comes to. -/
def played (ss : List (List Nat)) (o : List Nat) : OSt := oRun ⟨GO ss, 0, []⟩ o

set_option maxRecDepth 100000 in
set_option maxHeartbeats 4000000 in
theorem played_c (I : IH) (n : Nat) (A : Option Addr) (c : Nat) (ss : List (List Nat)) (cells : List Value) (h : Args I n A c ss cells) (B : Option Addr) (cb : Nat) (o : List Nat) (ho : Ord n o) (hrd : RdSl I 1 (.slice B o.length cb) o.length (N64 o)) :
    PFn Try.prog 56 #[.int .i64 (n : Int), .slice A ss.length c, .slice B o.length cb] I fun v I' => ∃ C c', v = .tuple #[.int .i64 ((played ss o).wid : Nat), .slice C (played ss o).fill.length c', .int .i64 0] ∧
      RdSl I' 2 (.slice C (played ss o).fill.length c') (played ss o).fill.length (P64 (played ss o).fill) := by
  have hn := h.le
  have hlen := GO_len ss
  have hsm := GO_small (h.ok.mono h.le)
  have h1 := U32_one (GO ss)
  have hlo := ho.len
  refine Fn.intro (n := 43) (args := [.int .i64 (n : Int), .slice A ss.length c, .slice B o.length cb]) (by kernel_rfl) Try.func56 rfl Try.ntmps56 (Nat.le_of_ble_eq_true rfl) [(0, .int .i64 (n : Int)), (1, .slice A ss.length c), (2, .slice B o.length cb)] rfl (fun w0 => ?_)
  repeat' (first
    | (refine SyC.seq ?_)
    | (refine SyC.region ?_)
    | (refine SyL.nil ?_)
    | (refine Then.norm ?_)
    | (refine SyC.block ?_)
    | (refine SyC.skip ?_)
    | (refine SyL.light (LV.move rfl) Rq.nil (by first | (apply Wn.none; rfl) | (refine Wn.yes rfl rfl rfl ?_; first | assumption | (with_reducible rfl) | decide | (simp only [decide_eq_true_eq, decide_eq_false_iff_not, Bool.not_eq_true', Bool.not_eq_false', beq_iff_eq, bne_iff_ne, ne_eq, beq_eq_false_iff_ne, bne_eq_false_iff_eq, Int.not_lt, Int.not_le, Bool.true_eq_false, Bool.false_eq_true, tb_one, tb_zero]; omega))) rfl (ltB rfl) ?_)
    | (refine SyL.light (LV.assign rfl) Rq.nil (by first | (apply Wn.none; rfl) | (refine Wn.yes rfl rfl rfl ?_; first | assumption | (with_reducible rfl) | decide | (simp only [decide_eq_true_eq, decide_eq_false_iff_not, Bool.not_eq_true', Bool.not_eq_false', beq_iff_eq, bne_iff_ne, ne_eq, beq_eq_false_iff_ne, bne_eq_false_iff_eq, Int.not_lt, Int.not_le, Bool.true_eq_false, Bool.false_eq_true, tb_one, tb_zero]; omega))) rfl (ltB rfl) ?_)
    | (refine SyL.light (LV.len (by apply rfl)) Rq.nil (by first | (apply Wn.none; rfl) | (refine Wn.yes rfl rfl rfl ?_; first | assumption | (with_reducible rfl) | decide | (simp only [decide_eq_true_eq, decide_eq_false_iff_not, Bool.not_eq_true', Bool.not_eq_false', beq_iff_eq, bne_iff_ne, ne_eq, beq_eq_false_iff_ne, bne_eq_false_iff_eq, Int.not_lt, Int.not_le, Bool.true_eq_false, Bool.false_eq_true, tb_one, tb_zero]; omega))) rfl (ltB rfl) ?_)
    | (refine SyL.light (LV.not rfl) Rq.nil (by first | (apply Wn.none; rfl) | (refine Wn.yes rfl rfl rfl ?_; first | assumption | (with_reducible rfl) | decide | (simp only [decide_eq_true_eq, decide_eq_false_iff_not, Bool.not_eq_true', Bool.not_eq_false', beq_iff_eq, bne_iff_ne, ne_eq, beq_eq_false_iff_ne, bne_eq_false_iff_eq, Int.not_lt, Int.not_le, Bool.true_eq_false, Bool.false_eq_true, tb_one, tb_zero]; omega))) rfl (ltB rfl) ?_)
    | (refine SyL.light (LV.pickF rfl (by first | assumption | (with_reducible rfl) | decide | (simp only [decide_eq_true_eq, decide_eq_false_iff_not, Bool.not_eq_true', Bool.not_eq_false', beq_iff_eq, bne_iff_ne, ne_eq, beq_eq_false_iff_ne, bne_eq_false_iff_eq, Int.not_lt, Int.not_le, Bool.true_eq_false, Bool.false_eq_true, tb_one, tb_zero]; omega)) rfl) Rq.nil (by first | (apply Wn.none; rfl) | (refine Wn.yes rfl rfl rfl ?_; first | assumption | (with_reducible rfl) | decide | (simp only [decide_eq_true_eq, decide_eq_false_iff_not, Bool.not_eq_true', Bool.not_eq_false', beq_iff_eq, bne_iff_ne, ne_eq, beq_eq_false_iff_ne, bne_eq_false_iff_eq, Int.not_lt, Int.not_le, Bool.true_eq_false, Bool.false_eq_true, tb_one, tb_zero]; omega))) rfl (ltB rfl) ?_)
    | (refine SyL.heavy (OpT.alloc (by apply rfl) (fun g_ hg_ => ?_)) (by first | (apply Wn.none; rfl) | (refine Wn.yes rfl rfl rfl ?_; first | assumption | (with_reducible rfl) | decide | (simp only [decide_eq_true_eq, decide_eq_false_iff_not, Bool.not_eq_true', Bool.not_eq_false', beq_iff_eq, bne_iff_ne, ne_eq, beq_eq_false_iff_ne, bne_eq_false_iff_eq, Int.not_lt, Int.not_le, Bool.true_eq_false, Bool.false_eq_true, tb_one, tb_zero]; omega))) rfl (ltB rfl))
    | (refine SyL.heavy0 (OpT.storeAll (by apply rfl) (by apply rfl) (k := 0) rfl (by first | (simp; done) | (simp only [List.length_cons, List.length_nil, U32_len]; done) | (simp only [List.length_cons, List.length_nil, U32_len]; omega) | (simp; omega) | omega) (by first | (simp; done) | (simp only [List.length_cons, List.length_nil, U32_len]; done) | (simp only [List.length_cons, List.length_nil, U32_len]; omega) | (simp; omega) | omega) (by first | assumption | simp [Value.oneCell']) ?_) (by first | (apply Wn.none; rfl) | (refine Wn.yes rfl rfl rfl ?_; first | assumption | (with_reducible rfl) | decide | (simp only [decide_eq_true_eq, decide_eq_false_iff_not, Bool.not_eq_true', Bool.not_eq_false', beq_iff_eq, bne_iff_ne, ne_eq, beq_eq_false_iff_ne, bne_eq_false_iff_eq, Int.not_lt, Int.not_le, Bool.true_eq_false, Bool.false_eq_true, tb_one, tb_zero]; omega))) rfl)
    | (refine SyL.heavy (OpT.pcall rfl rfl (h.right) ?_) (by first | (apply Wn.none; rfl) | (refine Wn.yes rfl rfl rfl ?_; first | assumption | (with_reducible rfl) | decide | (simp only [decide_eq_true_eq, decide_eq_false_iff_not, Bool.not_eq_true', Bool.not_eq_false', beq_iff_eq, bne_iff_ne, ne_eq, beq_eq_false_iff_ne, bne_eq_false_iff_eq, Int.not_lt, Int.not_le, Bool.true_eq_false, Bool.false_eq_true, tb_one, tb_zero]; omega))) rfl (ltB rfl); rintro v1 I1 hle1 rfl)
    | (refine SyL.heavy (OpT.pcall rfl rfl (all_c _ n hn B cb o ho (hrd.le hle1)) ?_) (by first | (apply Wn.none; rfl) | (refine Wn.yes rfl rfl rfl ?_; first | assumption | (with_reducible rfl) | decide | (simp only [decide_eq_true_eq, decide_eq_false_iff_not, Bool.not_eq_true', Bool.not_eq_false', beq_iff_eq, bne_iff_ne, ne_eq, beq_eq_false_iff_ne, bne_eq_false_iff_eq, Int.not_lt, Int.not_le, Bool.true_eq_false, Bool.false_eq_true, tb_one, tb_zero]; omega))) rfl (ltB rfl); rintro v2 I2 hle2 ⟨rfl, rfl⟩)
    | (refine SyL.heavy (OpT.pcall rfl rfl ((h.mono hle1).of) ?_) (by first | (apply Wn.none; rfl) | (refine Wn.yes rfl rfl rfl ?_; first | assumption | (with_reducible rfl) | decide | (simp only [decide_eq_true_eq, decide_eq_false_iff_not, Bool.not_eq_true', Bool.not_eq_false', beq_iff_eq, bne_iff_ne, ne_eq, beq_eq_false_iff_ne, bne_eq_false_iff_eq, Int.not_lt, Int.not_le, Bool.true_eq_false, Bool.false_eq_true, tb_one, tb_zero]; omega))) rfl (ltB rfl); rintro v3 I3 hle3 rfl)
    | (refine SyC.condF rfl (by first | assumption | (with_reducible rfl) | decide | (simp only [decide_eq_true_eq, decide_eq_false_iff_not, Bool.not_eq_true', Bool.not_eq_false', beq_iff_eq, bne_iff_ne, ne_eq, beq_eq_false_iff_ne, bne_eq_false_iff_eq, Int.not_lt, Int.not_le, Bool.true_eq_false, Bool.false_eq_true, tb_one, tb_zero]; omega)) ?_))
  unfold played
  generalize GO ss = G at *
  refine SyC.ownNil 34 2 ?_
  refine SyC.perm [.blk g_ 99 (U32 G), .own none 0 34 2 0 []] (List.Perm.swap _ _ _) ?_
  have hrd0 := (hrd.le hle1).le hle3
  refine SyC.loopD (fun m env I' rs => ∃ k C c', m = o.length - k ∧ k ≤ o.length ∧ I3.le I' ∧ rs = [.blk g_ 99 (U32 (oRun ⟨G, 0, []⟩ (o.take k)).G), .own C c' 34 2 (oRun ⟨G, 0, []⟩ (o.take k)).fill.length (P64 (oRun ⟨G, 0, []⟩ (o.take k)).fill)] ∧
    env = [(28, .int .i64 (k : Nat)), (27, .int .i64 (o.length : Nat)), (26, .slice B o.length cb), (9, .pointer (some ⟨g_, 0, none⟩)), (10, .int .i64 ((oRun ⟨G, 0, []⟩ (o.take k)).wid : Nat)), (11, .slice C (oRun ⟨G, 0, []⟩ (o.take k)).fill.length c')]) o.length _ (by repeat (first | exact trivial | refine ⟨rfl, ?_⟩)) ⟨0, _, _, rfl, by omega, IH.le.rfl, rfl, rfl⟩ ?_
  rintro m env I' rs ⟨k, C, c', rfl, hk, hle4, rfl, rfl⟩
  have hr1 := oRun_len ⟨G, 0, []⟩ (o.take k)
  have hr2 := oRun_small ⟨G, 0, []⟩ hsm (o.take k)
  have hr3 := oRun_fill ⟨G, 0, []⟩ (o.take k)
  have hr4 := oRun_wid ⟨G, 0, []⟩ (by simp) (o.take k)
  simp only [List.length_nil, List.length_take] at hr3
  by_cases hlt : k < o.length
  · obtain ⟨ad, rfl⟩ := hrd.addr (by omega)
    have e1 : o[k]? = some (o.getD k 0) := by simp [hlt]
    have hx := ho.lt _ (List.mem_of_getElem? e1)
    have hst := oRun_step (s := ⟨G, 0, []⟩) e1
    have hg := N64_get hlt
    generalize oRun ⟨G, 0, []⟩ (o.take k) = S at hr1 hr2 hr3 hr4 hst
    generalize o.getD k 0 = x at e1 hx hst hg
    simp only at hr1
    have hml := missing_len S.G x
    have hp := popN_le 32 (S.G.getD x 0)
    repeat' (first
      | (refine SyC.seq ?_)
      | (refine SyC.region ?_)
      | (refine SyL.nil ?_)
      | (refine Then.norm ?_)
      | (refine InB.norm ?_)
      | (refine SyC.block ?_)
      | (refine SyC.skip ?_)
      | (refine SyL.light (LV.move rfl) Rq.nil (by first | (apply Wn.none; rfl) | (refine Wn.yes rfl rfl rfl ?_; first | assumption | (with_reducible rfl) | decide | (simp only [decide_eq_true_eq, decide_eq_false_iff_not, Bool.not_eq_true', Bool.not_eq_false', beq_iff_eq, bne_iff_ne, ne_eq, beq_eq_false_iff_ne, bne_eq_false_iff_eq, Int.not_lt, Int.not_le, Bool.true_eq_false, Bool.false_eq_true, tb_one, tb_zero]; omega))) rfl (ltB rfl) ?_)
      | (refine SyL.light (LV.assign rfl) Rq.nil (by first | (apply Wn.none; rfl) | (refine Wn.yes rfl rfl rfl ?_; first | assumption | (with_reducible rfl) | decide | (simp only [decide_eq_true_eq, decide_eq_false_iff_not, Bool.not_eq_true', Bool.not_eq_false', beq_iff_eq, bne_iff_ne, ne_eq, beq_eq_false_iff_ne, bne_eq_false_iff_eq, Int.not_lt, Int.not_le, Bool.true_eq_false, Bool.false_eq_true, tb_one, tb_zero]; omega))) rfl (ltB rfl) ?_)
      | (refine SyL.light (LV.cmp rfl rfl rfl) Rq.nil (by first | (apply Wn.none; rfl) | (refine Wn.yes rfl rfl rfl ?_; first | assumption | (with_reducible rfl) | decide | (simp only [decide_eq_true_eq, decide_eq_false_iff_not, Bool.not_eq_true', Bool.not_eq_false', beq_iff_eq, bne_iff_ne, ne_eq, beq_eq_false_iff_ne, bne_eq_false_iff_eq, Int.not_lt, Int.not_le, Bool.true_eq_false, Bool.false_eq_true, tb_one, tb_zero]; omega))) rfl (ltB rfl) ?_)
      | (refine SyL.light (LV.arN rfl rfl rfl (by simp only [Fits]; omega)) Rq.nil (by first | (apply Wn.none; rfl) | (refine Wn.yes rfl rfl rfl ?_; first | assumption | (with_reducible rfl) | decide | (simp only [decide_eq_true_eq, decide_eq_false_iff_not, Bool.not_eq_true', Bool.not_eq_false', beq_iff_eq, bne_iff_ne, ne_eq, beq_eq_false_iff_ne, bne_eq_false_iff_eq, Int.not_lt, Int.not_le, Bool.true_eq_false, Bool.false_eq_true, tb_one, tb_zero]; omega))) rfl (ltB rfl) ?_)
      | (refine SyL.light (LV.idxN (by apply rfl) (by apply rfl) (by omega)) Rq.nil (by first | (apply Wn.none; rfl) | (refine Wn.yes rfl rfl rfl ?_; first | assumption | (with_reducible rfl) | decide | (simp only [decide_eq_true_eq, decide_eq_false_iff_not, Bool.not_eq_true', Bool.not_eq_false', beq_iff_eq, bne_iff_ne, ne_eq, beq_eq_false_iff_ne, bne_eq_false_iff_eq, Int.not_lt, Int.not_le, Bool.true_eq_false, Bool.false_eq_true, tb_one, tb_zero]; omega))) rfl (ltB rfl) ?_)
      | (refine SyL.light (LV.load rfl) (Rq.imm (RdSl.at (hrd0.le hle4) hg)) (by first | (apply Wn.none; rfl) | (refine Wn.yes rfl rfl rfl ?_; first | assumption | (with_reducible rfl) | decide | (simp only [decide_eq_true_eq, decide_eq_false_iff_not, Bool.not_eq_true', Bool.not_eq_false', beq_iff_eq, bne_iff_ne, ne_eq, beq_eq_false_iff_ne, bne_eq_false_iff_eq, Int.not_lt, Int.not_le, Bool.true_eq_false, Bool.false_eq_true, tb_one, tb_zero]; omega))) rfl (ltB rfl) ?_)
      | (refine SyL.light (LV.max2 rfl rfl) Rq.nil (by first | (apply Wn.none; rfl) | (refine Wn.yes rfl rfl rfl ?_; first | assumption | (with_reducible rfl) | decide | (simp only [decide_eq_true_eq, decide_eq_false_iff_not, Bool.not_eq_true', Bool.not_eq_false', beq_iff_eq, bne_iff_ne, ne_eq, beq_eq_false_iff_ne, bne_eq_false_iff_eq, Int.not_lt, Int.not_le, Bool.true_eq_false, Bool.false_eq_true, tb_one, tb_zero]; omega))) rfl (ltB rfl) ?_)
      | (refine SyL.heavy (OpT.appendR (by apply rfl) (by apply rfl) (k := 1) rfl (hrd6) (by first | assumption | exact P64_one _ | exact N64_one _ | exact U32_one _ | simp [Value.oneCell']) (by first | omega | (simp only [List.length_append, List.length_cons, List.length_nil]; omega)) (by first | omega | (simp only [List.length_append, List.length_cons, List.length_nil]; omega)) (by decide) (fun A_ c_ => ?_)) (by first | (apply Wn.none; rfl) | (refine Wn.yes rfl rfl rfl ?_; first | assumption | (with_reducible rfl) | decide | (simp only [decide_eq_true_eq, decide_eq_false_iff_not, Bool.not_eq_true', Bool.not_eq_false', beq_iff_eq, bne_iff_ne, ne_eq, beq_eq_false_iff_ne, bne_eq_false_iff_eq, Int.not_lt, Int.not_le, Bool.true_eq_false, Bool.false_eq_true, tb_one, tb_zero]; omega))) rfl (ltB rfl))
      | (refine SyL.heavy (OpT.call rfl rfl (deg_c _ g_ x S.G (by omega) hr2 (by omega)) rfl ?_) (by first | (apply Wn.none; rfl) | (refine Wn.yes rfl rfl rfl ?_; first | assumption | (with_reducible rfl) | decide | (simp only [decide_eq_true_eq, decide_eq_false_iff_not, Bool.not_eq_true', Bool.not_eq_false', beq_iff_eq, bne_iff_ne, ne_eq, beq_eq_false_iff_ne, bne_eq_false_iff_eq, Int.not_lt, Int.not_le, Bool.true_eq_false, Bool.false_eq_true, tb_one, tb_zero]; omega))) rfl (ltB rfl); rintro v5 I5 rs5 hle5 ⟨rfl, rfl, rfl⟩)
      | (refine SyL.heavy (OpT.call rfl rfl (elim_c _ g_ x S.G (by omega) hr2 (by omega)) rfl ?_) (by first | (apply Wn.none; rfl) | (refine Wn.yes rfl rfl rfl ?_; first | assumption | (with_reducible rfl) | decide | (simp only [decide_eq_true_eq, decide_eq_false_iff_not, Bool.not_eq_true', Bool.not_eq_false', beq_iff_eq, bne_iff_ne, ne_eq, beq_eq_false_iff_ne, bne_eq_false_iff_eq, Int.not_lt, Int.not_le, Bool.true_eq_false, Bool.false_eq_true, tb_one, tb_zero]; omega))) rfl (ltB rfl); rintro v6 I6 rs6 hle6 ⟨D6, c6, rfl, hrd6, rfl⟩)
      | (refine SyC.condT rfl (by first | assumption | (with_reducible rfl) | decide | (simp only [decide_eq_true_eq, decide_eq_false_iff_not, Bool.not_eq_true', Bool.not_eq_false', beq_iff_eq, bne_iff_ne, ne_eq, beq_eq_false_iff_ne, bne_eq_false_iff_eq, Int.not_lt, Int.not_le, Bool.true_eq_false, Bool.false_eq_true, tb_one, tb_zero]; omega)) ?_))
    have hst' : oRun ⟨G, 0, []⟩ (o.take (k + 1)) = ⟨elimO S.G x, max S.wid (popN 32 (S.G.getD x 0)), S.fill ++ missing S.G x⟩ := by rw [hst]; simp only [oStep]
    have em : (max ((S.wid : Nat) : Int) ((popN 32 (S.G.getD x 0) : Nat) : Int)) = ((max S.wid (popN 32 (S.G.getD x 0)) : Nat) : Int) := by omega
    rw [em, ← P64_app, ← List.length_append]
    exact ⟨o.length - (k + 1), [(28, .int .i64 (k + 1 : Nat)), (27, .int .i64 (o.length : Nat)), (26, .slice (some ad) o.length cb), (9, .pointer (some ⟨g_, 0, none⟩)), (10, .int .i64 (max S.wid (popN 32 (S.G.getD x 0)) : Nat)), (11, .slice A_ (S.fill ++ missing S.G x).length c_)],
      [.blk g_ 99 (U32 (elimO S.G x)), .own A_ c_ 34 2 (S.fill ++ missing S.G x).length (P64 (S.fill ++ missing S.G x))], by omega, (by repeat (first | exact trivial | refine ⟨rfl, ?_⟩)), ⟨k + 1, A_, c_, rfl, by omega, hle4.trans hle6, by rw [hst'], by rw [hst']⟩, (by repeat (first | exact List.Sublist.refl _ | exact List.nil_sublist _ | refine List.Sublist.cons_cons _ ?_ | refine List.Sublist.cons _ ?_))⟩
  · obtain rfl : k = o.length := by omega
    rw [List.take_length] at *
    refine SyC.drop ?_
    refine SyC.freezeOwn fun I7 hle7 hrd7 => ?_
    repeat' (first
      | (refine SyC.seq ?_)
      | (refine SyC.region ?_)
      | (refine SyL.nil ?_)
      | (refine Then.norm ?_)
      | (refine Then.exit ?_)
      | (refine InB.hit ?_)
      | (refine SyC.exit ?_)
      | (refine SyC.ret ?_)
      | (refine SyL.light (LV.move rfl) Rq.nil (by first | (apply Wn.none; rfl) | (refine Wn.yes rfl rfl rfl ?_; first | assumption | (with_reducible rfl) | decide | (simp only [decide_eq_true_eq, decide_eq_false_iff_not, Bool.not_eq_true', Bool.not_eq_false', beq_iff_eq, bne_iff_ne, ne_eq, beq_eq_false_iff_ne, bne_eq_false_iff_eq, Int.not_lt, Int.not_le, Bool.true_eq_false, Bool.false_eq_true, tb_one, tb_zero]; omega))) rfl (ltB rfl) ?_)
      | (refine SyL.light (LV.assign rfl) Rq.nil (by first | (apply Wn.none; rfl) | (refine Wn.yes rfl rfl rfl ?_; first | assumption | (with_reducible rfl) | decide | (simp only [decide_eq_true_eq, decide_eq_false_iff_not, Bool.not_eq_true', Bool.not_eq_false', beq_iff_eq, bne_iff_ne, ne_eq, beq_eq_false_iff_ne, bne_eq_false_iff_eq, Int.not_lt, Int.not_le, Bool.true_eq_false, Bool.false_eq_true, tb_one, tb_zero]; omega))) rfl (ltB rfl) ?_)
      | (refine SyL.light (LV.cmp rfl rfl rfl) Rq.nil (by first | (apply Wn.none; rfl) | (refine Wn.yes rfl rfl rfl ?_; first | assumption | (with_reducible rfl) | decide | (simp only [decide_eq_true_eq, decide_eq_false_iff_not, Bool.not_eq_true', Bool.not_eq_false', beq_iff_eq, bne_iff_ne, ne_eq, beq_eq_false_iff_ne, bne_eq_false_iff_eq, Int.not_lt, Int.not_le, Bool.true_eq_false, Bool.false_eq_true, tb_one, tb_zero]; omega))) rfl (ltB rfl) ?_)
      | (refine SyC.condF rfl (by first | assumption | (with_reducible rfl) | decide | (simp only [decide_eq_true_eq, decide_eq_false_iff_not, Bool.not_eq_true', Bool.not_eq_false', beq_iff_eq, bne_iff_ne, ne_eq, beq_eq_false_iff_ne, bne_eq_false_iff_eq, Int.not_lt, Int.not_le, Bool.true_eq_false, Bool.false_eq_true, tb_one, tb_zero]; omega)) ?_))
    exact Ret.threeS (by simp) Try.results56 (.tmp rfl) (.tmp rfl) (.tmp rfl) (⟨rfl, _, _, rfl, hrd7⟩) (by repeat (first | exact List.Sublist.refl _ | exact List.nil_sublist _ | refine List.Sublist.cons_cons _ ?_ | refine List.Sublist.cons _ ?_))

set_option maxRecDepth 100000 in
theorem Width_c (I : IH) (n : Nat) (A : Option Addr) (c : Nat) (ss : List (List Nat)) (cells : List Value) (h : Args I n A c ss cells) (B : Option Addr) (cb : Nat) (o : List Nat) (ho : Ord n o) (hrd : RdSl I 1 (.slice B o.length cb) o.length (N64 o)) :
    PFn Try.prog 16 #[.int .i64 (n : Int), .slice A ss.length c, .slice B o.length cb] I fun v I' => v = .tuple #[.int .i64 ((played ss o).wid : Nat), .int .i64 0] := by
  refine Fn.intro (n := 21) (args := [.int .i64 (n : Int), .slice A ss.length c, .slice B o.length cb]) (by kernel_rfl) Try.func16 rfl Try.ntmps16 (Nat.le_of_ble_eq_true rfl) [(0, .int .i64 (n : Int)), (1, .slice A ss.length c), (2, .slice B o.length cb)] rfl (fun w0 => ?_)
  repeat' (first
    | (refine SyC.seq ?_)
    | (refine SyC.region ?_)
    | (refine SyL.nil ?_)
    | (refine Then.norm ?_)
    | (refine SyC.ret ?_)
    | (refine SyL.light (LV.move rfl) Rq.nil (.none rfl) rfl (ltB rfl) ?_)
    | (refine SyL.light (LV.assign rfl) Rq.nil (.none rfl) rfl (ltB rfl) ?_)
    | (refine SyL.light (LV.extract rfl rfl) Rq.nil (.none rfl) rfl (ltB rfl) ?_)
    | (refine SyL.heavy (OpT.pcall rfl rfl (played_c _ n A c ss cells h B cb o ho hrd) ?_) (.none rfl) rfl (ltB rfl); rintro v1 I1 hle1 ⟨C, c', rfl, hf⟩))
  refine Ret.two (by simp) Try.results16 (.tmp rfl) (.tmp rfl) ?_
  exact ⟨rfl, rfl⟩
set_option maxRecDepth 100000 in
theorem Fill_c (I : IH) (n : Nat) (A : Option Addr) (c : Nat) (ss : List (List Nat)) (cells : List Value) (h : Args I n A c ss cells) (B : Option Addr) (cb : Nat) (o : List Nat) (ho : Ord n o) (hrd : RdSl I 1 (.slice B o.length cb) o.length (N64 o)) :
    PFn Try.prog 17 #[.int .i64 (n : Int), .slice A ss.length c, .slice B o.length cb] I fun v I' => ∃ C c', v = .tuple #[.slice C (played ss o).fill.length c', .int .i64 0] ∧
      RdSl I' 2 (.slice C (played ss o).fill.length c') (played ss o).fill.length (P64 (played ss o).fill) := by
  refine Fn.intro (n := 21) (args := [.int .i64 (n : Int), .slice A ss.length c, .slice B o.length cb]) (by kernel_rfl) Try.func17 rfl Try.ntmps17 (Nat.le_of_ble_eq_true rfl) [(0, .int .i64 (n : Int)), (1, .slice A ss.length c), (2, .slice B o.length cb)] rfl (fun w0 => ?_)
  repeat' (first
    | (refine SyC.seq ?_)
    | (refine SyC.region ?_)
    | (refine SyL.nil ?_)
    | (refine Then.norm ?_)
    | (refine SyC.ret ?_)
    | (refine SyL.light (LV.move rfl) Rq.nil (.none rfl) rfl (ltB rfl) ?_)
    | (refine SyL.light (LV.assign rfl) Rq.nil (.none rfl) rfl (ltB rfl) ?_)
    | (refine SyL.light (LV.extract rfl rfl) Rq.nil (.none rfl) rfl (ltB rfl) ?_)
    | (refine SyL.heavy (OpT.pcall rfl rfl (played_c _ n A c ss cells h B cb o ho hrd) ?_) (.none rfl) rfl (ltB rfl); rintro v1 I1 hle1 ⟨C, c', rfl, hf⟩))
  refine Ret.two (by simp) Try.results17 (.tmp rfl) (.tmp rfl) ?_
  exact ⟨rfl, _, _, rfl, hf⟩
end Go.Proofs.Ytpgkbipnkkeicaa
