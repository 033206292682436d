import Derived.Test.YtpgkbipnkkeicaaW4
set_option linter.unusedSimpArgs false
set_option linter.unusedVariables false
/-! Lists of pairs. -/
namespace Go.Proofs.Ytpgkbipnkkeicaa
open Go Go.Sx Go.Gr
attribute [local irreducible] popN

def P64 (l : List (Nat × Nat)) : List Value := l.flatMap fun p => [.int .i64 (p.1 : Int), .int .i64 (p.2 : Int)]
theorem P64_cons (p : Nat × Nat) (l : List (Nat × Nat)) : P64 (p :: l) = [.int .i64 (p.1 : Int), .int .i64 (p.2 : Int)] ++ P64 l := by simp [P64]
theorem P64_app (l m : List (Nat × Nat)) : P64 (l ++ m) = P64 l ++ P64 m := by simp [P64]
theorem P64_len (l : List (Nat × Nat)) : (P64 l).length = l.length * 2 := by
  induction l with
  | nil => rfl
  | cons p l ih => rw [P64_cons, List.length_append, ih]; simp; omega
theorem P64_one (l : List (Nat × Nat)) : ∀ v ∈ P64 l, v.oneCell' = true := by
  intro v hv
  simp only [P64, List.mem_flatMap] at hv
  obtain ⟨p, _, h⟩ := hv
  rcases List.mem_cons.1 h with rfl | h
  · rfl
  · simp at h; subst h; rfl
theorem P64_at {l : List (Nat × Nat)} {k a b : Nat} (h : l[k]? = some (a, b)) : (P64 l)[k * 2]? = some (.int .i64 (a : Int)) ∧ (P64 l)[k * 2 + 1]? = some (.int .i64 (b : Int)) := by
  induction l generalizing k with
  | nil => simp at h
  | cons p l ih =>
    rw [P64_cons]
    cases k with
    | zero => simp at h; subst h; simp
    | succ k =>
      simp at h
      have := ih h
      rw [show (k + 1) * 2 = k * 2 + 2 from by omega]
      simpa using this
theorem add_add (ad : Addr) (i j : Nat) : (ad.add i).add j = ad.add (i + j) := by
  obtain ⟨b, o, s⟩ := ad
  cases s with
  | none => simp [add_plain, Nat.add_assoc]
  | some s => simp [Addr.add, Nat.add_assoc]; split <;> split <;> simp_all <;> omega
/-- A pair of a list that is read. -/
theorem rq_pair {I : IH} {rs : List Row} {ad : Addr} {n c k a b : Nat} {l : List (Nat × Nat)} (h : RdSl I 2 (.slice (some ad) n c) n (P64 l)) (hk : l[k]? = some (a, b)) :
    Rq I rs (reqs (ad.add (k * 2)) [.int .i64 (a : Int), .int .i64 (b : Int)]) := by
  obtain ⟨h1, h2⟩ := P64_at hk
  refine Rq.immA fun j u hu => ?_
  rw [add_add]
  match j with
  | 0 => simp at hu; subst hu; exact h.at h1
  | 1 => simp at hu; subst hu; exact h.at h2
  | j + 2 => simp at hu

set_option maxRecDepth 100000 in
theorem eqP_c (I : IH) (A B : Option Addr) (c c' : Nat) (l m : List (Nat × Nat)) (hl : RdSl I 2 (.slice A l.length c) l.length (P64 l)) (hm : RdSl I 2 (.slice B m.length c') m.length (P64 m)) :
    PFn Try.prog 11 #[.slice A l.length c, .slice B m.length c'] I fun v I' => v = .bool (decide (l = m)) ∧ I' = I := by
  have hc := hl.cap
  have hc' := hm.cap
  refine Fn.intro (n := 26) (args := [.slice A l.length c, .slice B m.length c']) (by kernel_rfl) Try.func11 rfl Try.ntmps11 (Nat.le_of_ble_eq_true rfl) [(0, .slice A l.length c), (1, .slice B m.length c')] rfl (fun w0 => ?_)
  by_cases hlen : l.length = m.length
  · repeat' (first
      | (refine SyC.seq ?_)
      | (refine SyC.region ?_)
      | (refine SyL.nil ?_)
      | (refine Then.norm ?_)
      | (refine SyC.block ?_)
      | (refine SyC.skip ?_)
      | (refine SyL.light (LV.move rfl) Rq.nil (.none rfl) rfl (ltB rfl) ?_)
      | (refine SyL.light (LV.assign rfl) Rq.nil (.none rfl) rfl (ltB rfl) ?_)
      | (refine SyL.light (LV.len (by apply rfl)) Rq.nil (.none rfl) rfl (ltB rfl) ?_)
      | (refine SyL.light (LV.cmp rfl rfl rfl) Rq.nil (.none rfl) rfl (ltB rfl) ?_)
      | (refine SyC.condF rfl (by first | assumption | (with_reducible rfl) | decide | (simp only [decide_eq_true_eq, decide_eq_false_iff_not, Bool.not_eq_true', Bool.not_eq_false', beq_iff_eq, bne_iff_ne, ne_eq, beq_eq_false_iff_ne, bne_eq_false_iff_eq, Int.not_lt, Int.not_le, Bool.true_eq_false, Bool.false_eq_true, tb_one, tb_zero]; omega)) ?_))
    refine SyC.loop (fun t env I' rs => ∃ k : Nat, t = l.length - k ∧ k ≤ l.length ∧ l.take k = m.take k ∧ I' = I ∧ rs = [] ∧
      env = [(13, .int .i64 (k : Nat)), (12, .int .i64 (l.length : Nat)), (0, .slice A l.length c), (1, .slice B m.length c')]) l.length _ (by repeat (first | exact trivial | refine ⟨rfl, ?_⟩)) ⟨0, rfl, by omega, rfl, rfl, rfl, rfl⟩ ?_
    rintro t env I' rs ⟨k, rfl, hk, hp, rfl, rfl, rfl⟩
    by_cases hlt : k < l.length
    · obtain ⟨ad, rfl⟩ := hl.addr (by omega)
      obtain ⟨bd, rfl⟩ := hm.addr (by omega)
      have e1 : l[k]? = some (l[k].1, l[k].2) := List.getElem?_eq_getElem hlt
      have e2 : m[k]? = some ((m[k]'(by omega)).1, (m[k]'(by omega)).2) := List.getElem?_eq_getElem (by omega)
      generalize l[k].1 = a at e1
      generalize l[k].2 = b at e1
      generalize (m[k]'(by omega)).1 = a' at e2
      generalize (m[k]'(by omega)).2 = b' at e2
      by_cases hx : a = a' ∧ b = b'
      · obtain ⟨rfl, rfl⟩ := hx
        have hq : (!((a : Int) == a && (b : Int) == b)) = false := by simp
        repeat' (first
          | (refine SyC.seq ?_)
          | (refine SyC.region ?_)
          | (refine SyL.nil ?_)
          | (refine Then.norm ?_)
          | (refine InB.norm ?_)
          | (refine SyC.block ?_)
          | (refine SyC.skip ?_)
          | (refine SyC.draw (id := 6) (by kernel_rfl) (by kernel_rfl) ?_; refine D.light (i := 0) rfl (.on (.none rfl) (LV.move rfl)) Rq.nil (by kernel_rfl) rfl (ltB rfl) ?_; refine D.light (i := 1) rfl (.on (.none rfl) (LV.move rfl)) Rq.nil (by kernel_rfl) rfl (ltB rfl) ?_; refine D.light (i := 2) rfl (.on (.none rfl) (LV.idxNS (by apply rfl) (by apply rfl) (by omega))) Rq.nil (by kernel_rfl) rfl (ltB rfl) ?_; refine D.light (i := 3) rfl (.on (.none rfl) (LV.loadA (by exact rfl) (by exact rfl))) (rq_pair hl e1) (by kernel_rfl) rfl (ltB rfl) ?_; refine D.light (i := 4) rfl (.on (.none rfl) (LV.move rfl)) Rq.nil (by kernel_rfl) rfl (ltB rfl) ?_; refine D.light (i := 5) rfl (.on (.none rfl) (LV.move rfl)) Rq.nil (by kernel_rfl) rfl (ltB rfl) ?_; refine D.light (i := 6) rfl (.on (.none rfl) (LV.idxNS (by apply rfl) (by apply rfl) (by omega))) Rq.nil (by kernel_rfl) rfl (ltB rfl) ?_; refine D.light (i := 7) rfl (.on (.none rfl) (LV.loadA (by exact rfl) (by exact rfl))) (rq_pair hm e2) (by kernel_rfl) rfl (ltB rfl) ?_; refine D.light (i := 8) rfl (.on (.none rfl) (LV.nePair (by kernel_rfl) rfl rfl)) Rq.nil (by kernel_rfl) rfl (ltB rfl) ?_; refine D.fin (by kernel_rfl) ?_)
          | (refine SyL.light (LV.move rfl) Rq.nil (.none rfl) rfl (ltB rfl) ?_)
          | (refine SyL.light (LV.assign rfl) Rq.nil (.none rfl) rfl (ltB rfl) ?_)
          | (refine SyL.light (LV.cmp rfl rfl rfl) Rq.nil (.none rfl) rfl (ltB rfl) ?_)
          | (refine SyL.light (LV.arN rfl rfl rfl (by simp only [Fits]; omega)) Rq.nil (.none rfl) rfl (ltB rfl) ?_)
          | (refine SyC.condT rfl (by first | assumption | (with_reducible rfl) | decide | (simp only [decide_eq_true_eq, decide_eq_false_iff_not, Bool.not_eq_true', Bool.not_eq_false', beq_iff_eq, bne_iff_ne, ne_eq, beq_eq_false_iff_ne, bne_eq_false_iff_eq, Int.not_lt, Int.not_le, Bool.true_eq_false, Bool.false_eq_true, tb_one, tb_zero]; omega)) ?_)
          | (refine SyC.condF rfl (by first | assumption | (with_reducible rfl) | decide | (simp only [decide_eq_true_eq, decide_eq_false_iff_not, Bool.not_eq_true', Bool.not_eq_false', beq_iff_eq, bne_iff_ne, ne_eq, beq_eq_false_iff_ne, bne_eq_false_iff_eq, Int.not_lt, Int.not_le, Bool.true_eq_false, Bool.false_eq_true, tb_one, tb_zero]; omega)) ?_))
        exact ⟨l.length - (k + 1), _, by omega, (by repeat (first | exact trivial | refine ⟨rfl, ?_⟩)), k + 1, rfl, by omega, by rw [List.take_add_one, List.take_add_one, hp, e1, e2], rfl, rfl, rfl⟩
      · have hq : (!((a : Int) == a' && (b : Int) == b')) = true := by
          simp only [Bool.not_eq_true', Bool.and_eq_false_iff, beq_eq_false_iff_ne, ne_eq]
          by_cases h1 : a = a'
          · exact .inr fun h2 => hx ⟨h1, by omega⟩
          · exact .inl fun h2 => h1 (by omega)
        repeat' (first
          | (refine SyC.seq ?_)
          | (refine SyC.region ?_)
          | (refine SyL.nil ?_)
          | (refine Then.norm ?_)
          | (refine Then.ret ?_)
          | (refine InB.ret ?_)
          | (refine SyC.block ?_)
          | (refine SyC.skip ?_)
          | (refine SyC.ret ?_)
          | (refine SyC.draw (id := 6) (by kernel_rfl) (by kernel_rfl) ?_; refine D.light (i := 0) rfl (.on (.none rfl) (LV.move rfl)) Rq.nil (by kernel_rfl) rfl (ltB rfl) ?_; refine D.light (i := 1) rfl (.on (.none rfl) (LV.move rfl)) Rq.nil (by kernel_rfl) rfl (ltB rfl) ?_; refine D.light (i := 2) rfl (.on (.none rfl) (LV.idxNS (by apply rfl) (by apply rfl) (by omega))) Rq.nil (by kernel_rfl) rfl (ltB rfl) ?_; refine D.light (i := 3) rfl (.on (.none rfl) (LV.loadA (by exact rfl) (by exact rfl))) (rq_pair hl e1) (by kernel_rfl) rfl (ltB rfl) ?_; refine D.light (i := 4) rfl (.on (.none rfl) (LV.move rfl)) Rq.nil (by kernel_rfl) rfl (ltB rfl) ?_; refine D.light (i := 5) rfl (.on (.none rfl) (LV.move rfl)) Rq.nil (by kernel_rfl) rfl (ltB rfl) ?_; refine D.light (i := 6) rfl (.on (.none rfl) (LV.idxNS (by apply rfl) (by apply rfl) (by omega))) Rq.nil (by kernel_rfl) rfl (ltB rfl) ?_; refine D.light (i := 7) rfl (.on (.none rfl) (LV.loadA (by exact rfl) (by exact rfl))) (rq_pair hm e2) (by kernel_rfl) rfl (ltB rfl) ?_; refine D.light (i := 8) rfl (.on (.none rfl) (LV.nePair (by kernel_rfl) rfl rfl)) Rq.nil (by kernel_rfl) rfl (ltB rfl) ?_; refine D.fin (by kernel_rfl) ?_)
          | (refine SyL.light (LV.move rfl) Rq.nil (.none rfl) rfl (ltB rfl) ?_)
          | (refine SyL.light (LV.assign rfl) Rq.nil (.none rfl) rfl (ltB rfl) ?_)
          | (refine SyL.light (LV.cmp rfl rfl rfl) Rq.nil (.none rfl) rfl (ltB rfl) ?_)
          | (refine SyC.condT rfl (by first | assumption | (with_reducible rfl) | decide | (simp only [decide_eq_true_eq, decide_eq_false_iff_not, Bool.not_eq_true', Bool.not_eq_false', beq_iff_eq, bne_iff_ne, ne_eq, beq_eq_false_iff_ne, bne_eq_false_iff_eq, Int.not_lt, Int.not_le, Bool.true_eq_false, Bool.false_eq_true, tb_one, tb_zero]; omega)) ?_))
        refine Ret.one (by simp) Try.results11 (.tmp rfl) ?_
        exact ⟨rfl, by rw [decide_eq_false (by rintro rfl; rw [e1] at e2; injection e2 with e2; injection e2 with e2 e3; exact hx ⟨e2, e3⟩)], rfl⟩
    · obtain rfl : k = l.length := by omega
      repeat' (first
        | (refine SyC.seq ?_)
        | (refine SyC.region ?_)
        | (refine SyL.nil ?_)
        | (refine Then.norm ?_)
        | (refine Then.exit ?_)
        | (refine InB.hit ?_)
        | (refine SyC.exit ?_)
        | (refine SyC.ret ?_)
        | (refine SyL.light (LV.assign rfl) Rq.nil (.none rfl) rfl (ltB rfl) ?_)
        | (refine SyL.light (LV.cmp rfl rfl rfl) Rq.nil (.none rfl) rfl (ltB rfl) ?_)
        | (refine SyC.condF rfl (by first | assumption | (with_reducible rfl) | decide | (simp only [decide_eq_true_eq, decide_eq_false_iff_not, Bool.not_eq_true', Bool.not_eq_false', beq_iff_eq, bne_iff_ne, ne_eq, beq_eq_false_iff_ne, bne_eq_false_iff_eq, Int.not_lt, Int.not_le, Bool.true_eq_false, Bool.false_eq_true, tb_one, tb_zero]; omega)) ?_))
      refine Ret.one (by simp) Try.results11 (.tmp rfl) ?_
      rw [List.take_length, hlen, List.take_length] at hp
      exact ⟨rfl, by rw [decide_eq_true hp], rfl⟩
  · repeat' (first
      | (refine SyC.seq ?_)
      | (refine SyC.region ?_)
      | (refine SyL.nil ?_)
      | (refine Then.norm ?_)
      | (refine Then.ret ?_)
      | (refine SyC.ret ?_)
      | (refine SyL.light (LV.move rfl) Rq.nil (.none rfl) rfl (ltB rfl) ?_)
      | (refine SyL.light (LV.assign rfl) Rq.nil (.none rfl) rfl (ltB rfl) ?_)
      | (refine SyL.light (LV.len (by apply rfl)) Rq.nil (.none rfl) rfl (ltB rfl) ?_)
      | (refine SyL.light (LV.cmp rfl rfl rfl) Rq.nil (.none rfl) rfl (ltB rfl) ?_)
      | (refine SyC.condT rfl (by first | assumption | (with_reducible rfl) | decide | (simp only [decide_eq_true_eq, decide_eq_false_iff_not, Bool.not_eq_true', Bool.not_eq_false', beq_iff_eq, bne_iff_ne, ne_eq, beq_eq_false_iff_ne, bne_eq_false_iff_eq, Int.not_lt, Int.not_le, Bool.true_eq_false, Bool.false_eq_true, tb_one, tb_zero]; omega)) ?_))
    refine Ret.one (by simp) Try.results11 (.tmp rfl) ?_
    exact ⟨rfl, by rw [decide_eq_false (by rintro rfl; exact hlen rfl)], rfl⟩

/-- The pairs of a vertex' neighbours that are none themselves. -/
def missP (G : List Nat) (v : Nat) : Nat → Nat → Bool := fun a b => (G.getD v 0).testBit a && (G.getD v 0).testBit b && !(G.getD a 0).testBit b
def missing (G : List Nat) (v : Nat) : List (Nat × Nat) := pairsP (missP G v) 16 16

set_option maxRecDepth 100000 in
set_option maxHeartbeats 4000000 in
theorem missing_c (I : IH) (g v : Nat) (G : List Nat) (hG : G.length = 16) (hs : Small G) (hv : v < 16) :
    Sx.Fn Try.prog 125 #[.pointer (some ⟨g, 0, none⟩), .int .i64 (v : Int)] I [.blk g 99 (U32 G)] fun r I' rs' => ∃ A c, r = .slice A (missing G v).length c ∧ RdSl I' 2 (.slice A (missing G v).length c) (missing G v).length (P64 (missing G v)) ∧ rs' = [.blk g 99 (U32 G)] := by
  unfold missing
  refine Fn.intro (n := 54) (args := [.pointer (some ⟨g, 0, none⟩), .int .i64 (v : Int)]) (by kernel_rfl) Try.func125 rfl Try.ntmps125 (Nat.le_of_ble_eq_true rfl) [(0, .pointer (some ⟨g, 0, none⟩)), (1, .int .i64 (v : Int))] rfl (fun w0 => ?_)
  generalize hp : missP G v = p
  refine SyC.ownNil 34 2 ?_
  repeat' (first
    | (refine SyC.seq ?_)
    | (refine SyC.region ?_)
    | (refine SyL.nil ?_)
    | (refine Then.norm ?_)
    | (refine SyC.block ?_)
    | (refine SyL.light (LV.move rfl) Rq.nil (by first | (apply Wn.none; rfl) | (refine Wn.yes rfl rfl rfl ?_; first | assumption | (with_reducible rfl) | decide | (simp only [decide_eq_true_eq, decide_eq_false_iff_not, Bool.not_eq_true', Bool.not_eq_false', beq_iff_eq, bne_iff_ne, ne_eq, beq_eq_false_iff_ne, bne_eq_false_iff_eq, Int.not_lt, Int.not_le, Bool.true_eq_false, Bool.false_eq_true, tb_one, tb_zero]; omega))) rfl (ltB rfl) ?_)
    | (refine SyL.light (LV.assign rfl) Rq.nil (by first | (apply Wn.none; rfl) | (refine Wn.yes rfl rfl rfl ?_; first | assumption | (with_reducible rfl) | decide | (simp only [decide_eq_true_eq, decide_eq_false_iff_not, Bool.not_eq_true', Bool.not_eq_false', beq_iff_eq, bne_iff_ne, ne_eq, beq_eq_false_iff_ne, bne_eq_false_iff_eq, Int.not_lt, Int.not_le, Bool.true_eq_false, Bool.false_eq_true, tb_one, tb_zero]; omega))) rfl (ltB rfl) ?_))
  refine SyC.loopD (fun m env I' rs => ∃ a A c, m = 16 - a ∧ a ≤ 16 ∧ I' = I ∧ rs = [.own A c 34 2 (pairsP p 16 a).length (P64 (pairsP p 16 a)), .blk g 99 (U32 G)] ∧
    env = [(8, .int .i64 (a : Nat)), (5, .slice A (pairsP p 16 a).length c), (0, .pointer (some ⟨g, 0, none⟩)), (1, .int .i64 (v : Nat))]) 16 _ (by repeat (first | exact trivial | refine ⟨rfl, ?_⟩)) ⟨0, _, _, rfl, by omega, rfl, rfl, rfl⟩ ?_
  rintro m env I' rs ⟨a, A, c, rfl, ha, rfl, rfl, rfl⟩
  have hl1 := pairsP_len p 16 a
  by_cases hlt : a < 16
  · cases hbv : (G.getD v 0).testBit a
    · have hstep : pairsP p 16 (a + 1) = pairsP p 16 a := by rw [pairsP_step, rowP_none p (fun x => by rw [← hp]; simp only [missP, hbv]; rfl), List.append_nil]
      repeat' (first
        | (refine SyC.seq ?_)
        | (refine SyC.region ?_)
        | (refine SyL.nil ?_)
        | (refine Then.norm ?_)
        | (refine Then.exit ?_)
        | (refine InB.hit ?_)
        | (refine SyC.block ?_)
        | (refine SyC.skip ?_)
        | (refine SyC.exit ?_)
        | (refine SyL.light (LV.move rfl) Rq.nil (by first | (apply Wn.none; rfl) | (refine Wn.yes rfl rfl rfl ?_; first | assumption | (with_reducible rfl) | decide | (simp only [decide_eq_true_eq, decide_eq_false_iff_not, Bool.not_eq_true', Bool.not_eq_false', beq_iff_eq, bne_iff_ne, ne_eq, beq_eq_false_iff_ne, bne_eq_false_iff_eq, Int.not_lt, Int.not_le, Bool.true_eq_false, Bool.false_eq_true, tb_one, tb_zero]; omega))) rfl (ltB rfl) ?_)
        | (refine SyL.light (LV.assign rfl) Rq.nil (by first | (apply Wn.none; rfl) | (refine Wn.yes rfl rfl rfl ?_; first | assumption | (with_reducible rfl) | decide | (simp only [decide_eq_true_eq, decide_eq_false_iff_not, Bool.not_eq_true', Bool.not_eq_false', beq_iff_eq, bne_iff_ne, ne_eq, beq_eq_false_iff_ne, bne_eq_false_iff_eq, Int.not_lt, Int.not_le, Bool.true_eq_false, Bool.false_eq_true, tb_one, tb_zero]; omega))) rfl (ltB rfl) ?_)
        | (refine SyL.light (LV.tst rfl rfl rfl) Rq.nil (by first | (apply Wn.none; rfl) | (refine Wn.yes rfl rfl rfl ?_; first | assumption | (with_reducible rfl) | decide | (simp only [decide_eq_true_eq, decide_eq_false_iff_not, Bool.not_eq_true', Bool.not_eq_false', beq_iff_eq, bne_iff_ne, ne_eq, beq_eq_false_iff_ne, bne_eq_false_iff_eq, Int.not_lt, Int.not_le, Bool.true_eq_false, Bool.false_eq_true, tb_one, tb_zero]; omega))) rfl (ltB rfl) ?_)
        | (refine SyL.light (LV.tstEq0 rfl rfl) Rq.nil (by first | (apply Wn.none; rfl) | (refine Wn.yes rfl rfl rfl ?_; first | assumption | (with_reducible rfl) | decide | (simp only [decide_eq_true_eq, decide_eq_false_iff_not, Bool.not_eq_true', Bool.not_eq_false', beq_iff_eq, bne_iff_ne, ne_eq, beq_eq_false_iff_ne, bne_eq_false_iff_eq, Int.not_lt, Int.not_le, Bool.true_eq_false, Bool.false_eq_true, tb_one, tb_zero]; omega))) rfl (ltB rfl) ?_)
        | (refine SyL.light (LV.cmp rfl rfl rfl) Rq.nil (by first | (apply Wn.none; rfl) | (refine Wn.yes rfl rfl rfl ?_; first | assumption | (with_reducible rfl) | decide | (simp only [decide_eq_true_eq, decide_eq_false_iff_not, Bool.not_eq_true', Bool.not_eq_false', beq_iff_eq, bne_iff_ne, ne_eq, beq_eq_false_iff_ne, bne_eq_false_iff_eq, Int.not_lt, Int.not_le, Bool.true_eq_false, Bool.false_eq_true, tb_one, tb_zero]; omega))) rfl (ltB rfl) ?_)
        | (refine SyL.light (LV.arN rfl rfl rfl (by simp only [Fits]; omega)) Rq.nil (by first | (apply Wn.none; rfl) | (refine Wn.yes rfl rfl rfl ?_; first | assumption | (with_reducible rfl) | decide | (simp only [decide_eq_true_eq, decide_eq_false_iff_not, Bool.not_eq_true', Bool.not_eq_false', beq_iff_eq, bne_iff_ne, ne_eq, beq_eq_false_iff_ne, bne_eq_false_iff_eq, Int.not_lt, Int.not_le, Bool.true_eq_false, Bool.false_eq_true, tb_one, tb_zero]; omega))) rfl (ltB rfl) ?_)
        | (refine SyL.light (LV.shrN rfl rfl (by simp only [IntKind.bits]; omega)) Rq.nil (by first | (apply Wn.none; rfl) | (refine Wn.yes rfl rfl rfl ?_; first | assumption | (with_reducible rfl) | decide | (simp only [decide_eq_true_eq, decide_eq_false_iff_not, Bool.not_eq_true', Bool.not_eq_false', beq_iff_eq, bne_iff_ne, ne_eq, beq_eq_false_iff_ne, bne_eq_false_iff_eq, Int.not_lt, Int.not_le, Bool.true_eq_false, Bool.false_eq_true, tb_one, tb_zero]; omega))) rfl (ltB rfl) ?_)
        | (refine SyL.light (LV.nilCheck rfl) Rq.nil (by first | (apply Wn.none; rfl) | (refine Wn.yes rfl rfl rfl ?_; first | assumption | (with_reducible rfl) | decide | (simp only [decide_eq_true_eq, decide_eq_false_iff_not, Bool.not_eq_true', Bool.not_eq_false', beq_iff_eq, bne_iff_ne, ne_eq, beq_eq_false_iff_ne, bne_eq_false_iff_eq, Int.not_lt, Int.not_le, Bool.true_eq_false, Bool.false_eq_true, tb_one, tb_zero]; omega))) rfl (ltB rfl) ?_)
        | (refine SyL.light (LV.idxArrN (by apply rfl) (by apply rfl) (by omega)) Rq.nil (by first | (apply Wn.none; rfl) | (refine Wn.yes rfl rfl rfl ?_; first | assumption | (with_reducible rfl) | decide | (simp only [decide_eq_true_eq, decide_eq_false_iff_not, Bool.not_eq_true', Bool.not_eq_false', beq_iff_eq, bne_iff_ne, ne_eq, beq_eq_false_iff_ne, bne_eq_false_iff_eq, Int.not_lt, Int.not_le, Bool.true_eq_false, Bool.false_eq_true, tb_one, tb_zero]; omega))) rfl (ltB rfl) ?_)
        | (refine SyL.light (LV.load rfl) (Rq.blk (List.mem_of_getElem? (i := 1) rfl) (U32_get (by omega))) (by first | (apply Wn.none; rfl) | (refine Wn.yes rfl rfl rfl ?_; first | assumption | (with_reducible rfl) | decide | (simp only [decide_eq_true_eq, decide_eq_false_iff_not, Bool.not_eq_true', Bool.not_eq_false', beq_iff_eq, bne_iff_ne, ne_eq, beq_eq_false_iff_ne, bne_eq_false_iff_eq, Int.not_lt, Int.not_le, Bool.true_eq_false, Bool.false_eq_true, tb_one, tb_zero]; omega))) rfl (ltB rfl) ?_)
        | (refine SyC.condT rfl (by first | assumption | (with_reducible rfl) | decide | (simp only [decide_eq_true_eq, decide_eq_false_iff_not, Bool.not_eq_true', Bool.not_eq_false', beq_iff_eq, bne_iff_ne, ne_eq, beq_eq_false_iff_ne, bne_eq_false_iff_eq, Int.not_lt, Int.not_le, Bool.true_eq_false, Bool.false_eq_true, tb_one, tb_zero]; omega)) ?_))
      rw [← hstep]
      exact ⟨16 - (a + 1), _, _, by omega, (by repeat (first | exact trivial | refine ⟨rfl, ?_⟩)), ⟨a + 1, A, c, rfl, by omega, rfl, rfl, rfl⟩, (by repeat (first | exact List.Sublist.refl _ | exact List.nil_sublist _ | refine List.Sublist.cons_cons _ ?_ | refine List.Sublist.cons _ ?_))⟩
    · repeat' (first
        | (refine SyC.seq ?_)
        | (refine SyC.region ?_)
        | (refine SyL.nil ?_)
        | (refine Then.norm ?_)
        | (refine SyC.block ?_)
        | (refine SyC.skip ?_)
        | (refine SyL.light (LV.move rfl) Rq.nil (by first | (apply Wn.none; rfl) | (refine Wn.yes rfl rfl rfl ?_; first | assumption | (with_reducible rfl) | decide | (simp only [decide_eq_true_eq, decide_eq_false_iff_not, Bool.not_eq_true', Bool.not_eq_false', beq_iff_eq, bne_iff_ne, ne_eq, beq_eq_false_iff_ne, bne_eq_false_iff_eq, Int.not_lt, Int.not_le, Bool.true_eq_false, Bool.false_eq_true, tb_one, tb_zero]; omega))) rfl (ltB rfl) ?_)
        | (refine SyL.light (LV.assign rfl) Rq.nil (by first | (apply Wn.none; rfl) | (refine Wn.yes rfl rfl rfl ?_; first | assumption | (with_reducible rfl) | decide | (simp only [decide_eq_true_eq, decide_eq_false_iff_not, Bool.not_eq_true', Bool.not_eq_false', beq_iff_eq, bne_iff_ne, ne_eq, beq_eq_false_iff_ne, bne_eq_false_iff_eq, Int.not_lt, Int.not_le, Bool.true_eq_false, Bool.false_eq_true, tb_one, tb_zero]; omega))) rfl (ltB rfl) ?_)
        | (refine SyL.light (LV.tst rfl rfl rfl) Rq.nil (by first | (apply Wn.none; rfl) | (refine Wn.yes rfl rfl rfl ?_; first | assumption | (with_reducible rfl) | decide | (simp only [decide_eq_true_eq, decide_eq_false_iff_not, Bool.not_eq_true', Bool.not_eq_false', beq_iff_eq, bne_iff_ne, ne_eq, beq_eq_false_iff_ne, bne_eq_false_iff_eq, Int.not_lt, Int.not_le, Bool.true_eq_false, Bool.false_eq_true, tb_one, tb_zero]; omega))) rfl (ltB rfl) ?_)
        | (refine SyL.light (LV.tstEq0 rfl rfl) Rq.nil (by first | (apply Wn.none; rfl) | (refine Wn.yes rfl rfl rfl ?_; first | assumption | (with_reducible rfl) | decide | (simp only [decide_eq_true_eq, decide_eq_false_iff_not, Bool.not_eq_true', Bool.not_eq_false', beq_iff_eq, bne_iff_ne, ne_eq, beq_eq_false_iff_ne, bne_eq_false_iff_eq, Int.not_lt, Int.not_le, Bool.true_eq_false, Bool.false_eq_true, tb_one, tb_zero]; omega))) rfl (ltB rfl) ?_)
        | (refine SyL.light (LV.cmp rfl rfl rfl) Rq.nil (by first | (apply Wn.none; rfl) | (refine Wn.yes rfl rfl rfl ?_; first | assumption | (with_reducible rfl) | decide | (simp only [decide_eq_true_eq, decide_eq_false_iff_not, Bool.not_eq_true', Bool.not_eq_false', beq_iff_eq, bne_iff_ne, ne_eq, beq_eq_false_iff_ne, bne_eq_false_iff_eq, Int.not_lt, Int.not_le, Bool.true_eq_false, Bool.false_eq_true, tb_one, tb_zero]; omega))) rfl (ltB rfl) ?_)
        | (refine SyL.light (LV.arN rfl rfl rfl (by simp only [Fits]; omega)) Rq.nil (by first | (apply Wn.none; rfl) | (refine Wn.yes rfl rfl rfl ?_; first | assumption | (with_reducible rfl) | decide | (simp only [decide_eq_true_eq, decide_eq_false_iff_not, Bool.not_eq_true', Bool.not_eq_false', beq_iff_eq, bne_iff_ne, ne_eq, beq_eq_false_iff_ne, bne_eq_false_iff_eq, Int.not_lt, Int.not_le, Bool.true_eq_false, Bool.false_eq_true, tb_one, tb_zero]; omega))) rfl (ltB rfl) ?_)
        | (refine SyL.light (LV.shrN rfl rfl (by simp only [IntKind.bits]; omega)) Rq.nil (by first | (apply Wn.none; rfl) | (refine Wn.yes rfl rfl rfl ?_; first | assumption | (with_reducible rfl) | decide | (simp only [decide_eq_true_eq, decide_eq_false_iff_not, Bool.not_eq_true', Bool.not_eq_false', beq_iff_eq, bne_iff_ne, ne_eq, beq_eq_false_iff_ne, bne_eq_false_iff_eq, Int.not_lt, Int.not_le, Bool.true_eq_false, Bool.false_eq_true, tb_one, tb_zero]; omega))) rfl (ltB rfl) ?_)
        | (refine SyL.light (LV.nilCheck rfl) Rq.nil (by first | (apply Wn.none; rfl) | (refine Wn.yes rfl rfl rfl ?_; first | assumption | (with_reducible rfl) | decide | (simp only [decide_eq_true_eq, decide_eq_false_iff_not, Bool.not_eq_true', Bool.not_eq_false', beq_iff_eq, bne_iff_ne, ne_eq, beq_eq_false_iff_ne, bne_eq_false_iff_eq, Int.not_lt, Int.not_le, Bool.true_eq_false, Bool.false_eq_true, tb_one, tb_zero]; omega))) rfl (ltB rfl) ?_)
        | (refine SyL.light (LV.idxArrN (by apply rfl) (by apply rfl) (by omega)) Rq.nil (by first | (apply Wn.none; rfl) | (refine Wn.yes rfl rfl rfl ?_; first | assumption | (with_reducible rfl) | decide | (simp only [decide_eq_true_eq, decide_eq_false_iff_not, Bool.not_eq_true', Bool.not_eq_false', beq_iff_eq, bne_iff_ne, ne_eq, beq_eq_false_iff_ne, bne_eq_false_iff_eq, Int.not_lt, Int.not_le, Bool.true_eq_false, Bool.false_eq_true, tb_one, tb_zero]; omega))) rfl (ltB rfl) ?_)
        | (refine SyL.light (LV.load rfl) (Rq.blk (List.mem_of_getElem? (i := 1) rfl) (U32_get (by omega))) (by first | (apply Wn.none; rfl) | (refine Wn.yes rfl rfl rfl ?_; first | assumption | (with_reducible rfl) | decide | (simp only [decide_eq_true_eq, decide_eq_false_iff_not, Bool.not_eq_true', Bool.not_eq_false', beq_iff_eq, bne_iff_ne, ne_eq, beq_eq_false_iff_ne, bne_eq_false_iff_eq, Int.not_lt, Int.not_le, Bool.true_eq_false, Bool.false_eq_true, tb_one, tb_zero]; omega))) rfl (ltB rfl) ?_)
        | (refine SyC.condT rfl (by first | assumption | (with_reducible rfl) | decide | (simp only [decide_eq_true_eq, decide_eq_false_iff_not, Bool.not_eq_true', Bool.not_eq_false', beq_iff_eq, bne_iff_ne, ne_eq, beq_eq_false_iff_ne, bne_eq_false_iff_eq, Int.not_lt, Int.not_le, Bool.true_eq_false, Bool.false_eq_true, tb_one, tb_zero]; omega)) ?_)
        | (refine SyC.condF rfl (by first | assumption | (with_reducible rfl) | decide | (simp only [decide_eq_true_eq, decide_eq_false_iff_not, Bool.not_eq_true', Bool.not_eq_false', beq_iff_eq, bne_iff_ne, ne_eq, beq_eq_false_iff_ne, bne_eq_false_iff_eq, Int.not_lt, Int.not_le, Bool.true_eq_false, Bool.false_eq_true, tb_one, tb_zero]; omega)) ?_))
      have hstepa := pairsP_step p 16 a
      generalize pairsP p 16 a = L at hl1 hstepa
      refine SyC.loopD (fun m env I'' rs => ∃ b A c, m = 16 - b ∧ a + 1 ≤ b ∧ b ≤ 16 ∧ I'' = I' ∧ rs = [.own A c 34 2 (L ++ rowP p a b).length (P64 (L ++ rowP p a b)), .blk g 99 (U32 G)] ∧
        env = [(7, .int .i64 (b : Nat)), (6, .int .i64 (a : Nat)), (8, .int .i64 (a : Nat)), (5, .slice A (L ++ rowP p a b).length c), (0, .pointer (some ⟨g, 0, none⟩)), (1, .int .i64 (v : Nat))])
        (16 - (a + 1)) [(7, .int .i64 (a + 1 : Nat)), (6, .int .i64 (a : Nat)), (8, .int .i64 (a : Nat)), (5, .slice A L.length c), (0, .pointer (some ⟨g, 0, none⟩)), (1, .int .i64 (v : Nat))] (by repeat (first | exact trivial | refine ⟨rfl, ?_⟩))
        ⟨a + 1, A, c, rfl, by omega, by omega, rfl, by rw [rowP_zero, List.append_nil], by rw [rowP_zero, List.append_nil]⟩ ?_
      rintro m env I'' rs ⟨b, A, c, rfl, hb1, hb2, rfl, rfl, rfl⟩
      have hl2 := rowP_len p a b
      have hl3 : (L ++ rowP p a b).length = L.length + (rowP p a b).length := List.length_append
      by_cases hbt : b < 16
      · have hst := rowP_step p hb1
        have hpv : p a b = ((G.getD v 0).testBit a && (G.getD v 0).testBit b && !(G.getD a 0).testBit b) := by rw [← hp]; rfl
        by_cases hpb : p a b = true
        · rw [hpb] at hpv
          have hpv' := hpv.symm
          simp only [Bool.and_eq_true, Bool.not_eq_true'] at hpv'
          obtain ⟨⟨_, c1⟩, c2⟩ := hpv'
          rw [hpb, if_pos rfl] at hst
          generalize hM : L ++ rowP p a b = M at hl3
          have e1 : P64 (M ++ [(a, b)]) = P64 M ++ [.int .i64 (a : Int), .int .i64 (b : Int)] := by rw [P64_app]; rfl
          have e2 : (M ++ [(a, b)]).length = M.length + 1 := by simp
          have e3 : L ++ rowP p a (b + 1) = M ++ [(a, b)] := by rw [hst, ← List.append_assoc, hM]
          repeat' (first
            | (refine SyC.seq ?_)
            | (refine SyC.region ?_)
            | (refine SyL.nil ?_)
            | (refine Then.norm ?_)
            | (refine InB.norm ?_)
            | (refine SyC.block ?_)
            | (refine SyC.skip ?_)
            | (refine SyL.light (LV.move rfl) Rq.nil (by first | (apply Wn.none; rfl) | (refine Wn.yes rfl rfl rfl ?_; first | assumption | (with_reducible rfl) | decide | (simp only [decide_eq_true_eq, decide_eq_false_iff_not, Bool.not_eq_true', Bool.not_eq_false', beq_iff_eq, bne_iff_ne, ne_eq, beq_eq_false_iff_ne, bne_eq_false_iff_eq, Int.not_lt, Int.not_le, Bool.true_eq_false, Bool.false_eq_true, tb_one, tb_zero]; omega))) rfl (ltB rfl) ?_)
            | (refine SyL.light (LV.assign rfl) Rq.nil (by first | (apply Wn.none; rfl) | (refine Wn.yes rfl rfl rfl ?_; first | assumption | (with_reducible rfl) | decide | (simp only [decide_eq_true_eq, decide_eq_false_iff_not, Bool.not_eq_true', Bool.not_eq_false', beq_iff_eq, bne_iff_ne, ne_eq, beq_eq_false_iff_ne, bne_eq_false_iff_eq, Int.not_lt, Int.not_le, Bool.true_eq_false, Bool.false_eq_true, tb_one, tb_zero]; omega))) rfl (ltB rfl) ?_)
            | (refine SyL.light (LV.tst rfl rfl rfl) Rq.nil (by first | (apply Wn.none; rfl) | (refine Wn.yes rfl rfl rfl ?_; first | assumption | (with_reducible rfl) | decide | (simp only [decide_eq_true_eq, decide_eq_false_iff_not, Bool.not_eq_true', Bool.not_eq_false', beq_iff_eq, bne_iff_ne, ne_eq, beq_eq_false_iff_ne, bne_eq_false_iff_eq, Int.not_lt, Int.not_le, Bool.true_eq_false, Bool.false_eq_true, tb_one, tb_zero]; omega))) rfl (ltB rfl) ?_)
            | (refine SyL.light (LV.tstEq1 rfl rfl) Rq.nil (by first | (apply Wn.none; rfl) | (refine Wn.yes rfl rfl rfl ?_; first | assumption | (with_reducible rfl) | decide | (simp only [decide_eq_true_eq, decide_eq_false_iff_not, Bool.not_eq_true', Bool.not_eq_false', beq_iff_eq, bne_iff_ne, ne_eq, beq_eq_false_iff_ne, bne_eq_false_iff_eq, Int.not_lt, Int.not_le, Bool.true_eq_false, Bool.false_eq_true, tb_one, tb_zero]; omega))) rfl (ltB rfl) ?_)
            | (refine SyL.light (LV.tstEq0 rfl rfl) Rq.nil (by first | (apply Wn.none; rfl) | (refine Wn.yes rfl rfl rfl ?_; first | assumption | (with_reducible rfl) | decide | (simp only [decide_eq_true_eq, decide_eq_false_iff_not, Bool.not_eq_true', Bool.not_eq_false', beq_iff_eq, bne_iff_ne, ne_eq, beq_eq_false_iff_ne, bne_eq_false_iff_eq, Int.not_lt, Int.not_le, Bool.true_eq_false, Bool.false_eq_true, tb_one, tb_zero]; omega))) rfl (ltB rfl) ?_)
            | (refine SyL.light (LV.cmp rfl rfl rfl) Rq.nil (by first | (apply Wn.none; rfl) | (refine Wn.yes rfl rfl rfl ?_; first | assumption | (with_reducible rfl) | decide | (simp only [decide_eq_true_eq, decide_eq_false_iff_not, Bool.not_eq_true', Bool.not_eq_false', beq_iff_eq, bne_iff_ne, ne_eq, beq_eq_false_iff_ne, bne_eq_false_iff_eq, Int.not_lt, Int.not_le, Bool.true_eq_false, Bool.false_eq_true, tb_one, tb_zero]; omega))) rfl (ltB rfl) ?_)
            | (refine SyL.light (LV.arN rfl rfl rfl (by simp only [Fits]; omega)) Rq.nil (by first | (apply Wn.none; rfl) | (refine Wn.yes rfl rfl rfl ?_; first | assumption | (with_reducible rfl) | decide | (simp only [decide_eq_true_eq, decide_eq_false_iff_not, Bool.not_eq_true', Bool.not_eq_false', beq_iff_eq, bne_iff_ne, ne_eq, beq_eq_false_iff_ne, bne_eq_false_iff_eq, Int.not_lt, Int.not_le, Bool.true_eq_false, Bool.false_eq_true, tb_one, tb_zero]; omega))) rfl (ltB rfl) ?_)
            | (refine SyL.light (LV.shrN rfl rfl (by simp only [IntKind.bits]; omega)) Rq.nil (by first | (apply Wn.none; rfl) | (refine Wn.yes rfl rfl rfl ?_; first | assumption | (with_reducible rfl) | decide | (simp only [decide_eq_true_eq, decide_eq_false_iff_not, Bool.not_eq_true', Bool.not_eq_false', beq_iff_eq, bne_iff_ne, ne_eq, beq_eq_false_iff_ne, bne_eq_false_iff_eq, Int.not_lt, Int.not_le, Bool.true_eq_false, Bool.false_eq_true, tb_one, tb_zero]; omega))) rfl (ltB rfl) ?_)
            | (refine SyL.light (LV.nilCheck rfl) Rq.nil (by first | (apply Wn.none; rfl) | (refine Wn.yes rfl rfl rfl ?_; first | assumption | (with_reducible rfl) | decide | (simp only [decide_eq_true_eq, decide_eq_false_iff_not, Bool.not_eq_true', Bool.not_eq_false', beq_iff_eq, bne_iff_ne, ne_eq, beq_eq_false_iff_ne, bne_eq_false_iff_eq, Int.not_lt, Int.not_le, Bool.true_eq_false, Bool.false_eq_true, tb_one, tb_zero]; omega))) rfl (ltB rfl) ?_)
            | (refine SyL.light (LV.pickT rfl (by first | assumption | (with_reducible rfl) | decide | (simp only [decide_eq_true_eq, decide_eq_false_iff_not, Bool.not_eq_true', Bool.not_eq_false', beq_iff_eq, bne_iff_ne, ne_eq, beq_eq_false_iff_ne, bne_eq_false_iff_eq, Int.not_lt, Int.not_le, Bool.true_eq_false, Bool.false_eq_true, tb_one, tb_zero]; omega)) rfl) Rq.nil (by first | (apply Wn.none; rfl) | (refine Wn.yes rfl rfl rfl ?_; first | assumption | (with_reducible rfl) | decide | (simp only [decide_eq_true_eq, decide_eq_false_iff_not, Bool.not_eq_true', Bool.not_eq_false', beq_iff_eq, bne_iff_ne, ne_eq, beq_eq_false_iff_ne, bne_eq_false_iff_eq, Int.not_lt, Int.not_le, Bool.true_eq_false, Bool.false_eq_true, tb_one, tb_zero]; omega))) rfl (ltB rfl) ?_)
            | (refine SyL.light (LV.idxArrN (by apply rfl) (by apply rfl) (by omega)) Rq.nil (by first | (apply Wn.none; rfl) | (refine Wn.yes rfl rfl rfl ?_; first | assumption | (with_reducible rfl) | decide | (simp only [decide_eq_true_eq, decide_eq_false_iff_not, Bool.not_eq_true', Bool.not_eq_false', beq_iff_eq, bne_iff_ne, ne_eq, beq_eq_false_iff_ne, bne_eq_false_iff_eq, Int.not_lt, Int.not_le, Bool.true_eq_false, Bool.false_eq_true, tb_one, tb_zero]; omega))) rfl (ltB rfl) ?_)
            | (refine SyL.light (LV.load rfl) (Rq.blk (List.mem_of_getElem? (i := 1) rfl) (U32_get (by omega))) (by first | (apply Wn.none; rfl) | (refine Wn.yes rfl rfl rfl ?_; first | assumption | (with_reducible rfl) | decide | (simp only [decide_eq_true_eq, decide_eq_false_iff_not, Bool.not_eq_true', Bool.not_eq_false', beq_iff_eq, bne_iff_ne, ne_eq, beq_eq_false_iff_ne, bne_eq_false_iff_eq, Int.not_lt, Int.not_le, Bool.true_eq_false, Bool.false_eq_true, tb_one, tb_zero]; omega))) rfl (ltB rfl) ?_)
            | (refine SyL.light (LV.buildArr (xs := [_, _]) (vs := [_, _]) rfl rfl rfl (by simp [Value.cells])) Rq.nil (by first | (apply Wn.none; rfl) | (refine Wn.yes rfl rfl rfl ?_; first | assumption | (with_reducible rfl) | decide | (simp only [decide_eq_true_eq, decide_eq_false_iff_not, Bool.not_eq_true', Bool.not_eq_false', beq_iff_eq, bne_iff_ne, ne_eq, beq_eq_false_iff_ne, bne_eq_false_iff_eq, Int.not_lt, Int.not_le, Bool.true_eq_false, Bool.false_eq_true, tb_one, tb_zero]; omega))) rfl (ltB rfl) ?_)
            | (refine SyL.heavy (OpT.buildSlice1 (by apply rfl) (by apply rfl) (by apply rfl) (by decide) (by decide) (fun g_ hg_ => ?_)) (by first | (apply Wn.none; rfl) | (refine Wn.yes rfl rfl rfl ?_; first | assumption | (with_reducible rfl) | decide | (simp only [decide_eq_true_eq, decide_eq_false_iff_not, Bool.not_eq_true', Bool.not_eq_false', beq_iff_eq, bne_iff_ne, ne_eq, beq_eq_false_iff_ne, bne_eq_false_iff_eq, Int.not_lt, Int.not_le, Bool.true_eq_false, Bool.false_eq_true, tb_one, tb_zero]; omega))) rfl (ltB rfl))
            | (refine SyL.heavy (OpT.append (by apply rfl) (by apply rfl) (k := 1) rfl (by first | (simp; done) | (simp only [List.length_cons, List.length_nil]; done) | (simp only [List.length_cons, List.length_nil]; omega) | (simp; omega) | omega) (Rq.blkAll (List.mem_of_getElem? (i := 0) rfl)) (by simp [Value.oneCell']) (by first | omega | (simp only [List.length_append, List.length_cons, List.length_nil]; omega)) (by first | omega | (simp only [List.length_append, List.length_cons, List.length_nil]; omega)) (by decide) (fun A_ c_ => ?_)) (by first | (apply Wn.none; rfl) | (refine Wn.yes rfl rfl rfl ?_; first | assumption | (with_reducible rfl) | decide | (simp only [decide_eq_true_eq, decide_eq_false_iff_not, Bool.not_eq_true', Bool.not_eq_false', beq_iff_eq, bne_iff_ne, ne_eq, beq_eq_false_iff_ne, bne_eq_false_iff_eq, Int.not_lt, Int.not_le, Bool.true_eq_false, Bool.false_eq_true, tb_one, tb_zero]; omega))) rfl (ltB rfl))
            | (refine SyC.condT rfl (by first | assumption | (with_reducible rfl) | decide | (simp only [decide_eq_true_eq, decide_eq_false_iff_not, Bool.not_eq_true', Bool.not_eq_false', beq_iff_eq, bne_iff_ne, ne_eq, beq_eq_false_iff_ne, bne_eq_false_iff_eq, Int.not_lt, Int.not_le, Bool.true_eq_false, Bool.false_eq_true, tb_one, tb_zero]; omega)) ?_))
          rw [← e1, ← e2, ← e3]
          exact ⟨16 - (b + 1), _, _, by omega, (by repeat (first | exact trivial | refine ⟨rfl, ?_⟩)), ⟨b + 1, A_, c_, rfl, by omega, by omega, rfl, rfl, rfl⟩, (by repeat (first | exact List.Sublist.refl _ | exact List.nil_sublist _ | refine List.Sublist.cons_cons _ ?_ | refine List.Sublist.cons _ ?_))⟩
        · have hpf : p a b = false := by simpa using hpb
          rw [hpf] at hst hpv
          simp only [Bool.false_eq_true, if_false, List.append_nil] at hst
          rw [← hst]
          cases c1 : (G.getD v 0).testBit b
          · repeat' (first
              | (refine SyC.seq ?_)
              | (refine SyC.region ?_)
              | (refine SyL.nil ?_)
              | (refine Then.norm ?_)
              | (refine InB.norm ?_)
              | (refine SyC.block ?_)
              | (refine SyC.skip ?_)
              | (refine SyL.light (LV.move rfl) Rq.nil (by first | (apply Wn.none; rfl) | (refine Wn.yes rfl rfl rfl ?_; first | assumption | (with_reducible rfl) | decide | (simp only [decide_eq_true_eq, decide_eq_false_iff_not, Bool.not_eq_true', Bool.not_eq_false', beq_iff_eq, bne_iff_ne, ne_eq, beq_eq_false_iff_ne, bne_eq_false_iff_eq, Int.not_lt, Int.not_le, Bool.true_eq_false, Bool.false_eq_true, tb_one, tb_zero]; omega))) rfl (ltB rfl) ?_)
              | (refine SyL.light (LV.assign rfl) Rq.nil (by first | (apply Wn.none; rfl) | (refine Wn.yes rfl rfl rfl ?_; first | assumption | (with_reducible rfl) | decide | (simp only [decide_eq_true_eq, decide_eq_false_iff_not, Bool.not_eq_true', Bool.not_eq_false', beq_iff_eq, bne_iff_ne, ne_eq, beq_eq_false_iff_ne, bne_eq_false_iff_eq, Int.not_lt, Int.not_le, Bool.true_eq_false, Bool.false_eq_true, tb_one, tb_zero]; omega))) rfl (ltB rfl) ?_)
              | (refine SyL.offT rfl rfl rfl (by first | assumption | (with_reducible rfl) | decide | (simp only [decide_eq_true_eq, decide_eq_false_iff_not, Bool.not_eq_true', Bool.not_eq_false', beq_iff_eq, bne_iff_ne, ne_eq, beq_eq_false_iff_ne, bne_eq_false_iff_eq, Int.not_lt, Int.not_le, Bool.true_eq_false, Bool.false_eq_true, tb_one, tb_zero]; omega)) rfl (ltB rfl) ?_)
              | (refine SyL.light (LV.tst rfl rfl rfl) Rq.nil (by first | (apply Wn.none; rfl) | (refine Wn.yes rfl rfl rfl ?_; first | assumption | (with_reducible rfl) | decide | (simp only [decide_eq_true_eq, decide_eq_false_iff_not, Bool.not_eq_true', Bool.not_eq_false', beq_iff_eq, bne_iff_ne, ne_eq, beq_eq_false_iff_ne, bne_eq_false_iff_eq, Int.not_lt, Int.not_le, Bool.true_eq_false, Bool.false_eq_true, tb_one, tb_zero]; omega))) rfl (ltB rfl) ?_)
              | (refine SyL.light (LV.tstEq1 rfl rfl) Rq.nil (by first | (apply Wn.none; rfl) | (refine Wn.yes rfl rfl rfl ?_; first | assumption | (with_reducible rfl) | decide | (simp only [decide_eq_true_eq, decide_eq_false_iff_not, Bool.not_eq_true', Bool.not_eq_false', beq_iff_eq, bne_iff_ne, ne_eq, beq_eq_false_iff_ne, bne_eq_false_iff_eq, Int.not_lt, Int.not_le, Bool.true_eq_false, Bool.false_eq_true, tb_one, tb_zero]; omega))) rfl (ltB rfl) ?_)
              | (refine SyL.light (LV.cmp rfl rfl rfl) Rq.nil (by first | (apply Wn.none; rfl) | (refine Wn.yes rfl rfl rfl ?_; first | assumption | (with_reducible rfl) | decide | (simp only [decide_eq_true_eq, decide_eq_false_iff_not, Bool.not_eq_true', Bool.not_eq_false', beq_iff_eq, bne_iff_ne, ne_eq, beq_eq_false_iff_ne, bne_eq_false_iff_eq, Int.not_lt, Int.not_le, Bool.true_eq_false, Bool.false_eq_true, tb_one, tb_zero]; omega))) rfl (ltB rfl) ?_)
              | (refine SyL.light (LV.arN rfl rfl rfl (by simp only [Fits]; omega)) Rq.nil (by first | (apply Wn.none; rfl) | (refine Wn.yes rfl rfl rfl ?_; first | assumption | (with_reducible rfl) | decide | (simp only [decide_eq_true_eq, decide_eq_false_iff_not, Bool.not_eq_true', Bool.not_eq_false', beq_iff_eq, bne_iff_ne, ne_eq, beq_eq_false_iff_ne, bne_eq_false_iff_eq, Int.not_lt, Int.not_le, Bool.true_eq_false, Bool.false_eq_true, tb_one, tb_zero]; omega))) rfl (ltB rfl) ?_)
              | (refine SyL.light (LV.shrN rfl rfl (by simp only [IntKind.bits]; omega)) Rq.nil (by first | (apply Wn.none; rfl) | (refine Wn.yes rfl rfl rfl ?_; first | assumption | (with_reducible rfl) | decide | (simp only [decide_eq_true_eq, decide_eq_false_iff_not, Bool.not_eq_true', Bool.not_eq_false', beq_iff_eq, bne_iff_ne, ne_eq, beq_eq_false_iff_ne, bne_eq_false_iff_eq, Int.not_lt, Int.not_le, Bool.true_eq_false, Bool.false_eq_true, tb_one, tb_zero]; omega))) rfl (ltB rfl) ?_)
              | (refine SyL.light (LV.nilCheck rfl) Rq.nil (by first | (apply Wn.none; rfl) | (refine Wn.yes rfl rfl rfl ?_; first | assumption | (with_reducible rfl) | decide | (simp only [decide_eq_true_eq, decide_eq_false_iff_not, Bool.not_eq_true', Bool.not_eq_false', beq_iff_eq, bne_iff_ne, ne_eq, beq_eq_false_iff_ne, bne_eq_false_iff_eq, Int.not_lt, Int.not_le, Bool.true_eq_false, Bool.false_eq_true, tb_one, tb_zero]; omega))) rfl (ltB rfl) ?_)
              | (refine SyL.light (LV.pickF rfl (by first | assumption | (with_reducible rfl) | decide | (simp only [decide_eq_true_eq, decide_eq_false_iff_not, Bool.not_eq_true', Bool.not_eq_false', beq_iff_eq, bne_iff_ne, ne_eq, beq_eq_false_iff_ne, bne_eq_false_iff_eq, Int.not_lt, Int.not_le, Bool.true_eq_false, Bool.false_eq_true, tb_one, tb_zero]; omega)) rfl) Rq.nil (by first | (apply Wn.none; rfl) | (refine Wn.yes rfl rfl rfl ?_; first | assumption | (with_reducible rfl) | decide | (simp only [decide_eq_true_eq, decide_eq_false_iff_not, Bool.not_eq_true', Bool.not_eq_false', beq_iff_eq, bne_iff_ne, ne_eq, beq_eq_false_iff_ne, bne_eq_false_iff_eq, Int.not_lt, Int.not_le, Bool.true_eq_false, Bool.false_eq_true, tb_one, tb_zero]; omega))) rfl (ltB rfl) ?_)
              | (refine SyL.light (LV.idxArrN (by apply rfl) (by apply rfl) (by omega)) Rq.nil (by first | (apply Wn.none; rfl) | (refine Wn.yes rfl rfl rfl ?_; first | assumption | (with_reducible rfl) | decide | (simp only [decide_eq_true_eq, decide_eq_false_iff_not, Bool.not_eq_true', Bool.not_eq_false', beq_iff_eq, bne_iff_ne, ne_eq, beq_eq_false_iff_ne, bne_eq_false_iff_eq, Int.not_lt, Int.not_le, Bool.true_eq_false, Bool.false_eq_true, tb_one, tb_zero]; omega))) rfl (ltB rfl) ?_)
              | (refine SyL.light (LV.load rfl) (Rq.blk (List.mem_of_getElem? (i := 1) rfl) (U32_get (by omega))) (by first | (apply Wn.none; rfl) | (refine Wn.yes rfl rfl rfl ?_; first | assumption | (with_reducible rfl) | decide | (simp only [decide_eq_true_eq, decide_eq_false_iff_not, Bool.not_eq_true', Bool.not_eq_false', beq_iff_eq, bne_iff_ne, ne_eq, beq_eq_false_iff_ne, bne_eq_false_iff_eq, Int.not_lt, Int.not_le, Bool.true_eq_false, Bool.false_eq_true, tb_one, tb_zero]; omega))) rfl (ltB rfl) ?_)
              | (refine SyC.condT rfl (by first | assumption | (with_reducible rfl) | decide | (simp only [decide_eq_true_eq, decide_eq_false_iff_not, Bool.not_eq_true', Bool.not_eq_false', beq_iff_eq, bne_iff_ne, ne_eq, beq_eq_false_iff_ne, bne_eq_false_iff_eq, Int.not_lt, Int.not_le, Bool.true_eq_false, Bool.false_eq_true, tb_one, tb_zero]; omega)) ?_)
              | (refine SyC.condF rfl (by first | assumption | (with_reducible rfl) | decide | (simp only [decide_eq_true_eq, decide_eq_false_iff_not, Bool.not_eq_true', Bool.not_eq_false', beq_iff_eq, bne_iff_ne, ne_eq, beq_eq_false_iff_ne, bne_eq_false_iff_eq, Int.not_lt, Int.not_le, Bool.true_eq_false, Bool.false_eq_true, tb_one, tb_zero]; omega)) ?_))
            exact ⟨16 - (b + 1), _, _, by omega, (by repeat (first | exact trivial | refine ⟨rfl, ?_⟩)), ⟨b + 1, A, c, rfl, by omega, by omega, rfl, rfl, rfl⟩, (by repeat (first | exact List.Sublist.refl _ | exact List.nil_sublist _ | refine List.Sublist.cons_cons _ ?_ | refine List.Sublist.cons _ ?_))⟩
          · have c2 : (G.getD a 0).testBit b = true := by
              rw [hbv, c1] at hpv
              simpa using hpv
            repeat' (first
              | (refine SyC.seq ?_)
              | (refine SyC.region ?_)
              | (refine SyL.nil ?_)
              | (refine Then.norm ?_)
              | (refine InB.norm ?_)
              | (refine SyC.block ?_)
              | (refine SyC.skip ?_)
              | (refine SyL.light (LV.move rfl) Rq.nil (by first | (apply Wn.none; rfl) | (refine Wn.yes rfl rfl rfl ?_; first | assumption | (with_reducible rfl) | decide | (simp only [decide_eq_true_eq, decide_eq_false_iff_not, Bool.not_eq_true', Bool.not_eq_false', beq_iff_eq, bne_iff_ne, ne_eq, beq_eq_false_iff_ne, bne_eq_false_iff_eq, Int.not_lt, Int.not_le, Bool.true_eq_false, Bool.false_eq_true, tb_one, tb_zero]; omega))) rfl (ltB rfl) ?_)
              | (refine SyL.light (LV.assign rfl) Rq.nil (by first | (apply Wn.none; rfl) | (refine Wn.yes rfl rfl rfl ?_; first | assumption | (with_reducible rfl) | decide | (simp only [decide_eq_true_eq, decide_eq_false_iff_not, Bool.not_eq_true', Bool.not_eq_false', beq_iff_eq, bne_iff_ne, ne_eq, beq_eq_false_iff_ne, bne_eq_false_iff_eq, Int.not_lt, Int.not_le, Bool.true_eq_false, Bool.false_eq_true, tb_one, tb_zero]; omega))) rfl (ltB rfl) ?_)
              | (refine SyL.light (LV.tst rfl rfl rfl) Rq.nil (by first | (apply Wn.none; rfl) | (refine Wn.yes rfl rfl rfl ?_; first | assumption | (with_reducible rfl) | decide | (simp only [decide_eq_true_eq, decide_eq_false_iff_not, Bool.not_eq_true', Bool.not_eq_false', beq_iff_eq, bne_iff_ne, ne_eq, beq_eq_false_iff_ne, bne_eq_false_iff_eq, Int.not_lt, Int.not_le, Bool.true_eq_false, Bool.false_eq_true, tb_one, tb_zero]; omega))) rfl (ltB rfl) ?_)
              | (refine SyL.light (LV.tstEq1 rfl rfl) Rq.nil (by first | (apply Wn.none; rfl) | (refine Wn.yes rfl rfl rfl ?_; first | assumption | (with_reducible rfl) | decide | (simp only [decide_eq_true_eq, decide_eq_false_iff_not, Bool.not_eq_true', Bool.not_eq_false', beq_iff_eq, bne_iff_ne, ne_eq, beq_eq_false_iff_ne, bne_eq_false_iff_eq, Int.not_lt, Int.not_le, Bool.true_eq_false, Bool.false_eq_true, tb_one, tb_zero]; omega))) rfl (ltB rfl) ?_)
              | (refine SyL.light (LV.tstEq0 rfl rfl) Rq.nil (by first | (apply Wn.none; rfl) | (refine Wn.yes rfl rfl rfl ?_; first | assumption | (with_reducible rfl) | decide | (simp only [decide_eq_true_eq, decide_eq_false_iff_not, Bool.not_eq_true', Bool.not_eq_false', beq_iff_eq, bne_iff_ne, ne_eq, beq_eq_false_iff_ne, bne_eq_false_iff_eq, Int.not_lt, Int.not_le, Bool.true_eq_false, Bool.false_eq_true, tb_one, tb_zero]; omega))) rfl (ltB rfl) ?_)
              | (refine SyL.light (LV.cmp rfl rfl rfl) Rq.nil (by first | (apply Wn.none; rfl) | (refine Wn.yes rfl rfl rfl ?_; first | assumption | (with_reducible rfl) | decide | (simp only [decide_eq_true_eq, decide_eq_false_iff_not, Bool.not_eq_true', Bool.not_eq_false', beq_iff_eq, bne_iff_ne, ne_eq, beq_eq_false_iff_ne, bne_eq_false_iff_eq, Int.not_lt, Int.not_le, Bool.true_eq_false, Bool.false_eq_true, tb_one, tb_zero]; omega))) rfl (ltB rfl) ?_)
              | (refine SyL.light (LV.arN rfl rfl rfl (by simp only [Fits]; omega)) Rq.nil (by first | (apply Wn.none; rfl) | (refine Wn.yes rfl rfl rfl ?_; first | assumption | (with_reducible rfl) | decide | (simp only [decide_eq_true_eq, decide_eq_false_iff_not, Bool.not_eq_true', Bool.not_eq_false', beq_iff_eq, bne_iff_ne, ne_eq, beq_eq_false_iff_ne, bne_eq_false_iff_eq, Int.not_lt, Int.not_le, Bool.true_eq_false, Bool.false_eq_true, tb_one, tb_zero]; omega))) rfl (ltB rfl) ?_)
              | (refine SyL.light (LV.shrN rfl rfl (by simp only [IntKind.bits]; omega)) Rq.nil (by first | (apply Wn.none; rfl) | (refine Wn.yes rfl rfl rfl ?_; first | assumption | (with_reducible rfl) | decide | (simp only [decide_eq_true_eq, decide_eq_false_iff_not, Bool.not_eq_true', Bool.not_eq_false', beq_iff_eq, bne_iff_ne, ne_eq, beq_eq_false_iff_ne, bne_eq_false_iff_eq, Int.not_lt, Int.not_le, Bool.true_eq_false, Bool.false_eq_true, tb_one, tb_zero]; omega))) rfl (ltB rfl) ?_)
              | (refine SyL.light (LV.nilCheck rfl) Rq.nil (by first | (apply Wn.none; rfl) | (refine Wn.yes rfl rfl rfl ?_; first | assumption | (with_reducible rfl) | decide | (simp only [decide_eq_true_eq, decide_eq_false_iff_not, Bool.not_eq_true', Bool.not_eq_false', beq_iff_eq, bne_iff_ne, ne_eq, beq_eq_false_iff_ne, bne_eq_false_iff_eq, Int.not_lt, Int.not_le, Bool.true_eq_false, Bool.false_eq_true, tb_one, tb_zero]; omega))) rfl (ltB rfl) ?_)
              | (refine SyL.light (LV.pickT rfl (by first | assumption | (with_reducible rfl) | decide | (simp only [decide_eq_true_eq, decide_eq_false_iff_not, Bool.not_eq_true', Bool.not_eq_false', beq_iff_eq, bne_iff_ne, ne_eq, beq_eq_false_iff_ne, bne_eq_false_iff_eq, Int.not_lt, Int.not_le, Bool.true_eq_false, Bool.false_eq_true, tb_one, tb_zero]; omega)) rfl) Rq.nil (by first | (apply Wn.none; rfl) | (refine Wn.yes rfl rfl rfl ?_; first | assumption | (with_reducible rfl) | decide | (simp only [decide_eq_true_eq, decide_eq_false_iff_not, Bool.not_eq_true', Bool.not_eq_false', beq_iff_eq, bne_iff_ne, ne_eq, beq_eq_false_iff_ne, bne_eq_false_iff_eq, Int.not_lt, Int.not_le, Bool.true_eq_false, Bool.false_eq_true, tb_one, tb_zero]; omega))) rfl (ltB rfl) ?_)
              | (refine SyL.light (LV.idxArrN (by apply rfl) (by apply rfl) (by omega)) Rq.nil (by first | (apply Wn.none; rfl) | (refine Wn.yes rfl rfl rfl ?_; first | assumption | (with_reducible rfl) | decide | (simp only [decide_eq_true_eq, decide_eq_false_iff_not, Bool.not_eq_true', Bool.not_eq_false', beq_iff_eq, bne_iff_ne, ne_eq, beq_eq_false_iff_ne, bne_eq_false_iff_eq, Int.not_lt, Int.not_le, Bool.true_eq_false, Bool.false_eq_true, tb_one, tb_zero]; omega))) rfl (ltB rfl) ?_)
              | (refine SyL.light (LV.load rfl) (Rq.blk (List.mem_of_getElem? (i := 1) rfl) (U32_get (by omega))) (by first | (apply Wn.none; rfl) | (refine Wn.yes rfl rfl rfl ?_; first | assumption | (with_reducible rfl) | decide | (simp only [decide_eq_true_eq, decide_eq_false_iff_not, Bool.not_eq_true', Bool.not_eq_false', beq_iff_eq, bne_iff_ne, ne_eq, beq_eq_false_iff_ne, bne_eq_false_iff_eq, Int.not_lt, Int.not_le, Bool.true_eq_false, Bool.false_eq_true, tb_one, tb_zero]; omega))) rfl (ltB rfl) ?_)
              | (refine SyC.condT rfl (by first | assumption | (with_reducible rfl) | decide | (simp only [decide_eq_true_eq, decide_eq_false_iff_not, Bool.not_eq_true', Bool.not_eq_false', beq_iff_eq, bne_iff_ne, ne_eq, beq_eq_false_iff_ne, bne_eq_false_iff_eq, Int.not_lt, Int.not_le, Bool.true_eq_false, Bool.false_eq_true, tb_one, tb_zero]; omega)) ?_)
              | (refine SyC.condF rfl (by first | assumption | (with_reducible rfl) | decide | (simp only [decide_eq_true_eq, decide_eq_false_iff_not, Bool.not_eq_true', Bool.not_eq_false', beq_iff_eq, bne_iff_ne, ne_eq, beq_eq_false_iff_ne, bne_eq_false_iff_eq, Int.not_lt, Int.not_le, Bool.true_eq_false, Bool.false_eq_true, tb_one, tb_zero]; omega)) ?_))
            exact ⟨16 - (b + 1), _, _, by omega, (by repeat (first | exact trivial | refine ⟨rfl, ?_⟩)), ⟨b + 1, A, c, rfl, by omega, by omega, rfl, rfl, rfl⟩, (by repeat (first | exact List.Sublist.refl _ | exact List.nil_sublist _ | refine List.Sublist.cons_cons _ ?_ | refine List.Sublist.cons _ ?_))⟩
      · obtain rfl : b = 16 := by omega
        rw [← hstepa]
        repeat' (first
          | (refine SyC.seq ?_)
          | (refine SyC.region ?_)
          | (refine SyL.nil ?_)
          | (refine Then.norm ?_)
          | (refine Then.exit ?_)
          | (refine InB.norm ?_)
          | (refine InB.hit ?_)
          | (refine SyC.exit ?_)
          | (refine SyL.light (LV.move rfl) Rq.nil (by first | (apply Wn.none; rfl) | (refine Wn.yes rfl rfl rfl ?_; first | assumption | (with_reducible rfl) | decide | (simp only [decide_eq_true_eq, decide_eq_false_iff_not, Bool.not_eq_true', Bool.not_eq_false', beq_iff_eq, bne_iff_ne, ne_eq, beq_eq_false_iff_ne, bne_eq_false_iff_eq, Int.not_lt, Int.not_le, Bool.true_eq_false, Bool.false_eq_true, tb_one, tb_zero]; omega))) rfl (ltB rfl) ?_)
          | (refine SyL.light (LV.cmp rfl rfl rfl) Rq.nil (by first | (apply Wn.none; rfl) | (refine Wn.yes rfl rfl rfl ?_; first | assumption | (with_reducible rfl) | decide | (simp only [decide_eq_true_eq, decide_eq_false_iff_not, Bool.not_eq_true', Bool.not_eq_false', beq_iff_eq, bne_iff_ne, ne_eq, beq_eq_false_iff_ne, bne_eq_false_iff_eq, Int.not_lt, Int.not_le, Bool.true_eq_false, Bool.false_eq_true, tb_one, tb_zero]; omega))) rfl (ltB rfl) ?_)
          | (refine SyL.light (LV.arN rfl rfl rfl (by simp only [Fits]; omega)) Rq.nil (by first | (apply Wn.none; rfl) | (refine Wn.yes rfl rfl rfl ?_; first | assumption | (with_reducible rfl) | decide | (simp only [decide_eq_true_eq, decide_eq_false_iff_not, Bool.not_eq_true', Bool.not_eq_false', beq_iff_eq, bne_iff_ne, ne_eq, beq_eq_false_iff_ne, bne_eq_false_iff_eq, Int.not_lt, Int.not_le, Bool.true_eq_false, Bool.false_eq_true, tb_one, tb_zero]; omega))) rfl (ltB rfl) ?_)
          | (refine SyC.condF rfl (by first | assumption | (with_reducible rfl) | decide | (simp only [decide_eq_true_eq, decide_eq_false_iff_not, Bool.not_eq_true', Bool.not_eq_false', beq_iff_eq, bne_iff_ne, ne_eq, beq_eq_false_iff_ne, bne_eq_false_iff_eq, Int.not_lt, Int.not_le, Bool.true_eq_false, Bool.false_eq_true, tb_one, tb_zero]; omega)) ?_))
        exact ⟨16 - (a + 1), _, _, by omega, (by repeat (first | exact trivial | refine ⟨rfl, ?_⟩)), ⟨a + 1, A, c, rfl, by omega, rfl, rfl, rfl⟩, (by repeat (first | exact List.Sublist.refl _ | exact List.nil_sublist _ | refine List.Sublist.cons_cons _ ?_ | refine List.Sublist.cons _ ?_))⟩
  · obtain rfl : a = 16 := by omega
    refine SyC.freezeOwn fun I2 hle2 hrd => ?_
    repeat' (first
      | (refine SyC.seq ?_)
      | (refine SyC.region ?_)
      | (refine SyL.nil ?_)
      | (refine Then.norm ?_)
      | (refine Then.exit ?_)
      | (refine InB.hit ?_)
      | (refine SyC.exit ?_)
      | (refine SyC.ret ?_)
      | (refine SyL.light (LV.move rfl) Rq.nil (by first | (apply Wn.none; rfl) | (refine Wn.yes rfl rfl rfl ?_; first | assumption | (with_reducible rfl) | decide | (simp only [decide_eq_true_eq, decide_eq_false_iff_not, Bool.not_eq_true', Bool.not_eq_false', beq_iff_eq, bne_iff_ne, ne_eq, beq_eq_false_iff_ne, bne_eq_false_iff_eq, Int.not_lt, Int.not_le, Bool.true_eq_false, Bool.false_eq_true, tb_one, tb_zero]; omega))) rfl (ltB rfl) ?_)
      | (refine SyL.light (LV.assign rfl) Rq.nil (by first | (apply Wn.none; rfl) | (refine Wn.yes rfl rfl rfl ?_; first | assumption | (with_reducible rfl) | decide | (simp only [decide_eq_true_eq, decide_eq_false_iff_not, Bool.not_eq_true', Bool.not_eq_false', beq_iff_eq, bne_iff_ne, ne_eq, beq_eq_false_iff_ne, bne_eq_false_iff_eq, Int.not_lt, Int.not_le, Bool.true_eq_false, Bool.false_eq_true, tb_one, tb_zero]; omega))) rfl (ltB rfl) ?_)
      | (refine SyL.light (LV.cmp rfl rfl rfl) Rq.nil (by first | (apply Wn.none; rfl) | (refine Wn.yes rfl rfl rfl ?_; first | assumption | (with_reducible rfl) | decide | (simp only [decide_eq_true_eq, decide_eq_false_iff_not, Bool.not_eq_true', Bool.not_eq_false', beq_iff_eq, bne_iff_ne, ne_eq, beq_eq_false_iff_ne, bne_eq_false_iff_eq, Int.not_lt, Int.not_le, Bool.true_eq_false, Bool.false_eq_true, tb_one, tb_zero]; omega))) rfl (ltB rfl) ?_)
      | (refine SyC.condF rfl (by first | assumption | (with_reducible rfl) | decide | (simp only [decide_eq_true_eq, decide_eq_false_iff_not, Bool.not_eq_true', Bool.not_eq_false', beq_iff_eq, bne_iff_ne, ne_eq, beq_eq_false_iff_ne, bne_eq_false_iff_eq, Int.not_lt, Int.not_le, Bool.true_eq_false, Bool.false_eq_true, tb_one, tb_zero]; omega)) ?_))
    exact Ret.oneS (by simp) Try.results125 (.tmp rfl) (⟨A, c, rfl, hrd, rfl⟩) (by repeat (first | exact List.Sublist.refl _ | exact List.nil_sublist _ | refine List.Sublist.cons_cons _ ?_ | refine List.Sublist.cons _ ?_))
end Go.Proofs.Ytpgkbipnkkeicaa
