import Derived.Test.YtpgkbipnkkeicaaW6
set_option linter.unusedSimpArgs false
set_option linter.unusedVariables false
/-! Vertices are taken out. -/
namespace Go.Gr
def addPair (G : List Nat) (p : Nat × Nat) : List Nat := (G.set p.1 (G.getD p.1 0 ||| 2 ^ p.2)).set p.2 ((G.set p.1 (G.getD p.1 0 ||| 2 ^ p.2)).getD p.2 0 ||| 2 ^ p.1)
def addP (G : List Nat) (l : List (Nat × Nat)) : List Nat := l.foldl addPair G
theorem addPair_len (G : List Nat) (p : Nat × Nat) : (addPair G p).length = G.length := by simp [addPair]
theorem addP_len (G : List Nat) (l : List (Nat × Nat)) : (addP G l).length = G.length := by
  unfold addP
  induction l generalizing G with
  | nil => rfl
  | cons p l ih => rw [List.foldl_cons, ih, addPair_len]
theorem Small.set {G : List Nat} (h : Small G) (a x : Nat) (hx : x < 65536) : Small (G.set a x) := fun y hy => by
  rcases List.mem_or_eq_of_mem_set hy with h1 | h1
  · exact h y h1
  · omega
theorem or_small {x b : Nat} (hx : x < 65536) (hb : b < 16) : x ||| 2 ^ b < 65536 := Nat.or_lt_two_pow (n := 16) hx (Nat.pow_lt_pow_right (by omega) hb)
theorem Small.addPair {G : List Nat} (h : Small G) {p : Nat × Nat} (h1 : p.1 < 16) (h2 : p.2 < 16) : Small (addPair G p) :=
  (h.set _ _ (or_small (h.getD _) h2)).set _ _ (or_small ((h.set _ _ (or_small (h.getD _) h2)).getD _) h1)
theorem Small.addP {G : List Nat} (h : Small G) {l : List (Nat × Nat)} (hl : ∀ p ∈ l, p.1 < 16 ∧ p.2 < 16) : Small (addP G l) := by
  unfold Gr.addP
  induction l generalizing G with
  | nil => exact h
  | cons p l ih => exact ih (h.addPair (hl p (.head _)).1 (hl p (.head _)).2) fun q hq => hl q (.tail _ hq)
theorem addP_step {G : List Nat} {l : List (Nat × Nat)} {k : Nat} {p : Nat × Nat} (h : l[k]? = some p) : addP G (l.take (k + 1)) = addPair (addP G (l.take k)) p := by
  unfold addP
  have hk : k < l.length := (List.getElem?_eq_some_iff.1 h).1
  rw [List.take_add_one, h]
  simp
def clr (x v : Nat) : Nat := x &&& (4294967295 - 2 ^ v)
def cutK (G : List Nat) (v k : Nat) : List Nat := (List.range k).foldl (fun G a => G.set a (clr (G.getD a 0) v)) G
def cut (G : List Nat) (v : Nat) : List Nat := (cutK G v 16).set v 0
theorem cutK_step (G : List Nat) (v k : Nat) : cutK G v (k + 1) = (cutK G v k).set k (clr ((cutK G v k).getD k 0) v) := by
  unfold cutK; rw [List.range_succ, List.foldl_append]; rfl
theorem cutK_len (G : List Nat) (v k : Nat) : (cutK G v k).length = G.length := by
  induction k with
  | zero => rfl
  | succ k ih => rw [cutK_step, List.length_set, ih]
theorem cut_len (G : List Nat) (v : Nat) : (cut G v).length = G.length := by unfold cut; rw [List.length_set, cutK_len]
theorem clr_le (x v : Nat) : clr x v ≤ x := Nat.and_le_left
theorem Small.cutK {G : List Nat} (h : Small G) (v k : Nat) : Small (cutK G v k) := by
  induction k with
  | zero => exact h
  | succ k ih => rw [cutK_step]; exact ih.set _ _ (Nat.lt_of_le_of_lt (clr_le _ _) (ih.getD k))
theorem Small.cut {G : List Nat} (h : Small G) (v : Nat) : Small (cut G v) := (h.cutK v 16).set _ _ (by omega)
end Go.Gr
namespace Go.Proofs.Ytpgkbipnkkeicaa
open Go Go.Sx Go.Gr
attribute [local irreducible] popN

def elimO (G : List Nat) (v : Nat) : List Nat := cut (addP G (missing G v)) v
theorem missing_lt {G : List Nat} {v : Nat} {p : Nat × Nat} (h : p ∈ missing G v) : p.1 < 16 ∧ p.2 < 16 := by
  have := mem_pairsP h
  omega
theorem pairs_lt {G : List Nat} {v left : Nat} {p : Nat × Nat} (h : p ∈ pairs G v left) : p.1 < G.length ∧ p.2 < G.length := by
  have := mem_pairsP h
  omega

set_option maxRecDepth 100000 in
set_option maxHeartbeats 4000000 in
theorem cut_c (I : IH) (g v : Nat) (G : List Nat) (hG : G.length = 16) (hs : Small G) (hv : v < 16) :
    Sx.Fn Try.prog 128 #[.pointer (some ⟨g, 0, none⟩), .int .i64 (v : Int)] I [.blk g 99 (U32 G)] fun r I' rs' => I' = I ∧ rs' = [.blk g 99 (U32 (cut G v))] := by
  refine Fn.intro (n := 23) (args := [.pointer (some ⟨g, 0, none⟩), .int .i64 (v : Int)]) (by kernel_rfl) Try.func128 rfl Try.ntmps128 (Nat.le_of_ble_eq_true rfl) [(0, .pointer (some ⟨g, 0, none⟩)), (1, .int .i64 (v : Int))] rfl (fun w0 => ?_)
  repeat' (first
    | (refine SyC.seq ?_)
    | (refine SyC.region ?_)
    | (refine SyL.nil ?_)
    | (refine Then.norm ?_)
    | (refine SyC.block ?_)
    | (refine SyL.light (LV.move rfl) Rq.nil (.none rfl) rfl (ltB rfl) ?_))
  refine SyC.loop (fun m env I' rs => ∃ a, m = 16 - a ∧ a ≤ 16 ∧ I' = I ∧ rs = [.blk g 99 (U32 (cutK G v a))] ∧
    env = [(5, .int .i64 (a : Nat)), (0, .pointer (some ⟨g, 0, none⟩)), (1, .int .i64 (v : Nat))]) 16 _ (by repeat (first | exact trivial | refine ⟨rfl, ?_⟩)) ⟨0, rfl, by omega, rfl, rfl, rfl⟩ ?_
  rintro m env I' rs ⟨a, rfl, ha, rfl, rfl, rfl⟩
  have hl := cutK_len G v a
  have hst := cutK_step G v a
  have hsm := hs.cutK v a
  by_cases hlt : a < 16
  · generalize cutK G v a = H at hl hst hsm
    have hsa := hsm.getD a
    repeat' (first
      | (refine SyC.seq ?_)
      | (refine SyC.region ?_)
      | (refine SyL.nil ?_)
      | (refine Then.norm ?_)
      | (refine InB.norm ?_)
      | (refine SyC.block ?_)
      | (refine SyC.skip ?_)
      | (refine SyC.draw (id := 3) (by kernel_rfl) (by kernel_rfl) ?_; refine D.light (i := 0) rfl (.on (.none rfl) (LV.move rfl)) Rq.nil (by kernel_rfl) rfl (ltB rfl) ?_; refine D.light (i := 1) rfl (.on (.none rfl) (LV.move rfl)) Rq.nil (by kernel_rfl) rfl (ltB rfl) ?_; refine D.light (i := 2) rfl (.on (.none rfl) (LV.nilCheck rfl)) Rq.nil (by kernel_rfl) rfl (ltB rfl) ?_; refine D.light (i := 3) rfl (.on (.none rfl) (LV.idxArrN (by apply rfl) (by apply rfl) (by omega))) Rq.nil (by kernel_rfl) rfl (ltB rfl) ?_; refine D.light (i := 4) rfl (.on (.none rfl) (LV.load rfl)) (Rq.blk (List.mem_of_getElem? (i := 0) rfl) (U32_get (by omega))) (by kernel_rfl) rfl (ltB rfl) ?_; refine D.light (i := 5) rfl (.on (.none rfl) (LV.move rfl)) Rq.nil (by kernel_rfl) rfl (ltB rfl) ?_; refine D.light (i := 6) rfl (.on (.none rfl) (LV.shl1 rfl rfl rfl (by simp only [IntKind.bits]; omega))) Rq.nil (by kernel_rfl) rfl (ltB rfl) ?_; refine D.light (i := 7) rfl (.on (.none rfl) (LV.bitsN rfl rfl rfl rfl (by first | (simp only [IntKind.bits]; omega) | exact pow32 (by omega) | assumption) (by first | (simp only [IntKind.bits]; omega) | exact pow32 (by omega) | assumption))) Rq.nil (by kernel_rfl) rfl (ltB rfl) ?_; refine D.light (i := 8) rfl (.on (.none rfl) (LV.nilCheck rfl)) Rq.nil (by kernel_rfl) rfl (ltB rfl) ?_; refine D.light (i := 9) rfl (.on (.none rfl) (LV.idxArrN (by apply rfl) (by apply rfl) (by omega))) Rq.nil (by kernel_rfl) rfl (ltB rfl) ?_; refine D.heavy0 (i := 10) rfl (OpT.store rfl rfl rfl (k := 0) rfl (by first | (simp; done) | (simp only [List.length_cons, List.length_nil, U32_len]; done) | (simp only [List.length_cons, List.length_nil, U32_len]; omega) | (simp; omega) | omega) ?_) (.none rfl) (by kernel_rfl) (by kernel_rfl) rfl (chg_bits (by kernel_rfl)); refine D.fin (by kernel_rfl) ?_)
      | (refine SyL.light (LV.move rfl) Rq.nil (.none rfl) rfl (ltB rfl) ?_)
      | (refine SyL.light (LV.assign rfl) Rq.nil (.none rfl) rfl (ltB rfl) ?_)
      | (refine SyL.light (LV.cmp rfl rfl rfl) Rq.nil (.none rfl) rfl (ltB rfl) ?_)
      | (refine SyL.light (LV.arN rfl rfl rfl (by simp only [Fits]; omega)) Rq.nil (.none rfl) rfl (ltB rfl) ?_)
      | (refine SyC.condT rfl (by first | assumption | (with_reducible rfl) | decide | (simp only [decide_eq_true_eq, decide_eq_false_iff_not, Bool.not_eq_true', Bool.not_eq_false', beq_iff_eq, bne_iff_ne, ne_eq, beq_eq_false_iff_ne, bne_eq_false_iff_eq, Int.not_lt, Int.not_le, Bool.true_eq_false, Bool.false_eq_true, tb_one, tb_zero]; omega)) ?_))
    exact ⟨16 - (a + 1), _, by omega, (by repeat (first | exact trivial | refine ⟨rfl, ?_⟩)), a + 1, rfl, by omega, rfl, by rw [hst, ← U32_set]; rfl, rfl⟩
  · obtain rfl : a = 16 := by omega
    repeat' (first
      | (refine SyC.seq ?_)
      | (refine SyC.region ?_)
      | (refine SyL.nil ?_)
      | (refine Then.norm ?_)
      | (refine Then.exit ?_)
      | (refine InB.hit ?_)
      | (refine SyC.exit ?_)
      | (refine SyL.light (LV.move rfl) Rq.nil (.none rfl) rfl (ltB rfl) ?_)
      | (refine SyL.light (LV.cmp rfl rfl rfl) Rq.nil (.none rfl) rfl (ltB rfl) ?_)
      | (refine SyL.light (LV.nilCheck rfl) Rq.nil (.none rfl) rfl (ltB rfl) ?_)
      | (refine SyL.light (LV.idxArrN (by apply rfl) (by apply rfl) (by omega)) Rq.nil (.none rfl) rfl (ltB rfl) ?_)
      | (refine SyL.heavy0 (OpT.store rfl rfl rfl (k := 0) rfl (by first | (simp; done) | (simp only [List.length_cons, List.length_nil, U32_len]; done) | (simp only [List.length_cons, List.length_nil, U32_len]; omega) | (simp; omega) | omega) ?_) (.none rfl) rfl)
      | (refine SyC.condF rfl (by first | assumption | (with_reducible rfl) | decide | (simp only [decide_eq_true_eq, decide_eq_false_iff_not, Bool.not_eq_true', Bool.not_eq_false', beq_iff_eq, bne_iff_ne, ne_eq, beq_eq_false_iff_ne, bne_eq_false_iff_eq, Int.not_lt, Int.not_le, Bool.true_eq_false, Bool.false_eq_true, tb_one, tb_zero]; omega)) ?_))
    refine Ret.zero (by simp) Try.results128 ⟨rfl, ?_⟩
    unfold Gr.cut
    rw [← U32_set]
    rfl

set_option maxRecDepth 100000 in
set_option maxHeartbeats 4000000 in
theorem elim_c (I : IH) (g v : Nat) (G : List Nat) (hG : G.length = 16) (hs : Small G) (hv : v < 16) :
    Sx.Fn Try.prog 122 #[.pointer (some ⟨g, 0, none⟩), .int .i64 (v : Int)] I [.blk g 99 (U32 G)] fun r I' rs' => ∃ A c, r = .slice A (missing G v).length c ∧ RdSl I' 2 (.slice A (missing G v).length c) (missing G v).length (P64 (missing G v)) ∧ rs' = [.blk g 99 (U32 (elimO G v))] := by
  refine Fn.intro (n := 46) (args := [.pointer (some ⟨g, 0, none⟩), .int .i64 (v : Int)]) (by kernel_rfl) Try.func122 rfl Try.ntmps122 (Nat.le_of_ble_eq_true rfl) [(0, .pointer (some ⟨g, 0, none⟩)), (1, .int .i64 (v : Int))] rfl (fun w0 => ?_)
  repeat' (first
    | (refine SyC.seq ?_)
    | (refine SyC.region ?_)
    | (refine SyL.nil ?_)
    | (refine Then.norm ?_)
    | (refine SyC.block ?_)
    | (refine SyL.light (LV.move rfl) Rq.nil (.none rfl) rfl (ltB rfl) ?_)
    | (refine SyL.light (LV.assign rfl) Rq.nil (.none rfl) rfl (ltB rfl) ?_)
    | (refine SyL.light (LV.len (by apply rfl)) Rq.nil (.none rfl) rfl (ltB rfl) ?_)
    | (refine SyL.heavy (OpT.call rfl rfl (missing_c _ g v G hG hs hv) rfl ?_) (.none rfl) rfl (ltB rfl); rintro v1 I1 rs1 hle1 ⟨A1, c1, rfl, hrd, rfl⟩))
  unfold elimO
  have hml : ∀ p ∈ missing G v, p.1 < 16 ∧ p.2 < 16 := fun p hp => missing_lt hp
  generalize missing G v = l at hrd hml
  have hcap := hrd.cap
  refine SyC.loopD (fun m env I' rs => ∃ k, m = l.length - k ∧ k ≤ l.length ∧ I' = I1 ∧ rs = [.blk g 99 (U32 (addP G (l.take k)))] ∧
    env = [(13, .int .i64 (k : Nat)), (12, .int .i64 (l.length : Nat)), (11, .slice A1 l.length c1), (5, .slice A1 l.length c1), (0, .pointer (some ⟨g, 0, none⟩)), (1, .int .i64 (v : Nat))]) l.length _ (by repeat (first | exact trivial | refine ⟨rfl, ?_⟩)) ⟨0, rfl, by omega, rfl, rfl, rfl⟩ ?_
  rintro m env I' rs ⟨k, rfl, hk, rfl, rfl, rfl⟩
  have hl := addP_len G (l.take k)
  have hsm : Small (addP G (l.take k)) := hs.addP fun p hp => hml p (List.mem_of_mem_take hp)
  by_cases hlt : k < l.length
  · obtain ⟨ad, rfl⟩ := hrd.addr (by omega)
    have hp : l[k]? = some (l[k].1, l[k].2) := List.getElem?_eq_getElem hlt
    have hab := hml _ (List.getElem_mem hlt)
    have hst := addP_step (G := G) hp
    generalize l[k].1 = a at hp hab hst
    generalize l[k].2 = b at hp hab hst
    generalize addP G (l.take k) = H at hl hst hsm
    have hsa := hsm.getD a
    have hs2 := (hsm.set a (H.getD a 0 ||| 2 ^ b) (or_small hsa hab.2)).getD b
    obtain ⟨ha, hb⟩ := hab
    repeat' (first
      | (refine SyC.seq ?_)
      | (refine SyC.region ?_)
      | (refine SyL.nil ?_)
      | (refine Then.norm ?_)
      | (refine InB.norm ?_)
      | (refine SyC.block ?_)
      | (refine SyC.skip ?_)
      | (refine SyC.draw (id := 5) (by kernel_rfl) (by kernel_rfl) ?_; refine D.light (i := 0) rfl (.on (.none rfl) (LV.move rfl)) Rq.nil (by kernel_rfl) rfl (ltB rfl) ?_; refine D.light (i := 1) rfl (.on (.none rfl) (LV.idxArr (by apply rfl) (by apply rfl) (by omega) (by omega))) Rq.nil (by kernel_rfl) rfl (ltB rfl) ?_; refine D.light (i := 2) rfl (.on (.none rfl) (LV.load rfl)) (Rq.blkL (by decide) (List.mem_of_getElem? (i := 0) rfl) (by exact rfl)) (by kernel_rfl) rfl (ltB rfl) ?_; refine D.light (i := 3) rfl (.on (.none rfl) (LV.nilCheck rfl)) Rq.nil (by kernel_rfl) rfl (ltB rfl) ?_; refine D.light (i := 4) rfl (.on (.none rfl) (LV.idxArrN (by apply rfl) (by apply rfl) (by omega))) Rq.nil (by kernel_rfl) rfl (ltB rfl) ?_; refine D.light (i := 5) rfl (.on (.none rfl) (LV.load rfl)) (Rq.blk (List.mem_of_getElem? (i := 1) rfl) (U32_get (by omega))) (by kernel_rfl) rfl (ltB rfl) ?_; refine D.light (i := 6) rfl (.on (.none rfl) (LV.idxArr (by apply rfl) (by apply rfl) (by omega) (by omega))) Rq.nil (by kernel_rfl) rfl (ltB rfl) ?_; refine D.light (i := 7) rfl (.on (.none rfl) (LV.load rfl)) (Rq.blkL (by decide) (List.mem_of_getElem? (i := 0) rfl) (by exact rfl)) (by kernel_rfl) rfl (ltB rfl) ?_; refine D.light (i := 8) rfl (.on (.none rfl) (LV.shl1 rfl rfl rfl (by simp only [IntKind.bits]; omega))) Rq.nil (by kernel_rfl) rfl (ltB rfl) ?_; refine D.light (i := 9) rfl (.on (.none rfl) (LV.bitsN rfl rfl rfl rfl (by first | (simp only [IntKind.bits]; omega) | exact pow32 (by omega) | assumption) (by first | (simp only [IntKind.bits]; omega) | exact pow32 (by omega) | assumption))) Rq.nil (by kernel_rfl) rfl (ltB rfl) ?_; refine D.light (i := 10) rfl (.on (.none rfl) (LV.nilCheck rfl)) Rq.nil (by kernel_rfl) rfl (ltB rfl) ?_; refine D.light (i := 11) rfl (.on (.none rfl) (LV.idxArrN (by apply rfl) (by apply rfl) (by omega))) Rq.nil (by kernel_rfl) rfl (ltB rfl) ?_; refine D.heavy0 (i := 12) rfl (OpT.store rfl rfl rfl (k := 1) rfl (by first | (simp; done) | (simp only [List.length_cons, List.length_nil, U32_len, List.length_set]; done) | (simp only [List.length_cons, List.length_nil, U32_len, List.length_set]; omega) | (simp; omega) | omega) ?_) (.none rfl) (by kernel_rfl) (by kernel_rfl) rfl (chg_bits (by kernel_rfl)); refine D.fin (by kernel_rfl) ?_)
      | (refine SyC.draw (id := 6) (by kernel_rfl) (by kernel_rfl) ?_; refine D.light (i := 0) rfl (.on (.none rfl) (LV.move rfl)) Rq.nil (by kernel_rfl) rfl (ltB rfl) ?_; refine D.light (i := 1) rfl (.on (.none rfl) (LV.idxArr (by apply rfl) (by apply rfl) (by omega) (by omega))) Rq.nil (by kernel_rfl) rfl (ltB rfl) ?_; refine D.light (i := 2) rfl (.on (.none rfl) (LV.load rfl)) (Rq.blkL (by decide) (List.mem_of_getElem? (i := 0) rfl) (by exact rfl)) (by kernel_rfl) rfl (ltB rfl) ?_; refine D.light (i := 3) rfl (.on (.none rfl) (LV.nilCheck rfl)) Rq.nil (by kernel_rfl) rfl (ltB rfl) ?_; refine D.light (i := 4) rfl (.on (.none rfl) (LV.idxArrN (by apply rfl) (by apply rfl) (by omega))) Rq.nil (by kernel_rfl) rfl (ltB rfl) ?_; refine D.light (i := 5) rfl (.on (.none rfl) (LV.load rfl)) (Rq.blk (List.mem_of_getElem? (i := 1) rfl) (by rw [U32_set]; exact U32_get (by simp only [List.length_set]; omega))) (by kernel_rfl) rfl (ltB rfl) ?_; refine D.light (i := 6) rfl (.on (.none rfl) (LV.idxArr (by apply rfl) (by apply rfl) (by omega) (by omega))) Rq.nil (by kernel_rfl) rfl (ltB rfl) ?_; refine D.light (i := 7) rfl (.on (.none rfl) (LV.load rfl)) (Rq.blkL (by decide) (List.mem_of_getElem? (i := 0) rfl) (by exact rfl)) (by kernel_rfl) rfl (ltB rfl) ?_; refine D.light (i := 8) rfl (.on (.none rfl) (LV.shl1 rfl rfl rfl (by simp only [IntKind.bits]; omega))) Rq.nil (by kernel_rfl) rfl (ltB rfl) ?_; refine D.light (i := 9) rfl (.on (.none rfl) (LV.bitsN rfl rfl rfl rfl (by first | (simp only [IntKind.bits]; omega) | exact pow32 (by omega) | assumption) (by first | (simp only [IntKind.bits]; omega) | exact pow32 (by omega) | assumption))) Rq.nil (by kernel_rfl) rfl (ltB rfl) ?_; refine D.light (i := 10) rfl (.on (.none rfl) (LV.nilCheck rfl)) Rq.nil (by kernel_rfl) rfl (ltB rfl) ?_; refine D.light (i := 11) rfl (.on (.none rfl) (LV.idxArrN (by apply rfl) (by apply rfl) (by omega))) Rq.nil (by kernel_rfl) rfl (ltB rfl) ?_; refine D.heavy0 (i := 12) rfl (OpT.store rfl rfl rfl (k := 1) rfl (by first | (simp; done) | (simp only [List.length_cons, List.length_nil, U32_len, List.length_set]; done) | (simp only [List.length_cons, List.length_nil, U32_len, List.length_set]; omega) | (simp; omega) | omega) ?_) (.none rfl) (by kernel_rfl) (by kernel_rfl) rfl (chg_bits (by kernel_rfl)); refine D.fin (by kernel_rfl) ?_)
      | (refine SyL.light (LV.move rfl) Rq.nil (.none rfl) rfl (ltB rfl) ?_)
      | (refine SyL.light (LV.cmp rfl rfl rfl) Rq.nil (.none rfl) rfl (ltB rfl) ?_)
      | (refine SyL.light (LV.arN rfl rfl rfl (by simp only [Fits]; omega)) Rq.nil (.none rfl) rfl (ltB rfl) ?_)
      | (refine SyL.light (LV.idxNS (by apply rfl) (by apply rfl) (by omega)) Rq.nil (.none rfl) rfl (ltB rfl) ?_)
      | (refine SyL.light (LV.loadA (by exact rfl) (by exact rfl)) (rq_pair hrd hp) (.none rfl) rfl (ltB rfl) ?_)
      | (refine SyL.heavy (OpT.alloc (by apply rfl) (fun g_ hg_ => ?_)) (.none rfl) rfl (ltB rfl))
      | (refine SyL.heavy0 (OpT.storeAll (by apply rfl) (by apply rfl) (k := 0) rfl (by first | (simp; done) | (simp only [List.length_cons, List.length_nil, U32_len, List.length_set]; done) | (simp only [List.length_cons, List.length_nil, U32_len, List.length_set]; omega) | (simp; omega) | omega) (by first | (simp; done) | (simp only [List.length_cons, List.length_nil, U32_len, List.length_set]; done) | (simp only [List.length_cons, List.length_nil, U32_len, List.length_set]; omega) | (simp; omega) | omega) (by first | assumption | simp [Value.oneCell']) ?_) (.none rfl) rfl)
      | (refine SyC.condT rfl (by first | assumption | (with_reducible rfl) | decide | (simp only [decide_eq_true_eq, decide_eq_false_iff_not, Bool.not_eq_true', Bool.not_eq_false', beq_iff_eq, bne_iff_ne, ne_eq, beq_eq_false_iff_ne, bne_eq_false_iff_eq, Int.not_lt, Int.not_le, Bool.true_eq_false, Bool.false_eq_true, tb_one, tb_zero]; omega)) ?_))
    rw [U32_set, U32_set, show (H.set a (H.getD a 0 ||| 2 ^ b)).set b ((H.set a (H.getD a 0 ||| 2 ^ b)).getD b 0 ||| 2 ^ a) = addPair H (a, b) from rfl, ← hst]
    exact ⟨l.length - (k + 1), _, _, by omega, (by repeat (first | exact trivial | refine ⟨rfl, ?_⟩)), ⟨k + 1, rfl, by omega, rfl, rfl, rfl⟩, (by repeat (first | exact List.Sublist.refl _ | exact List.nil_sublist _ | refine List.Sublist.cons_cons _ ?_ | refine List.Sublist.cons _ ?_))⟩
  · obtain rfl : k = l.length := by omega
    rw [List.take_length] at hl hsm ⊢
    generalize addP G l = H at hl hsm ⊢
    repeat' (first
      | (refine SyC.seq ?_)
      | (refine SyC.region ?_)
      | (refine SyL.nil ?_)
      | (refine Then.norm ?_)
      | (refine Then.exit ?_)
      | (refine InB.hit ?_)
      | (refine SyC.exit ?_)
      | (refine SyC.ret ?_)
      | (refine SyL.light (LV.move rfl) Rq.nil (.none rfl) rfl (ltB rfl) ?_)
      | (refine SyL.light (LV.assign rfl) Rq.nil (.none rfl) rfl (ltB rfl) ?_)
      | (refine SyL.light (LV.cmp rfl rfl rfl) Rq.nil (.none rfl) rfl (ltB rfl) ?_)
      | (refine SyL.heavy (OpT.call rfl rfl (cut_c _ g v _ (by omega) hsm hv) rfl ?_) (.none rfl) rfl (ltB rfl); rintro v2 I2 rs2 hle2 ⟨rfl, rfl⟩)
      | (refine SyC.condF rfl (by first | assumption | (with_reducible rfl) | decide | (simp only [decide_eq_true_eq, decide_eq_false_iff_not, Bool.not_eq_true', Bool.not_eq_false', beq_iff_eq, bne_iff_ne, ne_eq, beq_eq_false_iff_ne, bne_eq_false_iff_eq, Int.not_lt, Int.not_le, Bool.true_eq_false, Bool.false_eq_true, tb_one, tb_zero]; omega)) ?_))
    exact Ret.oneS (by simp) Try.results122 (.tmp rfl) (⟨A1, c1, rfl, hrd, rfl⟩) (by repeat (first | exact List.Sublist.refl _ | exact List.nil_sublist _ | refine List.Sublist.cons_cons _ ?_ | refine List.Sublist.cons _ ?_))

set_option maxRecDepth 100000 in
set_option maxHeartbeats 4000000 in
theorem elimS_c (I : IH) (g v left cg : Nat) (G : List Nat) (hG : G.length ≤ 16) (hs : Small G) (hv : v < G.length) (hleft : left < 65536) :
    Sx.Fn Try.prog 55 #[.slice (some ⟨g, 0, none⟩) G.length cg, .int .i64 (v : Int), .int .u32 (left : Int)] I [.own (some ⟨g, 0, none⟩) cg 33 1 G.length (U32 G)] fun r I' rs' =>
      ∃ A c, r = .tuple #[.int .i64 (popN 32 ((addP G (pairs G v left)).getD v 0 &&& left) : Nat), .slice A (pairs G v left).length c] ∧
        RdSl I' 2 (.slice A (pairs G v left).length c) (pairs G v left).length (P64 (pairs G v left)) ∧ rs' = [.own (some ⟨g, 0, none⟩) cg 33 1 G.length (U32 (addP G (pairs G v left)))] := by
  refine Fn.intro (n := 50) (args := [.slice (some ⟨g, 0, none⟩) G.length cg, .int .i64 (v : Int), .int .u32 (left : Int)]) (by kernel_rfl) Try.func55 rfl Try.ntmps55 (Nat.le_of_ble_eq_true rfl) [(0, .slice (some ⟨g, 0, none⟩) G.length cg), (1, .int .i64 (v : Int)), (2, .int .u32 (left : Int))] rfl (fun w0 => ?_)
  repeat' (first
    | (refine SyC.seq ?_)
    | (refine SyC.region ?_)
    | (refine SyL.nil ?_)
    | (refine Then.norm ?_)
    | (refine SyC.block ?_)
    | (refine SyL.light (LV.move rfl) Rq.nil (.none rfl) rfl (ltB rfl) ?_)
    | (refine SyL.light (LV.assign rfl) Rq.nil (.none rfl) rfl (ltB rfl) ?_)
    | (refine SyL.light (LV.len (by apply rfl)) Rq.nil (.none rfl) rfl (ltB rfl) ?_)
    | (refine SyL.heavy (OpT.call rfl rfl (pairs_c _ g v left cg G hG hs hv hleft) rfl ?_) (.none rfl) rfl (ltB rfl); rintro v1 I1 rs1 hle1 ⟨A1, c1, rfl, hrd, rfl⟩))
  have hml : ∀ p ∈ pairs G v left, p.1 < G.length ∧ p.2 < G.length := fun p hp => pairs_lt hp
  generalize pairs G v left = l at hrd hml
  have hcap := hrd.cap
  refine SyC.loopD (fun m env I' rs => ∃ k, m = l.length - k ∧ k ≤ l.length ∧ I' = I1 ∧ rs = [.own (some ⟨g, 0, none⟩) cg 33 1 G.length (U32 (addP G (l.take k)))] ∧
    env = [(17, .int .i64 (k : Nat)), (16, .int .i64 (l.length : Nat)), (15, .slice A1 l.length c1), (8, .slice A1 l.length c1), (0, .slice (some ⟨g, 0, none⟩) G.length cg), (1, .int .i64 (v : Nat)), (2, .int .u32 (left : Nat))]) l.length _ (by repeat (first | exact trivial | refine ⟨rfl, ?_⟩)) ⟨0, rfl, by omega, rfl, rfl, rfl⟩ ?_
  rintro m env I' rs ⟨k, rfl, hk, rfl, rfl, rfl⟩
  have hl := addP_len G (l.take k)
  have hsm : Small (addP G (l.take k)) := hs.addP fun p hp => by have := hml p (List.mem_of_mem_take hp); omega
  by_cases hlt : k < l.length
  · obtain ⟨ad, rfl⟩ := hrd.addr (by omega)
    have hp : l[k]? = some (l[k].1, l[k].2) := List.getElem?_eq_getElem hlt
    have hab := hml _ (List.getElem_mem hlt)
    have hst := addP_step (G := G) hp
    generalize l[k].1 = a at hp hab hst
    generalize l[k].2 = b at hp hab hst
    generalize addP G (l.take k) = H at hl hst hsm
    have hsa := hsm.getD a
    obtain ⟨ha, hb⟩ := hab
    have hs2 := (hsm.set a (H.getD a 0 ||| 2 ^ b) (or_small hsa (by omega))).getD b
    repeat' (first
      | (refine SyC.seq ?_)
      | (refine SyC.region ?_)
      | (refine SyL.nil ?_)
      | (refine Then.norm ?_)
      | (refine InB.norm ?_)
      | (refine SyC.block ?_)
      | (refine SyC.skip ?_)
      | (refine SyC.draw (id := 5) (by kernel_rfl) (by kernel_rfl) ?_; refine D.light (i := 0) rfl (.on (.none rfl) (LV.move rfl)) Rq.nil (by kernel_rfl) rfl (ltB rfl) ?_; refine D.light (i := 1) rfl (.on (.none rfl) (LV.idxArr (by apply rfl) (by apply rfl) (by omega) (by omega))) Rq.nil (by kernel_rfl) rfl (ltB rfl) ?_; refine D.light (i := 2) rfl (.on (.none rfl) (LV.load rfl)) (Rq.blkL (by decide) (List.mem_of_getElem? (i := 0) rfl) (by exact rfl)) (by kernel_rfl) rfl (ltB rfl) ?_; refine D.light (i := 3) rfl (.on (.none rfl) (LV.idxBN (by apply rfl) (by apply rfl) (by omega))) Rq.nil (by kernel_rfl) rfl (ltB rfl) ?_; refine D.light (i := 4) rfl (.on (.none rfl) (LV.load rfl)) (Rq.own (List.mem_of_getElem? (i := 1) rfl) (U32_get (by omega))) (by kernel_rfl) rfl (ltB rfl) ?_; refine D.light (i := 5) rfl (.on (.none rfl) (LV.idxArr (by apply rfl) (by apply rfl) (by omega) (by omega))) Rq.nil (by kernel_rfl) rfl (ltB rfl) ?_; refine D.light (i := 6) rfl (.on (.none rfl) (LV.load rfl)) (Rq.blkL (by decide) (List.mem_of_getElem? (i := 0) rfl) (by exact rfl)) (by kernel_rfl) rfl (ltB rfl) ?_; refine D.light (i := 7) rfl (.on (.none rfl) (LV.shl1 rfl rfl rfl (by simp only [IntKind.bits]; omega))) Rq.nil (by kernel_rfl) rfl (ltB rfl) ?_; refine D.light (i := 8) rfl (.on (.none rfl) (LV.bitsN rfl rfl rfl rfl (by first | (simp only [IntKind.bits]; omega) | exact pow32 (by omega) | assumption) (by first | (simp only [IntKind.bits]; omega) | exact pow32 (by omega) | assumption))) Rq.nil (by kernel_rfl) rfl (ltB rfl) ?_; refine D.light (i := 9) rfl (.on (.none rfl) (LV.idxBN (by apply rfl) (by apply rfl) (by omega))) Rq.nil (by kernel_rfl) rfl (ltB rfl) ?_; refine D.heavy0 (i := 10) rfl (OpT.storeOwn rfl rfl rfl (k := 1) rfl (by first | (simp; done) | (simp only [List.length_cons, List.length_nil, U32_len, List.length_set]; done) | (simp only [List.length_cons, List.length_nil, U32_len, List.length_set]; omega) | (simp; omega) | omega) ?_) (.none rfl) (by kernel_rfl) (by kernel_rfl) rfl (chg_bits (by kernel_rfl)); refine D.fin (by kernel_rfl) ?_)
      | (refine SyC.draw (id := 6) (by kernel_rfl) (by kernel_rfl) ?_; refine D.light (i := 0) rfl (.on (.none rfl) (LV.move rfl)) Rq.nil (by kernel_rfl) rfl (ltB rfl) ?_; refine D.light (i := 1) rfl (.on (.none rfl) (LV.idxArr (by apply rfl) (by apply rfl) (by omega) (by omega))) Rq.nil (by kernel_rfl) rfl (ltB rfl) ?_; refine D.light (i := 2) rfl (.on (.none rfl) (LV.load rfl)) (Rq.blkL (by decide) (List.mem_of_getElem? (i := 0) rfl) (by exact rfl)) (by kernel_rfl) rfl (ltB rfl) ?_; refine D.light (i := 3) rfl (.on (.none rfl) (LV.idxBN (by apply rfl) (by apply rfl) (by omega))) Rq.nil (by kernel_rfl) rfl (ltB rfl) ?_; refine D.light (i := 4) rfl (.on (.none rfl) (LV.load rfl)) (Rq.own (List.mem_of_getElem? (i := 1) rfl) (by rw [U32_set]; exact U32_get (by simp only [List.length_set]; omega))) (by kernel_rfl) rfl (ltB rfl) ?_; refine D.light (i := 5) rfl (.on (.none rfl) (LV.idxArr (by apply rfl) (by apply rfl) (by omega) (by omega))) Rq.nil (by kernel_rfl) rfl (ltB rfl) ?_; refine D.light (i := 6) rfl (.on (.none rfl) (LV.load rfl)) (Rq.blkL (by decide) (List.mem_of_getElem? (i := 0) rfl) (by exact rfl)) (by kernel_rfl) rfl (ltB rfl) ?_; refine D.light (i := 7) rfl (.on (.none rfl) (LV.shl1 rfl rfl rfl (by simp only [IntKind.bits]; omega))) Rq.nil (by kernel_rfl) rfl (ltB rfl) ?_; refine D.light (i := 8) rfl (.on (.none rfl) (LV.bitsN rfl rfl rfl rfl (by first | (simp only [IntKind.bits]; omega) | exact pow32 (by omega) | assumption) (by first | (simp only [IntKind.bits]; omega) | exact pow32 (by omega) | assumption))) Rq.nil (by kernel_rfl) rfl (ltB rfl) ?_; refine D.light (i := 9) rfl (.on (.none rfl) (LV.idxBN (by apply rfl) (by apply rfl) (by omega))) Rq.nil (by kernel_rfl) rfl (ltB rfl) ?_; refine D.heavy0 (i := 10) rfl (OpT.storeOwn rfl rfl rfl (k := 1) rfl (by first | (simp; done) | (simp only [List.length_cons, List.length_nil, U32_len, List.length_set]; done) | (simp only [List.length_cons, List.length_nil, U32_len, List.length_set]; omega) | (simp; omega) | omega) ?_) (.none rfl) (by kernel_rfl) (by kernel_rfl) rfl (chg_bits (by kernel_rfl)); refine D.fin (by kernel_rfl) ?_)
      | (refine SyL.light (LV.move rfl) Rq.nil (.none rfl) rfl (ltB rfl) ?_)
      | (refine SyL.light (LV.cmp rfl rfl rfl) Rq.nil (.none rfl) rfl (ltB rfl) ?_)
      | (refine SyL.light (LV.arN rfl rfl rfl (by simp only [Fits]; omega)) Rq.nil (.none rfl) rfl (ltB rfl) ?_)
      | (refine SyL.light (LV.idxNS (by apply rfl) (by apply rfl) (by omega)) Rq.nil (.none rfl) rfl (ltB rfl) ?_)
      | (refine SyL.light (LV.loadA (by exact rfl) (by exact rfl)) (rq_pair hrd hp) (.none rfl) rfl (ltB rfl) ?_)
      | (refine SyL.heavy (OpT.alloc (by apply rfl) (fun g_ hg_ => ?_)) (.none rfl) rfl (ltB rfl))
      | (refine SyL.heavy0 (OpT.storeAll (by apply rfl) (by apply rfl) (k := 0) rfl (by first | (simp; done) | (simp only [List.length_cons, List.length_nil, U32_len, List.length_set]; done) | (simp only [List.length_cons, List.length_nil, U32_len, List.length_set]; omega) | (simp; omega) | omega) (by first | (simp; done) | (simp only [List.length_cons, List.length_nil, U32_len, List.length_set]; done) | (simp only [List.length_cons, List.length_nil, U32_len, List.length_set]; omega) | (simp; omega) | omega) (by first | assumption | simp [Value.oneCell']) ?_) (.none rfl) rfl)
      | (refine SyC.condT rfl (by first | assumption | (with_reducible rfl) | decide | (simp only [decide_eq_true_eq, decide_eq_false_iff_not, Bool.not_eq_true', Bool.not_eq_false', beq_iff_eq, bne_iff_ne, ne_eq, beq_eq_false_iff_ne, bne_eq_false_iff_eq, Int.not_lt, Int.not_le, Bool.true_eq_false, Bool.false_eq_true, tb_one, tb_zero]; omega)) ?_))
    rw [U32_set, U32_set, show (H.set a (H.getD a 0 ||| 2 ^ b)).set b ((H.set a (H.getD a 0 ||| 2 ^ b)).getD b 0 ||| 2 ^ a) = addPair H (a, b) from rfl, ← hst]
    exact ⟨l.length - (k + 1), _, _, by omega, (by repeat (first | exact trivial | refine ⟨rfl, ?_⟩)), ⟨k + 1, rfl, by omega, rfl, rfl, rfl⟩, (by repeat (first | exact List.Sublist.refl _ | exact List.nil_sublist _ | refine List.Sublist.cons_cons _ ?_ | refine List.Sublist.cons _ ?_))⟩
  · obtain rfl : k = l.length := by omega
    rw [List.take_length] at hl hsm ⊢
    generalize addP G l = H at hl hsm ⊢
    have hsv := hsm.getD v
    have hx : H.getD v 0 &&& left < 4294967296 := Nat.lt_of_le_of_lt Nat.and_le_left (by omega)
    repeat' (first
      | (refine SyC.seq ?_)
      | (refine SyC.region ?_)
      | (refine SyL.nil ?_)
      | (refine Then.norm ?_)
      | (refine Then.exit ?_)
      | (refine InB.hit ?_)
      | (refine SyC.exit ?_)
      | (refine SyC.ret ?_)
      | (refine SyL.light (LV.move rfl) Rq.nil (.none rfl) rfl (ltB rfl) ?_)
      | (refine SyL.light (LV.assign rfl) Rq.nil (.none rfl) rfl (ltB rfl) ?_)
      | (refine SyL.light (LV.cmp rfl rfl rfl) Rq.nil (.none rfl) rfl (ltB rfl) ?_)
      | (refine SyL.light (LV.bitsN rfl rfl rfl rfl (by first | (simp only [IntKind.bits]; omega) | exact pow32 (by omega) | assumption) (by first | (simp only [IntKind.bits]; omega) | exact pow32 (by omega) | assumption)) Rq.nil (.none rfl) rfl (ltB rfl) ?_)
      | (refine SyL.light (LV.idxBN (by apply rfl) (by apply rfl) (by omega)) Rq.nil (.none rfl) rfl (ltB rfl) ?_)
      | (refine SyL.light (LV.load rfl) (Rq.own (List.mem_of_getElem? (i := 0) rfl) (U32_get (by omega))) (.none rfl) rfl (ltB rfl) ?_)
      | (refine SyL.heavy (OpT.pcall rfl rfl (ones_c _ _ hx) ?_) (.none rfl) rfl (ltB rfl); rintro v2 I2 hle2 ⟨rfl, rfl⟩)
      | (refine SyC.condF rfl (by first | assumption | (with_reducible rfl) | decide | (simp only [decide_eq_true_eq, decide_eq_false_iff_not, Bool.not_eq_true', Bool.not_eq_false', beq_iff_eq, bne_iff_ne, ne_eq, beq_eq_false_iff_ne, bne_eq_false_iff_eq, Int.not_lt, Int.not_le, Bool.true_eq_false, Bool.false_eq_true, tb_one, tb_zero]; omega)) ?_))
    exact Ret.twoS (by simp) Try.results55 (.tmp rfl) (.tmp rfl) (⟨A1, c1, rfl, hrd, rfl⟩) (by repeat (first | exact List.Sublist.refl _ | exact List.nil_sublist _ | refine List.Sublist.cons_cons _ ?_ | refine List.Sublist.cons _ ?_))
end Go.Proofs.Ytpgkbipnkkeicaa
