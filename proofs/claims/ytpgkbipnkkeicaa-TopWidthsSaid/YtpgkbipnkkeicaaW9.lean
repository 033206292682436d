import Derived.Test.YtpgkbipnkkeicaaW8
set_option linter.unusedSimpArgs false
set_option linter.unusedVariables false
/-! Edges. -/
namespace Go.Proofs.Ytpgkbipnkkeicaa
open Go Go.Sx Go.Gr
attribute [local irreducible] popN

def edgeP (G : List Nat) : Nat → Nat → Bool := fun a b => (G.getD a 0).testBit b
theorem Scopes.mono {n m : Nat} {ss : List (List Nat)} (h : Scopes n ss) (hnm : n ≤ m) : Scopes m ss := ⟨h.many, h.long, fun l hl x hx => Nat.lt_of_lt_of_le (h.below l hl x hx) hnm⟩
def GO (ss : List (List Nat)) : List Nat := addS (List.replicate 16 0) ss
theorem GO_len (ss : List (List Nat)) : (GO ss).length = 16 := by unfold GO; rw [addS_len]; simp
theorem GO_small {ss : List (List Nat)} (h : Scopes 16 ss) : Small (GO ss) := (Small.zeros 16).addS h.below
/-- Arguments that are right. -/
structure Args (I : IH) (n : Nat) (A : Option Addr) (c : Nat) (ss : List (List Nat)) (cells : List Value) : Prop where
  rd : RdSs I A c ss cells
  ok : Scopes n ss
  le : n ≤ 16
theorem Args.mono {I I' : IH} {n : Nat} {A : Option Addr} {c : Nat} {ss : List (List Nat)} {cells : List Value} (h : Args I n A c ss cells) (hle : I.le I') : Args I' n A c ss cells := ⟨h.rd.le hle, h.ok, h.le⟩
theorem Args.right {I : IH} {n : Nat} {A : Option Addr} {c : Nat} {ss : List (List Nat)} {cells : List Value} (h : Args I n A c ss cells) : PFn Try.prog 51 #[.int .i64 (n : Int), .slice A ss.length c] I fun v _ => v = .bool true :=
  Right_c I n A c ss cells h.rd h.ok h.le
theorem Args.of {I : IH} {n : Nat} {A : Option Addr} {c : Nat} {ss : List (List Nat)} {cells : List Value} (h : Args I n A c ss cells) : PFn Try.prog 52 #[.slice A ss.length c] I fun v _ => v = .agg (U32 (GO ss)).toArray :=
  of_c I A c ss cells h.rd (h.ok.mono h.le)

set_option maxRecDepth 100000 in
set_option maxHeartbeats 4000000 in
theorem Edges_c (I : IH) (n : Nat) (A : Option Addr) (c : Nat) (ss : List (List Nat)) (cells : List Value) (h : Args I n A c ss cells) :
    PFn Try.prog 10 #[.int .i64 (n : Int), .slice A ss.length c] I fun v I' => ∃ B c', v = .tuple #[.slice B (pairsP (edgeP (GO ss)) n n).length c', .int .i64 0] ∧
      RdSl I' 2 (.slice B (pairsP (edgeP (GO ss)) n n).length c') (pairsP (edgeP (GO ss)) n n).length (P64 (pairsP (edgeP (GO ss)) n n)) := by
  have hn := h.le
  have hlen := GO_len ss
  have hsm := GO_small (h.ok.mono h.le)
  have h1 := U32_one (GO ss)
  refine Fn.intro (n := 42) (args := [.int .i64 (n : Int), .slice A ss.length c]) (by kernel_rfl) Try.func10 rfl Try.ntmps10 (Nat.le_of_ble_eq_true rfl) [(0, .int .i64 (n : Int)), (1, .slice A ss.length c)] rfl (fun w0 => ?_)
  repeat' (first
    | (refine SyC.seq ?_)
    | (refine SyC.region ?_)
    | (refine SyL.nil ?_)
    | (refine Then.norm ?_)
    | (refine SyC.block ?_)
    | (refine SyC.skip ?_)
    | (refine SyL.light (LV.move rfl) Rq.nil (.none rfl) rfl (ltB rfl) ?_)
    | (refine SyL.light (LV.assign rfl) Rq.nil (.none rfl) rfl (ltB rfl) ?_)
    | (refine SyL.light (LV.not rfl) Rq.nil (.none rfl) rfl (ltB rfl) ?_)
    | (refine SyL.heavy (OpT.alloc (by apply rfl) (fun g_ hg_ => ?_)) (.none rfl) rfl (ltB rfl))
    | (refine SyL.heavy0 (OpT.storeAll (by apply rfl) (by apply rfl) (k := 0) rfl (by first | (simp; done) | (simp only [List.length_cons, List.length_nil, U32_len]; done) | (simp only [List.length_cons, List.length_nil, U32_len]; omega) | (simp; omega) | omega) (by first | (simp; done) | (simp only [List.length_cons, List.length_nil, U32_len]; done) | (simp only [List.length_cons, List.length_nil, U32_len]; omega) | (simp; omega) | omega) (by first | assumption | simp [Value.oneCell']) ?_) (.none rfl) rfl)
    | (refine SyL.heavy (OpT.pcall rfl rfl (h.right) ?_) (.none rfl) rfl (ltB rfl); rintro v1 I1 hle1 rfl)
    | (refine SyL.heavy (OpT.pcall rfl rfl ((h.mono hle1).of) ?_) (.none rfl) rfl (ltB rfl); rintro v2 I2 hle2 rfl)
    | (refine SyC.condF rfl (by first | assumption | (with_reducible rfl) | decide | (simp only [decide_eq_true_eq, decide_eq_false_iff_not, Bool.not_eq_true', Bool.not_eq_false', beq_iff_eq, bne_iff_ne, ne_eq, beq_eq_false_iff_ne, bne_eq_false_iff_eq, Int.not_lt, Int.not_le, Bool.true_eq_false, Bool.false_eq_true, tb_one, tb_zero]; omega)) ?_))
  generalize GO ss = G at *
  generalize hp : edgeP G = p
  refine SyC.ownNil 34 2 ?_
  refine SyC.loopD (fun m env I' rs => ∃ a B cb, m = n - a ∧ a ≤ n ∧ I' = I2 ∧ rs = [.own B cb 34 2 (pairsP p n a).length (P64 (pairsP p n a)), .blk g_ 99 (U32 G)] ∧
    env = [(17, .int .i64 (a : Nat)), (16, .int .i64 (n : Nat)), (7, .slice B (pairsP p n a).length cb), (6, .pointer (some ⟨g_, 0, none⟩)), (0, .int .i64 (n : Nat))]) n _ (by repeat (first | exact trivial | refine ⟨rfl, ?_⟩)) ⟨0, _, _, rfl, by omega, rfl, rfl, rfl⟩ ?_
  rintro m env I' rs ⟨a, B, cb, rfl, ha, rfl, rfl, rfl⟩
  have hl1 := pairsP_len p n a
  have hl0 : a * n ≤ 16 * 16 := Nat.mul_le_mul (by omega) hn
  by_cases hlt : a < n
  · repeat' (first
      | (refine SyC.seq ?_)
      | (refine SyC.region ?_)
      | (refine SyL.nil ?_)
      | (refine Then.norm ?_)
      | (refine SyC.block ?_)
      | (refine SyC.skip ?_)
      | (refine SyL.light (LV.move rfl) Rq.nil (.none rfl) rfl (ltB rfl) ?_)
      | (refine SyL.light (LV.assign rfl) Rq.nil (.none rfl) rfl (ltB rfl) ?_)
      | (refine SyL.light (LV.cmp rfl rfl rfl) Rq.nil (.none rfl) rfl (ltB rfl) ?_)
      | (refine SyL.light (LV.arN rfl rfl rfl (by simp only [Fits]; omega)) Rq.nil (.none rfl) rfl (ltB rfl) ?_)
      | (refine SyC.condT rfl (by first | assumption | (with_reducible rfl) | decide | (simp only [decide_eq_true_eq, decide_eq_false_iff_not, Bool.not_eq_true', Bool.not_eq_false', beq_iff_eq, bne_iff_ne, ne_eq, beq_eq_false_iff_ne, bne_eq_false_iff_eq, Int.not_lt, Int.not_le, Bool.true_eq_false, Bool.false_eq_true, tb_one, tb_zero]; omega)) ?_))
    have hstepa := pairsP_step p n a
    generalize pairsP p n a = L at hl1 hstepa
    refine SyC.loopD (fun m env I'' rs => ∃ b B cb, m = n - b ∧ a + 1 ≤ b ∧ b ≤ n ∧ I'' = I' ∧ rs = [.own B cb 34 2 (L ++ rowP p a b).length (P64 (L ++ rowP p a b)), .blk g_ 99 (U32 G)] ∧
      env = [(9, .int .i64 (b : Nat)), (8, .int .i64 (a : Nat)), (17, .int .i64 (a : Nat)), (16, .int .i64 (n : Nat)), (7, .slice B (L ++ rowP p a b).length cb), (6, .pointer (some ⟨g_, 0, none⟩)), (0, .int .i64 (n : Nat))])
      (n - (a + 1)) [(9, .int .i64 (a + 1 : Nat)), (8, .int .i64 (a : Nat)), (17, .int .i64 (a : Nat)), (16, .int .i64 (n : Nat)), (7, .slice B L.length cb), (6, .pointer (some ⟨g_, 0, none⟩)), (0, .int .i64 (n : Nat))] (by repeat (first | exact trivial | refine ⟨rfl, ?_⟩))
      ⟨a + 1, B, cb, rfl, by omega, by omega, rfl, by rw [rowP_zero, List.append_nil], by rw [rowP_zero, List.append_nil]⟩ ?_
    rintro m env I'' rs ⟨b, B, cb, rfl, hb1, hb2, rfl, rfl, rfl⟩
    have hl2 := rowP_len p a b
    have hl3 : (L ++ rowP p a b).length = L.length + (rowP p a b).length := List.length_append
    by_cases hbt : b < n
    · have hst := rowP_step p hb1
      have hpv : p a b = (G.getD a 0).testBit b := by rw [← hp]; rfl
      cases hpb : (G.getD a 0).testBit b
      · rw [hpb] at hpv
        simp only [hpv, Bool.false_eq_true, if_false, List.append_nil] at hst
        rw [← hst]
        repeat' (first
          | (refine SyC.seq ?_)
          | (refine SyC.region ?_)
          | (refine SyL.nil ?_)
          | (refine Then.norm ?_)
          | (refine InB.norm ?_)
          | (refine SyC.block ?_)
          | (refine SyC.skip ?_)
          | (refine SyL.light (LV.move rfl) Rq.nil (.none rfl) rfl (ltB rfl) ?_)
          | (refine SyL.light (LV.assign rfl) Rq.nil (.none rfl) rfl (ltB rfl) ?_)
          | (refine SyL.light (LV.tst rfl rfl rfl) Rq.nil (.none rfl) rfl (ltB rfl) ?_)
          | (refine SyL.light (LV.tstEq1 rfl rfl) Rq.nil (.none rfl) rfl (ltB rfl) ?_)
          | (refine SyL.light (LV.cmp rfl rfl rfl) Rq.nil (.none rfl) rfl (ltB rfl) ?_)
          | (refine SyL.light (LV.arN rfl rfl rfl (by simp only [Fits]; omega)) Rq.nil (.none rfl) rfl (ltB rfl) ?_)
          | (refine SyL.light (LV.shrN rfl rfl (by simp only [IntKind.bits]; omega)) Rq.nil (.none rfl) rfl (ltB rfl) ?_)
          | (refine SyL.light (LV.idxArrN (by apply rfl) (by apply rfl) (by omega)) Rq.nil (.none rfl) rfl (ltB rfl) ?_)
          | (refine SyL.light (LV.load rfl) (Rq.blk (List.mem_of_getElem? (i := 1) rfl) (U32_get (by omega))) (.none rfl) rfl (ltB rfl) ?_)
          | (refine SyC.condT rfl (by first | assumption | (with_reducible rfl) | decide | (simp only [decide_eq_true_eq, decide_eq_false_iff_not, Bool.not_eq_true', Bool.not_eq_false', beq_iff_eq, bne_iff_ne, ne_eq, beq_eq_false_iff_ne, bne_eq_false_iff_eq, Int.not_lt, Int.not_le, Bool.true_eq_false, Bool.false_eq_true, tb_one, tb_zero]; omega)) ?_)
          | (refine SyC.condF rfl (by first | assumption | (with_reducible rfl) | decide | (simp only [decide_eq_true_eq, decide_eq_false_iff_not, Bool.not_eq_true', Bool.not_eq_false', beq_iff_eq, bne_iff_ne, ne_eq, beq_eq_false_iff_ne, bne_eq_false_iff_eq, Int.not_lt, Int.not_le, Bool.true_eq_false, Bool.false_eq_true, tb_one, tb_zero]; omega)) ?_))
        exact ⟨n - (b + 1), _, _, by omega, (by repeat (first | exact trivial | refine ⟨rfl, ?_⟩)), ⟨b + 1, B, cb, rfl, by omega, by omega, rfl, rfl, rfl⟩, (by repeat (first | exact List.Sublist.refl _ | exact List.nil_sublist _ | refine List.Sublist.cons_cons _ ?_ | refine List.Sublist.cons _ ?_))⟩
      · rw [hpb] at hpv
        rw [hpv, if_pos rfl] at hst
        generalize hM : L ++ rowP p a b = M at hl3
        have e1 : P64 (M ++ [(a, b)]) = P64 M ++ [.int .i64 (a : Int), .int .i64 (b : Int)] := by rw [P64_app]; rfl
        have e2 : (M ++ [(a, b)]).length = M.length + 1 := by simp
        have e3 : L ++ rowP p a (b + 1) = M ++ [(a, b)] := by rw [hst, ← List.append_assoc, hM]
        repeat' (first
          | (refine SyC.seq ?_)
          | (refine SyC.region ?_)
          | (refine SyL.nil ?_)
          | (refine Then.norm ?_)
          | (refine InB.norm ?_)
          | (refine SyC.block ?_)
          | (refine SyC.skip ?_)
          | (refine SyL.light (LV.move rfl) Rq.nil (.none rfl) rfl (ltB rfl) ?_)
          | (refine SyL.light (LV.assign rfl) Rq.nil (.none rfl) rfl (ltB rfl) ?_)
          | (refine SyL.light (LV.tst rfl rfl rfl) Rq.nil (.none rfl) rfl (ltB rfl) ?_)
          | (refine SyL.light (LV.tstEq1 rfl rfl) Rq.nil (.none rfl) rfl (ltB rfl) ?_)
          | (refine SyL.light (LV.cmp rfl rfl rfl) Rq.nil (.none rfl) rfl (ltB rfl) ?_)
          | (refine SyL.light (LV.arN rfl rfl rfl (by simp only [Fits]; omega)) Rq.nil (.none rfl) rfl (ltB rfl) ?_)
          | (refine SyL.light (LV.shrN rfl rfl (by simp only [IntKind.bits]; omega)) Rq.nil (.none rfl) rfl (ltB rfl) ?_)
          | (refine SyL.light (LV.idxArrN (by apply rfl) (by apply rfl) (by omega)) Rq.nil (.none rfl) rfl (ltB rfl) ?_)
          | (refine SyL.light (LV.load rfl) (Rq.blk (List.mem_of_getElem? (i := 1) rfl) (U32_get (by omega))) (.none rfl) rfl (ltB rfl) ?_)
          | (refine SyL.light (LV.buildArr (xs := [_, _]) (vs := [_, _]) rfl rfl rfl (by simp [Value.cells])) Rq.nil (.none rfl) rfl (ltB rfl) ?_)
          | (refine SyL.heavy (OpT.buildSlice1 (by apply rfl) (by apply rfl) (by apply rfl) (by decide) (by decide) (fun g_ hg_ => ?_)) (.none rfl) rfl (ltB rfl))
          | (refine SyL.heavy (OpT.append (by apply rfl) (by apply rfl) (k := 1) rfl (by first | (simp; done) | (simp only [List.length_cons, List.length_nil]; done) | (simp only [List.length_cons, List.length_nil]; omega) | (simp; omega) | omega) (Rq.blkAll (List.mem_of_getElem? (i := 0) rfl)) (by simp [Value.oneCell']) (by first | omega | (simp only [List.length_append, List.length_cons, List.length_nil]; omega)) (by first | omega | (simp only [List.length_append, List.length_cons, List.length_nil]; omega)) (by decide) (fun A_ c_ => ?_)) (.none rfl) rfl (ltB rfl))
          | (refine SyC.condT rfl (by first | assumption | (with_reducible rfl) | decide | (simp only [decide_eq_true_eq, decide_eq_false_iff_not, Bool.not_eq_true', Bool.not_eq_false', beq_iff_eq, bne_iff_ne, ne_eq, beq_eq_false_iff_ne, bne_eq_false_iff_eq, Int.not_lt, Int.not_le, Bool.true_eq_false, Bool.false_eq_true, tb_one, tb_zero]; omega)) ?_))
        rw [← e1, ← e2, ← e3]
        exact ⟨n - (b + 1), _, _, by omega, (by repeat (first | exact trivial | refine ⟨rfl, ?_⟩)), ⟨b + 1, A_, c_, rfl, by omega, by omega, rfl, rfl, rfl⟩, (by repeat (first | exact List.Sublist.refl _ | exact List.nil_sublist _ | refine List.Sublist.cons_cons _ ?_ | refine List.Sublist.cons _ ?_))⟩
    · obtain rfl : b = n := by omega
      rw [← hstepa]
      repeat' (first
        | (refine SyC.seq ?_)
        | (refine SyC.region ?_)
        | (refine SyL.nil ?_)
        | (refine Then.norm ?_)
        | (refine Then.exit ?_)
        | (refine InB.norm ?_)
        | (refine InB.hit ?_)
        | (refine SyC.exit ?_)
        | (refine SyL.light (LV.move rfl) Rq.nil (.none rfl) rfl (ltB rfl) ?_)
        | (refine SyL.light (LV.cmp rfl rfl rfl) Rq.nil (.none rfl) rfl (ltB rfl) ?_)
        | (refine SyL.light (LV.arN rfl rfl rfl (by simp only [Fits]; omega)) Rq.nil (.none rfl) rfl (ltB rfl) ?_)
        | (refine SyC.condF rfl (by first | assumption | (with_reducible rfl) | decide | (simp only [decide_eq_true_eq, decide_eq_false_iff_not, Bool.not_eq_true', Bool.not_eq_false', beq_iff_eq, bne_iff_ne, ne_eq, beq_eq_false_iff_ne, bne_eq_false_iff_eq, Int.not_lt, Int.not_le, Bool.true_eq_false, Bool.false_eq_true, tb_one, tb_zero]; omega)) ?_))
      exact ⟨b - (a + 1), _, _, by omega, (by repeat (first | exact trivial | refine ⟨rfl, ?_⟩)), ⟨a + 1, B, cb, rfl, by omega, rfl, rfl, rfl⟩, (by repeat (first | exact List.Sublist.refl _ | exact List.nil_sublist _ | refine List.Sublist.cons_cons _ ?_ | refine List.Sublist.cons _ ?_))⟩
  · obtain rfl : a = n := by omega
    refine SyC.freezeOwn fun I3 hle3 hrd => ?_
    repeat' (first
      | (refine SyC.seq ?_)
      | (refine SyC.region ?_)
      | (refine SyL.nil ?_)
      | (refine Then.norm ?_)
      | (refine Then.exit ?_)
      | (refine InB.hit ?_)
      | (refine SyC.exit ?_)
      | (refine SyC.ret ?_)
      | (refine SyL.light (LV.move rfl) Rq.nil (.none rfl) rfl (ltB rfl) ?_)
      | (refine SyL.light (LV.assign rfl) Rq.nil (.none rfl) rfl (ltB rfl) ?_)
      | (refine SyL.light (LV.cmp rfl rfl rfl) Rq.nil (.none rfl) rfl (ltB rfl) ?_)
      | (refine SyC.condF rfl (by first | assumption | (with_reducible rfl) | decide | (simp only [decide_eq_true_eq, decide_eq_false_iff_not, Bool.not_eq_true', Bool.not_eq_false', beq_iff_eq, bne_iff_ne, ne_eq, beq_eq_false_iff_ne, bne_eq_false_iff_eq, Int.not_lt, Int.not_le, Bool.true_eq_false, Bool.false_eq_true, tb_one, tb_zero]; omega)) ?_))
    exact Ret.twoS (by simp) Try.results10 (.tmp rfl) (.tmp rfl) (⟨rfl, _, _, rfl, hrd⟩) (by repeat (first | exact List.Sublist.refl _ | exact List.nil_sublist _ | refine List.Sublist.cons_cons _ ?_ | refine List.Sublist.cons _ ?_))
end Go.Proofs.Ytpgkbipnkkeicaa
