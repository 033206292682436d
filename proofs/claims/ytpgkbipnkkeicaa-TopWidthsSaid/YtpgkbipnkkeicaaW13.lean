import Derived.Test.YtpgkbipnkkeicaaW12
import Derived.Test.YtpgkbipnkkeicaaSx8
set_option linter.unusedSimpArgs false
set_option linter.unusedVariables false
/-! greedy, MinDegree, MinFill, Chordal. -/
namespace Go.Gr
open Go Go.Sx Go.Proofs.Ytpgkbipnkkeicaa
attribute [local irreducible] popN
/-- What the greedy run keeps. -/
structure GInv (n : Nat) (s : GSt) : Prop where
  len : s.G.length = 16
  sm : Small s.G
  nd : s.out.Nodup
  lt : ∀ x ∈ s.out, x < n
theorem gPick_some {cost : List Nat → Nat → Nat} {n : Nat} {s : GSt} (h : GInv n s) (hl : s.out.length < n) : bestOf (fun v => decide (v ∈ s.out)) (cost s.G) n = some (gPick cost n s) ∧ gPick cost n s < n ∧ gPick cost n s ∉ s.out := by
  obtain ⟨v, hv, hm⟩ := some_left h.nd hl
  obtain ⟨b, hb⟩ := bestOf_some (cost := cost s.G) (skip := fun v => decide (v ∈ s.out)) hv (by simp [hm])
  have := bestOf_lt hb
  unfold gPick
  rw [hb]
  exact ⟨rfl, this.1, by simpa using this.2⟩
theorem GInv.run {cost : List Nat → Nat → Nat} {n : Nat} {G : List Nat} (hG : G.length = 16) (hs : Small G) (i : Nat) (hi : i ≤ n) : GInv n (gRun cost n G i) := by
  induction i with
  | zero => exact ⟨hG, hs, List.nodup_nil, fun x hx => by simp [gRun] at hx⟩
  | succ i ih =>
    have h := ih (by omega)
    have hp := gPick_some (cost := cost) h (by rw [gRun_len]; omega)
    refine ⟨by rw [gRun_G, elimO_len]; exact h.len, by rw [gRun_G]; exact elimO_small h.sm _, ?_, fun x hx => ?_⟩
    · rw [gRun_out, List.nodup_append]
      refine ⟨h.nd, by simp, fun a ha b hb e => ?_⟩
      simp at hb
      subst hb; subst e
      exact hp.2.2 ha
    · rw [gRun_out] at hx
      rcases List.mem_append.1 hx with h1 | h1
      · exact h.lt x h1
      · simp at h1; rw [h1]; exact hp.2.1
end Go.Gr
namespace Go.Proofs.Ytpgkbipnkkeicaa
open Go Go.Sx Go.Gr
attribute [local irreducible] popN

theorem ownRead {I : IH} {rs : List Row} {g c T n : Nat} {l : List Nat} (hm : .own (some ⟨g, 0, none⟩) c T 1 n (N64 l) ∈ rs) : ∀ j u, (N64 l)[j]? = some u → ∃ ad, (some ⟨g, 0, none⟩ : Option Addr) = some ad ∧ Rq I rs [(ad.add j, u)] :=
  fun j u hu => ⟨_, rfl, by rw [add_plain, Nat.zero_add]; exact Rq.own hm hu⟩

set_option maxRecDepth 100000 in
set_option maxHeartbeats 4000000 in
theorem greedy_c (I : IH) (n : Nat) (A : Option Addr) (c : Nat) (ss : List (List Nat)) (cells : List Value) (h : Args I n A c ss cells) (f : FuncId) (cost : List Nat → Nat → Nat) (hcost : ∀ G v, cost G v ≤ 1000)
    (hf : ∀ (I' : IH) (g v : Nat) (G : List Nat), G.length = 16 → Small G → v < 16 → Sx.Fn Try.prog f (#[] ++ [Value.pointer (some ⟨g, 0, none⟩), .int .i64 (v : Int)].toArray ++ #[]) I' [.blk g 99 (U32 G)] fun r I'' rs' => r = .int .i64 (cost G v : Nat) ∧ rs' = [.blk g 99 (U32 G)]) :
    PFn Try.prog 123 #[.int .i64 (n : Int), .slice A ss.length c, .func (.func f) #[] #[]] I fun v I' => ∃ B c', v = .tuple #[.slice B (gRun cost n (GO ss) n).out.length c', .int .i64 0] ∧
      RdSl I' 1 (.slice B (gRun cost n (GO ss) n).out.length c') (gRun cost n (GO ss) n).out.length (N64 (gRun cost n (GO ss) n).out) := by
  have hn := h.le
  have hlen := GO_len ss
  have hsm := GO_small (h.ok.mono h.le)
  have h1 := U32_one (GO ss)
  refine Fn.intro (n := 52) (args := [.int .i64 (n : Int), .slice A ss.length c, .func (.func f) #[] #[]]) (by kernel_rfl) Try.func123 rfl Try.ntmps123 (Nat.le_of_ble_eq_true rfl) [(0, .int .i64 (n : Int)), (1, .slice A ss.length c), (2, .func (.func f) #[] #[])] rfl (fun w0 => ?_)
  repeat' (first
    | (refine SyC.seq ?_)
    | (refine SyC.region ?_)
    | (refine SyL.nil ?_)
    | (refine Then.norm ?_)
    | (refine SyC.block ?_)
    | (refine SyC.skip ?_)
    | (refine SyL.light (LV.move rfl) Rq.nil (by first | (apply Wn.none; rfl) | (refine Wn.yes rfl rfl rfl ?_; first | assumption | (with_reducible rfl) | decide | (simp only [decide_eq_true_eq, decide_eq_false_iff_not, Bool.not_eq_true', Bool.not_eq_false', beq_iff_eq, bne_iff_ne, ne_eq, beq_eq_false_iff_ne, bne_eq_false_iff_eq, Int.not_lt, Int.not_le, Bool.true_eq_false, Bool.false_eq_true, tb_one, tb_zero]; omega))) rfl (ltB rfl) ?_)
    | (refine SyL.light (LV.assign rfl) Rq.nil (by first | (apply Wn.none; rfl) | (refine Wn.yes rfl rfl rfl ?_; first | assumption | (with_reducible rfl) | decide | (simp only [decide_eq_true_eq, decide_eq_false_iff_not, Bool.not_eq_true', Bool.not_eq_false', beq_iff_eq, bne_iff_ne, ne_eq, beq_eq_false_iff_ne, bne_eq_false_iff_eq, Int.not_lt, Int.not_le, Bool.true_eq_false, Bool.false_eq_true, tb_one, tb_zero]; omega))) rfl (ltB rfl) ?_)
    | (refine SyL.light (LV.not rfl) Rq.nil (by first | (apply Wn.none; rfl) | (refine Wn.yes rfl rfl rfl ?_; first | assumption | (with_reducible rfl) | decide | (simp only [decide_eq_true_eq, decide_eq_false_iff_not, Bool.not_eq_true', Bool.not_eq_false', beq_iff_eq, bne_iff_ne, ne_eq, beq_eq_false_iff_ne, bne_eq_false_iff_eq, Int.not_lt, Int.not_le, Bool.true_eq_false, Bool.false_eq_true, tb_one, tb_zero]; omega))) rfl (ltB rfl) ?_)
    | (refine SyL.heavy (OpT.alloc (by apply rfl) (fun g_ hg_ => ?_)) (by first | (apply Wn.none; rfl) | (refine Wn.yes rfl rfl rfl ?_; first | assumption | (with_reducible rfl) | decide | (simp only [decide_eq_true_eq, decide_eq_false_iff_not, Bool.not_eq_true', Bool.not_eq_false', beq_iff_eq, bne_iff_ne, ne_eq, beq_eq_false_iff_ne, bne_eq_false_iff_eq, Int.not_lt, Int.not_le, Bool.true_eq_false, Bool.false_eq_true, tb_one, tb_zero]; omega))) rfl (ltB rfl))
    | (refine SyL.heavy (OpT.buildSlice (xs := []) (vs := []) rfl rfl rfl (by simp [Value.cells]) (by decide) (fun g_ hg_ => ?_)) (by first | (apply Wn.none; rfl) | (refine Wn.yes rfl rfl rfl ?_; first | assumption | (with_reducible rfl) | decide | (simp only [decide_eq_true_eq, decide_eq_false_iff_not, Bool.not_eq_true', Bool.not_eq_false', beq_iff_eq, bne_iff_ne, ne_eq, beq_eq_false_iff_ne, bne_eq_false_iff_eq, Int.not_lt, Int.not_le, Bool.true_eq_false, Bool.false_eq_true, tb_one, tb_zero]; omega))) rfl (ltB rfl))
    | (refine SyL.heavy0 (OpT.storeAll (by apply rfl) (by apply rfl) (k := 0) rfl (by first | (simp; done) | (simp only [List.length_cons, List.length_nil, U32_len]; done) | (simp only [List.length_cons, List.length_nil, U32_len]; omega) | (simp; omega) | omega) (by first | (simp; done) | (simp only [List.length_cons, List.length_nil, U32_len]; done) | (simp only [List.length_cons, List.length_nil, U32_len]; omega) | (simp; omega) | omega) (by first | assumption | simp [Value.oneCell']) ?_) (by first | (apply Wn.none; rfl) | (refine Wn.yes rfl rfl rfl ?_; first | assumption | (with_reducible rfl) | decide | (simp only [decide_eq_true_eq, decide_eq_false_iff_not, Bool.not_eq_true', Bool.not_eq_false', beq_iff_eq, bne_iff_ne, ne_eq, beq_eq_false_iff_ne, bne_eq_false_iff_eq, Int.not_lt, Int.not_le, Bool.true_eq_false, Bool.false_eq_true, tb_one, tb_zero]; omega))) rfl)
    | (refine SyL.heavy (OpT.pcall rfl rfl (h.right) ?_) (by first | (apply Wn.none; rfl) | (refine Wn.yes rfl rfl rfl ?_; first | assumption | (with_reducible rfl) | decide | (simp only [decide_eq_true_eq, decide_eq_false_iff_not, Bool.not_eq_true', Bool.not_eq_false', beq_iff_eq, bne_iff_ne, ne_eq, beq_eq_false_iff_ne, bne_eq_false_iff_eq, Int.not_lt, Int.not_le, Bool.true_eq_false, Bool.false_eq_true, tb_one, tb_zero]; omega))) rfl (ltB rfl); rintro v1 I1 hle1 rfl)
    | (refine SyL.heavy (OpT.pcall rfl rfl ((h.mono hle1).of) ?_) (by first | (apply Wn.none; rfl) | (refine Wn.yes rfl rfl rfl ?_; first | assumption | (with_reducible rfl) | decide | (simp only [decide_eq_true_eq, decide_eq_false_iff_not, Bool.not_eq_true', Bool.not_eq_false', beq_iff_eq, bne_iff_ne, ne_eq, beq_eq_false_iff_ne, bne_eq_false_iff_eq, Int.not_lt, Int.not_le, Bool.true_eq_false, Bool.false_eq_true, tb_one, tb_zero]; omega))) rfl (ltB rfl); rintro v2 I2 hle2 rfl)
    | (refine SyC.condF rfl (by first | assumption | (with_reducible rfl) | decide | (simp only [decide_eq_true_eq, decide_eq_false_iff_not, Bool.not_eq_true', Bool.not_eq_false', beq_iff_eq, bne_iff_ne, ne_eq, beq_eq_false_iff_ne, bne_eq_false_iff_eq, Int.not_lt, Int.not_le, Bool.true_eq_false, Bool.false_eq_true, tb_one, tb_zero]; omega)) ?_))
  generalize GO ss = G0 at *
  rename_i g1 hg1
  refine SyC.ownOf (k := 0) (m := 0) (sz := 1) rfl rfl (by simp [maxLen]) ?_
  refine SyC.loopD (fun m env I' rs => ∃ i B c', m = n - i ∧ i ≤ n ∧ I2.le I' ∧ rs = [.own B c' 3 1 (gRun cost n G0 i).out.length (N64 (gRun cost n G0 i).out), .blk g1 99 (U32 (gRun cost n G0 i).G)] ∧
    env = [(22, .int .i64 (i : Nat)), (21, .int .i64 (n : Nat)), (9, .slice B (gRun cost n G0 i).out.length c'), (8, .pointer (some ⟨g1, 0, none⟩)), (0, .int .i64 (n : Nat)), (2, .func (.func f) #[] #[])]) n _ (by repeat (first | exact trivial | refine ⟨rfl, ?_⟩)) ⟨0, _, _, rfl, by omega, IH.le.rfl, rfl, rfl⟩ ?_
  rintro m env I' rs ⟨i, B, c', rfl, hi, hle, rfl, rfl⟩
  have hgi := GInv.run (cost := cost) (n := n) hlen hsm i hi
  have hol := gRun_len cost n G0 i
  by_cases hlt : i < n
  · refine SyC.formD (List.mem_of_getElem? (i := 0) rfl) fun hB => ?_
    have hpk := gPick_some (cost := cost) hgi (by omega)
    have hsG := Hd.mk (gRun_G cost n G0 i)
    have hsO := Hd.mk (gRun_out cost n G0 i)
    generalize gPick cost n (gRun cost n G0 i) = pk at hsG hsO hpk
    generalize gRun cost n G0 i = S at hgi hol hsG hsO hB hpk
    have hread : ∀ (I0 : IH) j u, (N64 S.out)[j]? = some u → ∃ ad, B = some ad ∧ Rq I0 [.own B c' 3 1 S.out.length (N64 S.out), .blk g1 99 (U32 S.G)] [(ad.add j, u)] := fun I0 j u hu => by
      rcases hB with h0 | ⟨gb, rfl⟩
      · have := (List.getElem?_eq_some_iff.1 hu).1
        rw [N64_len] at this
        omega
      · exact ownRead (List.mem_of_getElem? (i := 0) rfl) j u hu
    obtain ⟨hpk1, hpk2, hpk3⟩ := hpk
    have hGl := hgi.len
    have hGs := hgi.sm
    repeat' (first
      | (refine SyC.seq ?_)
      | (refine SyC.region ?_)
      | (refine SyL.nil ?_)
      | (refine Then.norm ?_)
      | (refine SyC.block ?_)
      | (refine SyC.skip ?_)
      | (refine SyL.light (LV.move rfl) Rq.nil (by first | (apply Wn.none; rfl) | (refine Wn.yes rfl rfl rfl ?_; first | assumption | (with_reducible rfl) | decide | (simp only [decide_eq_true_eq, decide_eq_false_iff_not, Bool.not_eq_true', Bool.not_eq_false', beq_iff_eq, bne_iff_ne, ne_eq, beq_eq_false_iff_ne, bne_eq_false_iff_eq, Int.not_lt, Int.not_le, Bool.true_eq_false, Bool.false_eq_true, tb_one, tb_zero]; omega))) rfl (ltB rfl) ?_)
      | (refine SyL.light (LV.assign rfl) Rq.nil (by first | (apply Wn.none; rfl) | (refine Wn.yes rfl rfl rfl ?_; first | assumption | (with_reducible rfl) | decide | (simp only [decide_eq_true_eq, decide_eq_false_iff_not, Bool.not_eq_true', Bool.not_eq_false', beq_iff_eq, bne_iff_ne, ne_eq, beq_eq_false_iff_ne, bne_eq_false_iff_eq, Int.not_lt, Int.not_le, Bool.true_eq_false, Bool.false_eq_true, tb_one, tb_zero]; omega))) rfl (ltB rfl) ?_)
      | (refine SyL.light (LV.cmp rfl rfl rfl) Rq.nil (by first | (apply Wn.none; rfl) | (refine Wn.yes rfl rfl rfl ?_; first | assumption | (with_reducible rfl) | decide | (simp only [decide_eq_true_eq, decide_eq_false_iff_not, Bool.not_eq_true', Bool.not_eq_false', beq_iff_eq, bne_iff_ne, ne_eq, beq_eq_false_iff_ne, bne_eq_false_iff_eq, Int.not_lt, Int.not_le, Bool.true_eq_false, Bool.false_eq_true, tb_one, tb_zero]; omega))) rfl (ltB rfl) ?_)
      | (refine SyC.condT rfl (by first | assumption | (with_reducible rfl) | decide | (simp only [decide_eq_true_eq, decide_eq_false_iff_not, Bool.not_eq_true', Bool.not_eq_false', beq_iff_eq, bne_iff_ne, ne_eq, beq_eq_false_iff_ne, bne_eq_false_iff_eq, Int.not_lt, Int.not_le, Bool.true_eq_false, Bool.false_eq_true, tb_one, tb_zero]; omega)) ?_))
    refine SyC.loop (fun m env I'' rs => ∃ k, m = n - k ∧ k ≤ n ∧ I'.le I'' ∧ rs = [.own B c' 3 1 S.out.length (N64 S.out), .blk g1 99 (U32 S.G)] ∧
      env = [(25, .int .i64 (k : Nat)), (24, .int .i64 (n : Nat)), (10, .int .i64 (bestV (bestOf (fun v => decide (v ∈ S.out)) (cost S.G) k))), (11, .int .i64 (bestC (cost S.G) (bestOf (fun v => decide (v ∈ S.out)) (cost S.G) k))),
        (22, .int .i64 (i : Nat)), (21, .int .i64 (n : Nat)), (9, .slice B S.out.length c'), (8, .pointer (some ⟨g1, 0, none⟩)), (0, .int .i64 (n : Nat)), (2, .func (.func f) #[] #[])]) n _ (by repeat (first | exact trivial | refine ⟨rfl, ?_⟩)) ⟨0, rfl, by omega, IH.le.rfl, rfl, rfl⟩ ?_
    rintro m env I'' rs ⟨k, rfl, hk, hle', rfl, rfl⟩
    by_cases hkn : k < n
    · have hst : bestOf (fun v => decide (v ∈ S.out)) (cost S.G) (k + 1) = _ := bestOf.eq_2 _ _ _
      have hlb : ∀ b, bestOf (fun v => decide (v ∈ S.out)) (cost S.G) k = some b → b < k := fun b hb => (bestOf_lt hb).1
      have hck := hcost S.G k
      by_cases hb : k ∈ S.out
      · simp only [hb, decide_true, if_true] at hst
        rw [← hst]
        have hdb : decide (k ∈ S.out) = true := by simp [hb]
        repeat' (first
          | (refine SyC.seq ?_)
          | (refine SyC.region ?_)
          | (refine SyL.nil ?_)
          | (refine Then.norm ?_)
          | (refine Then.exit ?_)
          | (refine InB.hit ?_)
          | (refine SyC.block ?_)
          | (refine SyC.skip ?_)
          | (refine SyC.exit ?_)
          | (refine SyL.light (LV.move rfl) Rq.nil (by first | (apply Wn.none; rfl) | (refine Wn.yes rfl rfl rfl ?_; first | assumption | (with_reducible rfl) | decide | (simp only [decide_eq_true_eq, decide_eq_false_iff_not, Bool.not_eq_true', Bool.not_eq_false', beq_iff_eq, bne_iff_ne, ne_eq, beq_eq_false_iff_ne, bne_eq_false_iff_eq, Int.not_lt, Int.not_le, Bool.true_eq_false, Bool.false_eq_true, tb_one, tb_zero]; omega))) rfl (ltB rfl) ?_)
          | (refine SyL.light (LV.assign rfl) Rq.nil (by first | (apply Wn.none; rfl) | (refine Wn.yes rfl rfl rfl ?_; first | assumption | (with_reducible rfl) | decide | (simp only [decide_eq_true_eq, decide_eq_false_iff_not, Bool.not_eq_true', Bool.not_eq_false', beq_iff_eq, bne_iff_ne, ne_eq, beq_eq_false_iff_ne, bne_eq_false_iff_eq, Int.not_lt, Int.not_le, Bool.true_eq_false, Bool.false_eq_true, tb_one, tb_zero]; omega))) rfl (ltB rfl) ?_)
          | (refine SyL.light (LV.cmp rfl rfl rfl) Rq.nil (by first | (apply Wn.none; rfl) | (refine Wn.yes rfl rfl rfl ?_; first | assumption | (with_reducible rfl) | decide | (simp only [decide_eq_true_eq, decide_eq_false_iff_not, Bool.not_eq_true', Bool.not_eq_false', beq_iff_eq, bne_iff_ne, ne_eq, beq_eq_false_iff_ne, bne_eq_false_iff_eq, Int.not_lt, Int.not_le, Bool.true_eq_false, Bool.false_eq_true, tb_one, tb_zero]; omega))) rfl (ltB rfl) ?_)
          | (refine SyL.light (LV.arN rfl rfl rfl (by simp only [Fits]; omega)) Rq.nil (by first | (apply Wn.none; rfl) | (refine Wn.yes rfl rfl rfl ?_; first | assumption | (with_reducible rfl) | decide | (simp only [decide_eq_true_eq, decide_eq_false_iff_not, Bool.not_eq_true', Bool.not_eq_false', beq_iff_eq, bne_iff_ne, ne_eq, beq_eq_false_iff_ne, bne_eq_false_iff_eq, Int.not_lt, Int.not_le, Bool.true_eq_false, Bool.false_eq_true, tb_one, tb_zero]; omega))) rfl (ltB rfl) ?_)
          | (refine SyL.heavy (OpT.callA rfl rfl (contains_c _ _ B c' S.out k (by omega) (hread _)) ?_) (by first | (apply Wn.none; rfl) | (refine Wn.yes rfl rfl rfl ?_; first | assumption | (with_reducible rfl) | decide | (simp only [decide_eq_true_eq, decide_eq_false_iff_not, Bool.not_eq_true', Bool.not_eq_false', beq_iff_eq, bne_iff_ne, ne_eq, beq_eq_false_iff_ne, bne_eq_false_iff_eq, Int.not_lt, Int.not_le, Bool.true_eq_false, Bool.false_eq_true, tb_one, tb_zero]; omega))) rfl (ltB rfl); rintro v1 I1 rs1 hle1 ⟨rfl, rfl, rfl⟩)
          | (refine SyC.condT rfl (by first | assumption | (with_reducible rfl) | decide | (simp only [decide_eq_true_eq, decide_eq_false_iff_not, Bool.not_eq_true', Bool.not_eq_false', beq_iff_eq, bne_iff_ne, ne_eq, beq_eq_false_iff_ne, bne_eq_false_iff_eq, Int.not_lt, Int.not_le, Bool.true_eq_false, Bool.false_eq_true, tb_one, tb_zero]; omega)) ?_))
        exact ⟨n - (k + 1), _, by omega, (by repeat (first | exact trivial | refine ⟨rfl, ?_⟩)), k + 1, rfl, by omega, hle', rfl, rfl⟩
      · simp only [hb, decide_false, Bool.false_eq_true, if_false] at hst
        have hdb : decide (k ∈ S.out) = false := by simp [hb]
        generalize bestOf (fun v => decide (v ∈ S.out)) (cost S.G) k = r at hst hlb
        cases r with
        | none =>
          simp only [bestV, bestC] at hst ⊢
          repeat' (first
            | (refine SyC.seq ?_)
            | (refine SyC.region ?_)
            | (refine SyL.nil ?_)
            | (refine Then.norm ?_)
            | (refine InB.norm ?_)
            | (refine SyC.block ?_)
            | (refine SyC.skip ?_)
            | (refine SyL.light (LV.move rfl) Rq.nil (by first | (apply Wn.none; rfl) | (refine Wn.yes rfl rfl rfl ?_; first | assumption | (with_reducible rfl) | decide | (simp only [decide_eq_true_eq, decide_eq_false_iff_not, Bool.not_eq_true', Bool.not_eq_false', beq_iff_eq, bne_iff_ne, ne_eq, beq_eq_false_iff_ne, bne_eq_false_iff_eq, Int.not_lt, Int.not_le, Bool.true_eq_false, Bool.false_eq_true, tb_one, tb_zero]; omega))) rfl (ltB rfl) ?_)
            | (refine SyL.light (LV.assign rfl) Rq.nil (by first | (apply Wn.none; rfl) | (refine Wn.yes rfl rfl rfl ?_; first | assumption | (with_reducible rfl) | decide | (simp only [decide_eq_true_eq, decide_eq_false_iff_not, Bool.not_eq_true', Bool.not_eq_false', beq_iff_eq, bne_iff_ne, ne_eq, beq_eq_false_iff_ne, bne_eq_false_iff_eq, Int.not_lt, Int.not_le, Bool.true_eq_false, Bool.false_eq_true, tb_one, tb_zero]; omega))) rfl (ltB rfl) ?_)
            | (refine SyL.offF rfl rfl rfl (by first | assumption | (with_reducible rfl) | decide | (simp only [decide_eq_true_eq, decide_eq_false_iff_not, Bool.not_eq_true', Bool.not_eq_false', beq_iff_eq, bne_iff_ne, ne_eq, beq_eq_false_iff_ne, bne_eq_false_iff_eq, Int.not_lt, Int.not_le, Bool.true_eq_false, Bool.false_eq_true, tb_one, tb_zero]; omega)) rfl (ltB rfl) ?_)
            | (refine SyL.light (LV.cmp rfl rfl rfl) Rq.nil (by first | (apply Wn.none; rfl) | (refine Wn.yes rfl rfl rfl ?_; first | assumption | (with_reducible rfl) | decide | (simp only [decide_eq_true_eq, decide_eq_false_iff_not, Bool.not_eq_true', Bool.not_eq_false', beq_iff_eq, bne_iff_ne, ne_eq, beq_eq_false_iff_ne, bne_eq_false_iff_eq, Int.not_lt, Int.not_le, Bool.true_eq_false, Bool.false_eq_true, tb_one, tb_zero]; omega))) rfl (ltB rfl) ?_)
            | (refine SyL.light (LV.arN rfl rfl rfl (by simp only [Fits]; omega)) Rq.nil (by first | (apply Wn.none; rfl) | (refine Wn.yes rfl rfl rfl ?_; first | assumption | (with_reducible rfl) | decide | (simp only [decide_eq_true_eq, decide_eq_false_iff_not, Bool.not_eq_true', Bool.not_eq_false', beq_iff_eq, bne_iff_ne, ne_eq, beq_eq_false_iff_ne, bne_eq_false_iff_eq, Int.not_lt, Int.not_le, Bool.true_eq_false, Bool.false_eq_true, tb_one, tb_zero]; omega))) rfl (ltB rfl) ?_)
            | (refine SyL.light (LV.pickT rfl (by first | assumption | (with_reducible rfl) | decide | (simp only [decide_eq_true_eq, decide_eq_false_iff_not, Bool.not_eq_true', Bool.not_eq_false', beq_iff_eq, bne_iff_ne, ne_eq, beq_eq_false_iff_ne, bne_eq_false_iff_eq, Int.not_lt, Int.not_le, Bool.true_eq_false, Bool.false_eq_true, tb_one, tb_zero]; omega)) rfl) Rq.nil (by first | (apply Wn.none; rfl) | (refine Wn.yes rfl rfl rfl ?_; first | assumption | (with_reducible rfl) | decide | (simp only [decide_eq_true_eq, decide_eq_false_iff_not, Bool.not_eq_true', Bool.not_eq_false', beq_iff_eq, bne_iff_ne, ne_eq, beq_eq_false_iff_ne, bne_eq_false_iff_eq, Int.not_lt, Int.not_le, Bool.true_eq_false, Bool.false_eq_true, tb_one, tb_zero]; omega))) rfl (ltB rfl) ?_)
            | (refine SyL.heavy (OpT.callA rfl rfl (contains_c _ _ B c' S.out k (by omega) (hread _)) ?_) (by first | (apply Wn.none; rfl) | (refine Wn.yes rfl rfl rfl ?_; first | assumption | (with_reducible rfl) | decide | (simp only [decide_eq_true_eq, decide_eq_false_iff_not, Bool.not_eq_true', Bool.not_eq_false', beq_iff_eq, bne_iff_ne, ne_eq, beq_eq_false_iff_ne, bne_eq_false_iff_eq, Int.not_lt, Int.not_le, Bool.true_eq_false, Bool.false_eq_true, tb_one, tb_zero]; omega))) rfl (ltB rfl); rintro v1 I1 rs1 hle1 ⟨rfl, rfl, rfl⟩)
            | (refine SyL.heavy (OpT.callW 1 1 rfl rfl (hf _ g1 k S.G hGl hGs (by omega)) rfl ?_) (by first | (apply Wn.none; rfl) | (refine Wn.yes rfl rfl rfl ?_; first | assumption | (with_reducible rfl) | decide | (simp only [decide_eq_true_eq, decide_eq_false_iff_not, Bool.not_eq_true', Bool.not_eq_false', beq_iff_eq, bne_iff_ne, ne_eq, beq_eq_false_iff_ne, bne_eq_false_iff_eq, Int.not_lt, Int.not_le, Bool.true_eq_false, Bool.false_eq_true, tb_one, tb_zero]; omega))) rfl (ltB rfl); rintro v2 I2 rs2 hle2 ⟨rfl, rfl⟩)
            | (refine SyC.condT rfl (by first | assumption | (with_reducible rfl) | decide | (simp only [decide_eq_true_eq, decide_eq_false_iff_not, Bool.not_eq_true', Bool.not_eq_false', beq_iff_eq, bne_iff_ne, ne_eq, beq_eq_false_iff_ne, bne_eq_false_iff_eq, Int.not_lt, Int.not_le, Bool.true_eq_false, Bool.false_eq_true, tb_one, tb_zero]; omega)) ?_)
            | (refine SyC.condF rfl (by first | assumption | (with_reducible rfl) | decide | (simp only [decide_eq_true_eq, decide_eq_false_iff_not, Bool.not_eq_true', Bool.not_eq_false', beq_iff_eq, bne_iff_ne, ne_eq, beq_eq_false_iff_ne, bne_eq_false_iff_eq, Int.not_lt, Int.not_le, Bool.true_eq_false, Bool.false_eq_true, tb_one, tb_zero]; omega)) ?_))
          refine ⟨n - (k + 1), [(25, .int .i64 (k + 1 : Nat)), (24, .int .i64 (n : Nat)), (10, .int .i64 (k : Nat)), (11, .int .i64 (cost S.G k : Nat)), (22, .int .i64 (i : Nat)), (21, .int .i64 (n : Nat)), (9, .slice B S.out.length c'), (8, .pointer (some ⟨g1, 0, none⟩)), (0, .int .i64 (n : Nat)), (2, .func (.func f) #[] #[])], by omega, (by repeat (first | exact trivial | refine ⟨rfl, ?_⟩)), k + 1, rfl, by omega, hle'.trans hle2, rfl, ?_⟩
          rw [hst]
        | some b =>
          have hbk := hcost S.G b
          simp only [bestV, bestC] at hst ⊢
          by_cases hc : cost S.G k < cost S.G b
          · rw [if_pos hc] at hst
            repeat' (first
              | (refine SyC.seq ?_)
              | (refine SyC.region ?_)
              | (refine SyL.nil ?_)
              | (refine Then.norm ?_)
              | (refine InB.norm ?_)
              | (refine SyC.block ?_)
              | (refine SyC.skip ?_)
              | (refine SyL.light (LV.move rfl) Rq.nil (by first | (apply Wn.none; rfl) | (refine Wn.yes rfl rfl rfl ?_; first | assumption | (with_reducible rfl) | decide | (simp only [decide_eq_true_eq, decide_eq_false_iff_not, Bool.not_eq_true', Bool.not_eq_false', beq_iff_eq, bne_iff_ne, ne_eq, beq_eq_false_iff_ne, bne_eq_false_iff_eq, Int.not_lt, Int.not_le, Bool.true_eq_false, Bool.false_eq_true, tb_one, tb_zero]; omega))) rfl (ltB rfl) ?_)
              | (refine SyL.light (LV.assign rfl) Rq.nil (by first | (apply Wn.none; rfl) | (refine Wn.yes rfl rfl rfl ?_; first | assumption | (with_reducible rfl) | decide | (simp only [decide_eq_true_eq, decide_eq_false_iff_not, Bool.not_eq_true', Bool.not_eq_false', beq_iff_eq, bne_iff_ne, ne_eq, beq_eq_false_iff_ne, bne_eq_false_iff_eq, Int.not_lt, Int.not_le, Bool.true_eq_false, Bool.false_eq_true, tb_one, tb_zero]; omega))) rfl (ltB rfl) ?_)
              | (refine SyL.light (LV.cmp rfl rfl rfl) Rq.nil (by first | (apply Wn.none; rfl) | (refine Wn.yes rfl rfl rfl ?_; first | assumption | (with_reducible rfl) | decide | (simp only [decide_eq_true_eq, decide_eq_false_iff_not, Bool.not_eq_true', Bool.not_eq_false', beq_iff_eq, bne_iff_ne, ne_eq, beq_eq_false_iff_ne, bne_eq_false_iff_eq, Int.not_lt, Int.not_le, Bool.true_eq_false, Bool.false_eq_true, tb_one, tb_zero]; omega))) rfl (ltB rfl) ?_)
              | (refine SyL.light (LV.arN rfl rfl rfl (by simp only [Fits]; omega)) Rq.nil (by first | (apply Wn.none; rfl) | (refine Wn.yes rfl rfl rfl ?_; first | assumption | (with_reducible rfl) | decide | (simp only [decide_eq_true_eq, decide_eq_false_iff_not, Bool.not_eq_true', Bool.not_eq_false', beq_iff_eq, bne_iff_ne, ne_eq, beq_eq_false_iff_ne, bne_eq_false_iff_eq, Int.not_lt, Int.not_le, Bool.true_eq_false, Bool.false_eq_true, tb_one, tb_zero]; omega))) rfl (ltB rfl) ?_)
              | (refine SyL.light (LV.pickF rfl (by first | assumption | (with_reducible rfl) | decide | (simp only [decide_eq_true_eq, decide_eq_false_iff_not, Bool.not_eq_true', Bool.not_eq_false', beq_iff_eq, bne_iff_ne, ne_eq, beq_eq_false_iff_ne, bne_eq_false_iff_eq, Int.not_lt, Int.not_le, Bool.true_eq_false, Bool.false_eq_true, tb_one, tb_zero]; omega)) rfl) Rq.nil (by first | (apply Wn.none; rfl) | (refine Wn.yes rfl rfl rfl ?_; first | assumption | (with_reducible rfl) | decide | (simp only [decide_eq_true_eq, decide_eq_false_iff_not, Bool.not_eq_true', Bool.not_eq_false', beq_iff_eq, bne_iff_ne, ne_eq, beq_eq_false_iff_ne, bne_eq_false_iff_eq, Int.not_lt, Int.not_le, Bool.true_eq_false, Bool.false_eq_true, tb_one, tb_zero]; omega))) rfl (ltB rfl) ?_)
              | (refine SyL.heavy (OpT.callA rfl rfl (contains_c _ _ B c' S.out k (by omega) (hread _)) ?_) (by first | (apply Wn.none; rfl) | (refine Wn.yes rfl rfl rfl ?_; first | assumption | (with_reducible rfl) | decide | (simp only [decide_eq_true_eq, decide_eq_false_iff_not, Bool.not_eq_true', Bool.not_eq_false', beq_iff_eq, bne_iff_ne, ne_eq, beq_eq_false_iff_ne, bne_eq_false_iff_eq, Int.not_lt, Int.not_le, Bool.true_eq_false, Bool.false_eq_true, tb_one, tb_zero]; omega))) rfl (ltB rfl); rintro v1 I1 rs1 hle1 ⟨rfl, rfl, rfl⟩)
              | (refine SyL.heavy (OpT.callW 1 1 rfl rfl (hf _ g1 k S.G hGl hGs (by omega)) rfl ?_) (by first | (apply Wn.none; rfl) | (refine Wn.yes rfl rfl rfl ?_; first | assumption | (with_reducible rfl) | decide | (simp only [decide_eq_true_eq, decide_eq_false_iff_not, Bool.not_eq_true', Bool.not_eq_false', beq_iff_eq, bne_iff_ne, ne_eq, beq_eq_false_iff_ne, bne_eq_false_iff_eq, Int.not_lt, Int.not_le, Bool.true_eq_false, Bool.false_eq_true, tb_one, tb_zero]; omega))) rfl (ltB rfl); rintro v2 I2 rs2 hle2 ⟨rfl, rfl⟩)
              | (refine SyC.condT rfl (by first | assumption | (with_reducible rfl) | decide | (simp only [decide_eq_true_eq, decide_eq_false_iff_not, Bool.not_eq_true', Bool.not_eq_false', beq_iff_eq, bne_iff_ne, ne_eq, beq_eq_false_iff_ne, bne_eq_false_iff_eq, Int.not_lt, Int.not_le, Bool.true_eq_false, Bool.false_eq_true, tb_one, tb_zero]; omega)) ?_)
              | (refine SyC.condF rfl (by first | assumption | (with_reducible rfl) | decide | (simp only [decide_eq_true_eq, decide_eq_false_iff_not, Bool.not_eq_true', Bool.not_eq_false', beq_iff_eq, bne_iff_ne, ne_eq, beq_eq_false_iff_ne, bne_eq_false_iff_eq, Int.not_lt, Int.not_le, Bool.true_eq_false, Bool.false_eq_true, tb_one, tb_zero]; omega)) ?_))
            refine ⟨n - (k + 1), [(25, .int .i64 (k + 1 : Nat)), (24, .int .i64 (n : Nat)), (10, .int .i64 (k : Nat)), (11, .int .i64 (cost S.G k : Nat)), (22, .int .i64 (i : Nat)), (21, .int .i64 (n : Nat)), (9, .slice B S.out.length c'), (8, .pointer (some ⟨g1, 0, none⟩)), (0, .int .i64 (n : Nat)), (2, .func (.func f) #[] #[])], by omega, (by repeat (first | exact trivial | refine ⟨rfl, ?_⟩)), k + 1, rfl, by omega, hle'.trans hle2, rfl, ?_⟩
            rw [hst]
          · rw [if_neg hc] at hst
            repeat' (first
              | (refine SyC.seq ?_)
              | (refine SyC.region ?_)
              | (refine SyL.nil ?_)
              | (refine Then.norm ?_)
              | (refine InB.norm ?_)
              | (refine SyC.block ?_)
              | (refine SyC.skip ?_)
              | (refine SyL.light (LV.move rfl) Rq.nil (by first | (apply Wn.none; rfl) | (refine Wn.yes rfl rfl rfl ?_; first | assumption | (with_reducible rfl) | decide | (simp only [decide_eq_true_eq, decide_eq_false_iff_not, Bool.not_eq_true', Bool.not_eq_false', beq_iff_eq, bne_iff_ne, ne_eq, beq_eq_false_iff_ne, bne_eq_false_iff_eq, Int.not_lt, Int.not_le, Bool.true_eq_false, Bool.false_eq_true, tb_one, tb_zero]; omega))) rfl (ltB rfl) ?_)
              | (refine SyL.light (LV.assign rfl) Rq.nil (by first | (apply Wn.none; rfl) | (refine Wn.yes rfl rfl rfl ?_; first | assumption | (with_reducible rfl) | decide | (simp only [decide_eq_true_eq, decide_eq_false_iff_not, Bool.not_eq_true', Bool.not_eq_false', beq_iff_eq, bne_iff_ne, ne_eq, beq_eq_false_iff_ne, bne_eq_false_iff_eq, Int.not_lt, Int.not_le, Bool.true_eq_false, Bool.false_eq_true, tb_one, tb_zero]; omega))) rfl (ltB rfl) ?_)
              | (refine SyL.light (LV.cmp rfl rfl rfl) Rq.nil (by first | (apply Wn.none; rfl) | (refine Wn.yes rfl rfl rfl ?_; first | assumption | (with_reducible rfl) | decide | (simp only [decide_eq_true_eq, decide_eq_false_iff_not, Bool.not_eq_true', Bool.not_eq_false', beq_iff_eq, bne_iff_ne, ne_eq, beq_eq_false_iff_ne, bne_eq_false_iff_eq, Int.not_lt, Int.not_le, Bool.true_eq_false, Bool.false_eq_true, tb_one, tb_zero]; omega))) rfl (ltB rfl) ?_)
              | (refine SyL.light (LV.arN rfl rfl rfl (by simp only [Fits]; omega)) Rq.nil (by first | (apply Wn.none; rfl) | (refine Wn.yes rfl rfl rfl ?_; first | assumption | (with_reducible rfl) | decide | (simp only [decide_eq_true_eq, decide_eq_false_iff_not, Bool.not_eq_true', Bool.not_eq_false', beq_iff_eq, bne_iff_ne, ne_eq, beq_eq_false_iff_ne, bne_eq_false_iff_eq, Int.not_lt, Int.not_le, Bool.true_eq_false, Bool.false_eq_true, tb_one, tb_zero]; omega))) rfl (ltB rfl) ?_)
              | (refine SyL.light (LV.pickF rfl (by first | assumption | (with_reducible rfl) | decide | (simp only [decide_eq_true_eq, decide_eq_false_iff_not, Bool.not_eq_true', Bool.not_eq_false', beq_iff_eq, bne_iff_ne, ne_eq, beq_eq_false_iff_ne, bne_eq_false_iff_eq, Int.not_lt, Int.not_le, Bool.true_eq_false, Bool.false_eq_true, tb_one, tb_zero]; omega)) rfl) Rq.nil (by first | (apply Wn.none; rfl) | (refine Wn.yes rfl rfl rfl ?_; first | assumption | (with_reducible rfl) | decide | (simp only [decide_eq_true_eq, decide_eq_false_iff_not, Bool.not_eq_true', Bool.not_eq_false', beq_iff_eq, bne_iff_ne, ne_eq, beq_eq_false_iff_ne, bne_eq_false_iff_eq, Int.not_lt, Int.not_le, Bool.true_eq_false, Bool.false_eq_true, tb_one, tb_zero]; omega))) rfl (ltB rfl) ?_)
              | (refine SyL.heavy (OpT.callA rfl rfl (contains_c _ _ B c' S.out k (by omega) (hread _)) ?_) (by first | (apply Wn.none; rfl) | (refine Wn.yes rfl rfl rfl ?_; first | assumption | (with_reducible rfl) | decide | (simp only [decide_eq_true_eq, decide_eq_false_iff_not, Bool.not_eq_true', Bool.not_eq_false', beq_iff_eq, bne_iff_ne, ne_eq, beq_eq_false_iff_ne, bne_eq_false_iff_eq, Int.not_lt, Int.not_le, Bool.true_eq_false, Bool.false_eq_true, tb_one, tb_zero]; omega))) rfl (ltB rfl); rintro v1 I1 rs1 hle1 ⟨rfl, rfl, rfl⟩)
              | (refine SyL.heavy (OpT.callW 1 1 rfl rfl (hf _ g1 k S.G hGl hGs (by omega)) rfl ?_) (by first | (apply Wn.none; rfl) | (refine Wn.yes rfl rfl rfl ?_; first | assumption | (with_reducible rfl) | decide | (simp only [decide_eq_true_eq, decide_eq_false_iff_not, Bool.not_eq_true', Bool.not_eq_false', beq_iff_eq, bne_iff_ne, ne_eq, beq_eq_false_iff_ne, bne_eq_false_iff_eq, Int.not_lt, Int.not_le, Bool.true_eq_false, Bool.false_eq_true, tb_one, tb_zero]; omega))) rfl (ltB rfl); rintro v2 I2 rs2 hle2 ⟨rfl, rfl⟩)
              | (refine SyC.condT rfl (by first | assumption | (with_reducible rfl) | decide | (simp only [decide_eq_true_eq, decide_eq_false_iff_not, Bool.not_eq_true', Bool.not_eq_false', beq_iff_eq, bne_iff_ne, ne_eq, beq_eq_false_iff_ne, bne_eq_false_iff_eq, Int.not_lt, Int.not_le, Bool.true_eq_false, Bool.false_eq_true, tb_one, tb_zero]; omega)) ?_)
              | (refine SyC.condF rfl (by first | assumption | (with_reducible rfl) | decide | (simp only [decide_eq_true_eq, decide_eq_false_iff_not, Bool.not_eq_true', Bool.not_eq_false', beq_iff_eq, bne_iff_ne, ne_eq, beq_eq_false_iff_ne, bne_eq_false_iff_eq, Int.not_lt, Int.not_le, Bool.true_eq_false, Bool.false_eq_true, tb_one, tb_zero]; omega)) ?_))
            refine ⟨n - (k + 1), [(25, .int .i64 (k + 1 : Nat)), (24, .int .i64 (n : Nat)), (10, .int .i64 (b : Nat)), (11, .int .i64 (cost S.G b : Nat)), (22, .int .i64 (i : Nat)), (21, .int .i64 (n : Nat)), (9, .slice B S.out.length c'), (8, .pointer (some ⟨g1, 0, none⟩)), (0, .int .i64 (n : Nat)), (2, .func (.func f) #[] #[])], by omega, (by repeat (first | exact trivial | refine ⟨rfl, ?_⟩)), k + 1, rfl, by omega, hle'.trans hle2, rfl, ?_⟩
            rw [hst]
    · obtain rfl : n = k := by omega
      rw [hpk1]
      simp only [bestV]
      repeat' (first
        | (refine SyC.seq ?_)
        | (refine SyC.region ?_)
        | (refine SyL.nil ?_)
        | (refine Then.norm ?_)
        | (refine Then.exit ?_)
        | (refine InB.norm ?_)
        | (refine InB.hit ?_)
        | (refine SyC.exit ?_)
        | (refine SyL.light (LV.move rfl) Rq.nil (by first | (apply Wn.none; rfl) | (refine Wn.yes rfl rfl rfl ?_; first | assumption | (with_reducible rfl) | decide | (simp only [decide_eq_true_eq, decide_eq_false_iff_not, Bool.not_eq_true', Bool.not_eq_false', beq_iff_eq, bne_iff_ne, ne_eq, beq_eq_false_iff_ne, bne_eq_false_iff_eq, Int.not_lt, Int.not_le, Bool.true_eq_false, Bool.false_eq_true, tb_one, tb_zero]; omega))) rfl (ltB rfl) ?_)
        | (refine SyL.light (LV.assign rfl) Rq.nil (by first | (apply Wn.none; rfl) | (refine Wn.yes rfl rfl rfl ?_; first | assumption | (with_reducible rfl) | decide | (simp only [decide_eq_true_eq, decide_eq_false_iff_not, Bool.not_eq_true', Bool.not_eq_false', beq_iff_eq, bne_iff_ne, ne_eq, beq_eq_false_iff_ne, bne_eq_false_iff_eq, Int.not_lt, Int.not_le, Bool.true_eq_false, Bool.false_eq_true, tb_one, tb_zero]; omega))) rfl (ltB rfl) ?_)
        | (refine SyL.light (LV.cmp rfl rfl rfl) Rq.nil (by first | (apply Wn.none; rfl) | (refine Wn.yes rfl rfl rfl ?_; first | assumption | (with_reducible rfl) | decide | (simp only [decide_eq_true_eq, decide_eq_false_iff_not, Bool.not_eq_true', Bool.not_eq_false', beq_iff_eq, bne_iff_ne, ne_eq, beq_eq_false_iff_ne, bne_eq_false_iff_eq, Int.not_lt, Int.not_le, Bool.true_eq_false, Bool.false_eq_true, tb_one, tb_zero]; omega))) rfl (ltB rfl) ?_)
        | (refine SyL.light (LV.arN rfl rfl rfl (by simp only [Fits]; omega)) Rq.nil (by first | (apply Wn.none; rfl) | (refine Wn.yes rfl rfl rfl ?_; first | assumption | (with_reducible rfl) | decide | (simp only [decide_eq_true_eq, decide_eq_false_iff_not, Bool.not_eq_true', Bool.not_eq_false', beq_iff_eq, bne_iff_ne, ne_eq, beq_eq_false_iff_ne, bne_eq_false_iff_eq, Int.not_lt, Int.not_le, Bool.true_eq_false, Bool.false_eq_true, tb_one, tb_zero]; omega))) rfl (ltB rfl) ?_)
        | (refine SyL.heavy (OpT.buildSlice (xs := [_]) (vs := [_]) rfl rfl rfl (by simp [Value.cells]) (by decide) (fun g_ hg_ => ?_)) (by first | (apply Wn.none; rfl) | (refine Wn.yes rfl rfl rfl ?_; first | assumption | (with_reducible rfl) | decide | (simp only [decide_eq_true_eq, decide_eq_false_iff_not, Bool.not_eq_true', Bool.not_eq_false', beq_iff_eq, bne_iff_ne, ne_eq, beq_eq_false_iff_ne, bne_eq_false_iff_eq, Int.not_lt, Int.not_le, Bool.true_eq_false, Bool.false_eq_true, tb_one, tb_zero]; omega))) rfl (ltB rfl))
        | (refine SyL.heavy (OpT.append (by apply rfl) (by apply rfl) (k := 1) rfl (by first | (simp; done) | (simp only [List.length_cons, List.length_nil]; done) | (simp only [List.length_cons, List.length_nil]; omega) | (simp; omega) | omega) (Rq.blkAll (List.mem_of_getElem? (i := 0) rfl)) (by simp [Value.oneCell']) (by first | omega | (simp only [List.length_append, List.length_cons, List.length_nil]; omega)) (by first | omega | (simp only [List.length_append, List.length_cons, List.length_nil]; omega)) (by decide) (fun A_ c_ => ?_)) (by first | (apply Wn.none; rfl) | (refine Wn.yes rfl rfl rfl ?_; first | assumption | (with_reducible rfl) | decide | (simp only [decide_eq_true_eq, decide_eq_false_iff_not, Bool.not_eq_true', Bool.not_eq_false', beq_iff_eq, bne_iff_ne, ne_eq, beq_eq_false_iff_ne, bne_eq_false_iff_eq, Int.not_lt, Int.not_le, Bool.true_eq_false, Bool.false_eq_true, tb_one, tb_zero]; omega))) rfl (ltB rfl))
        | (refine SyL.heavy (OpT.callW 2 1 rfl rfl (elim_c _ g1 pk S.G hGl hGs (by omega)) rfl ?_) (by first | (apply Wn.none; rfl) | (refine Wn.yes rfl rfl rfl ?_; first | assumption | (with_reducible rfl) | decide | (simp only [decide_eq_true_eq, decide_eq_false_iff_not, Bool.not_eq_true', Bool.not_eq_false', beq_iff_eq, bne_iff_ne, ne_eq, beq_eq_false_iff_ne, bne_eq_false_iff_eq, Int.not_lt, Int.not_le, Bool.true_eq_false, Bool.false_eq_true, tb_one, tb_zero]; omega))) rfl (ltB rfl); rintro v2 I2 rs2 hle2 ⟨A2, c2, rfl, hrd, rfl⟩)
        | (refine SyC.condF rfl (by first | assumption | (with_reducible rfl) | decide | (simp only [decide_eq_true_eq, decide_eq_false_iff_not, Bool.not_eq_true', Bool.not_eq_false', beq_iff_eq, bne_iff_ne, ne_eq, beq_eq_false_iff_ne, bne_eq_false_iff_eq, Int.not_lt, Int.not_le, Bool.true_eq_false, Bool.false_eq_true, tb_one, tb_zero]; omega)) ?_))
      rw [N64_snoc, show S.out.length + 1 = (S.out ++ [pk]).length from by simp]
      exact ⟨n - (i + 1), [(22, .int .i64 (i + 1 : Nat)), (21, .int .i64 (n : Nat)), (9, .slice A_ (S.out ++ [pk]).length c_), (8, .pointer (some ⟨g1, 0, none⟩)), (0, .int .i64 (n : Nat)), (2, .func (.func f) #[] #[])],
        [.own A_ c_ 3 1 (S.out ++ [pk]).length (N64 (S.out ++ [pk])), .blk g1 99 (U32 (elimO S.G pk))], by omega, (by repeat (first | exact trivial | refine ⟨rfl, ?_⟩)), ⟨i + 1, A_, c_, rfl, by omega, (hle.trans hle').trans hle2, by rw [hsG.out, hsO.out], by rw [hsO.out]⟩, (by repeat (first | exact List.Sublist.refl _ | exact List.nil_sublist _ | refine List.Sublist.cons_cons _ ?_ | refine List.Sublist.cons _ ?_))⟩
  · obtain rfl : i = n := by omega
    refine SyC.freezeOwn fun I3 hle3 hrd3 => ?_
    repeat' (first
      | (refine SyC.seq ?_)
      | (refine SyC.region ?_)
      | (refine SyL.nil ?_)
      | (refine Then.norm ?_)
      | (refine Then.exit ?_)
      | (refine InB.hit ?_)
      | (refine SyC.exit ?_)
      | (refine SyC.ret ?_)
      | (refine SyL.light (LV.move rfl) Rq.nil (by first | (apply Wn.none; rfl) | (refine Wn.yes rfl rfl rfl ?_; first | assumption | (with_reducible rfl) | decide | (simp only [decide_eq_true_eq, decide_eq_false_iff_not, Bool.not_eq_true', Bool.not_eq_false', beq_iff_eq, bne_iff_ne, ne_eq, beq_eq_false_iff_ne, bne_eq_false_iff_eq, Int.not_lt, Int.not_le, Bool.true_eq_false, Bool.false_eq_true, tb_one, tb_zero]; omega))) rfl (ltB rfl) ?_)
      | (refine SyL.light (LV.assign rfl) Rq.nil (by first | (apply Wn.none; rfl) | (refine Wn.yes rfl rfl rfl ?_; first | assumption | (with_reducible rfl) | decide | (simp only [decide_eq_true_eq, decide_eq_false_iff_not, Bool.not_eq_true', Bool.not_eq_false', beq_iff_eq, bne_iff_ne, ne_eq, beq_eq_false_iff_ne, bne_eq_false_iff_eq, Int.not_lt, Int.not_le, Bool.true_eq_false, Bool.false_eq_true, tb_one, tb_zero]; omega))) rfl (ltB rfl) ?_)
      | (refine SyL.light (LV.cmp rfl rfl rfl) Rq.nil (by first | (apply Wn.none; rfl) | (refine Wn.yes rfl rfl rfl ?_; first | assumption | (with_reducible rfl) | decide | (simp only [decide_eq_true_eq, decide_eq_false_iff_not, Bool.not_eq_true', Bool.not_eq_false', beq_iff_eq, bne_iff_ne, ne_eq, beq_eq_false_iff_ne, bne_eq_false_iff_eq, Int.not_lt, Int.not_le, Bool.true_eq_false, Bool.false_eq_true, tb_one, tb_zero]; omega))) rfl (ltB rfl) ?_)
      | (refine SyC.condF rfl (by first | assumption | (with_reducible rfl) | decide | (simp only [decide_eq_true_eq, decide_eq_false_iff_not, Bool.not_eq_true', Bool.not_eq_false', beq_iff_eq, bne_iff_ne, ne_eq, beq_eq_false_iff_ne, bne_eq_false_iff_eq, Int.not_lt, Int.not_le, Bool.true_eq_false, Bool.false_eq_true, tb_one, tb_zero]; omega)) ?_))
    exact Ret.twoS (by simp) Try.results123 (.tmp rfl) (.tmp rfl) (⟨rfl, _, _, rfl, hrd3⟩) (by repeat (first | exact List.Sublist.refl _ | exact List.nil_sublist _ | refine List.Sublist.cons_cons _ ?_ | refine List.Sublist.cons _ ?_))

set_option maxRecDepth 100000 in
theorem MinDegree_c (I : IH) (n : Nat) (A : Option Addr) (c : Nat) (ss : List (List Nat)) (cells : List Value) (h : Args I n A c ss cells) :
    PFn Try.prog 64 #[.int .i64 (n : Int), .slice A ss.length c] I fun v I' => ∃ B c', v = .tuple #[.slice B (gRun coD n (GO ss) n).out.length c', .int .i64 0] ∧
      RdSl I' 1 (.slice B (gRun coD n (GO ss) n).out.length c') (gRun coD n (GO ss) n).out.length (N64 (gRun coD n (GO ss) n).out) := by
  refine Fn.intro (n := 11) (args := [.int .i64 (n : Int), .slice A ss.length c]) (by kernel_rfl) Try.func64 rfl Try.ntmps64 (Nat.le_of_ble_eq_true rfl) [(0, .int .i64 (n : Int)), (1, .slice A ss.length c)] rfl (fun w0 => ?_)
  repeat' (first
    | (refine SyC.seq ?_)
    | (refine SyC.region ?_)
    | (refine SyL.nil ?_)
    | (refine Then.norm ?_)
    | (refine SyC.ret ?_)
    | (refine SyL.light (LV.move rfl) Rq.nil (.none rfl) rfl (ltB rfl) ?_)
    | (refine SyL.light (LV.assign rfl) Rq.nil (.none rfl) rfl (ltB rfl) ?_)
    | (refine SyL.light (LV.extract rfl rfl) Rq.nil (.none rfl) rfl (ltB rfl) ?_)
    | (refine SyL.heavy (OpT.pcall rfl rfl (greedy_c _ n A c ss cells h 121 coD (fun G v => Nat.le_trans (popN_le 32 _) (by omega)) (fun I' g v G h1 h2 h3 => (deg_c I' g v G h1 h2 h3).mono fun r I'' rs' _ hp => ⟨hp.1, hp.2.2⟩)) ?_) (.none rfl) rfl (ltB rfl); rintro v1 I1 hle1 ⟨B, c', rfl, hrd⟩))
  refine Ret.two (by simp) Try.results64 (.tmp rfl) (.tmp rfl) ?_
  exact ⟨rfl, _, _, rfl, hrd⟩
set_option maxRecDepth 100000 in
theorem MinFill_c (I : IH) (n : Nat) (A : Option Addr) (c : Nat) (ss : List (List Nat)) (cells : List Value) (h : Args I n A c ss cells) :
    PFn Try.prog 65 #[.int .i64 (n : Int), .slice A ss.length c] I fun v I' => ∃ B c', v = .tuple #[.slice B (gRun coF n (GO ss) n).out.length c', .int .i64 0] ∧
      RdSl I' 1 (.slice B (gRun coF n (GO ss) n).out.length c') (gRun coF n (GO ss) n).out.length (N64 (gRun coF n (GO ss) n).out) := by
  refine Fn.intro (n := 11) (args := [.int .i64 (n : Int), .slice A ss.length c]) (by kernel_rfl) Try.func65 rfl Try.ntmps65 (Nat.le_of_ble_eq_true rfl) [(0, .int .i64 (n : Int)), (1, .slice A ss.length c)] rfl (fun w0 => ?_)
  repeat' (first
    | (refine SyC.seq ?_)
    | (refine SyC.region ?_)
    | (refine SyL.nil ?_)
    | (refine Then.norm ?_)
    | (refine SyC.ret ?_)
    | (refine SyL.light (LV.move rfl) Rq.nil (.none rfl) rfl (ltB rfl) ?_)
    | (refine SyL.light (LV.assign rfl) Rq.nil (.none rfl) rfl (ltB rfl) ?_)
    | (refine SyL.light (LV.extract rfl rfl) Rq.nil (.none rfl) rfl (ltB rfl) ?_)
    | (refine SyL.heavy (OpT.pcall rfl rfl (greedy_c _ n A c ss cells h 124 coF (fun G v => Nat.le_trans (missing_len G v) (by omega)) (fun I' g v G h1 h2 h3 => fillCost_c I' g v G h1 h2 h3)) ?_) (.none rfl) rfl (ltB rfl); rintro v1 I1 hle1 ⟨B, c', rfl, hrd⟩))
  refine Ret.two (by simp) Try.results65 (.tmp rfl) (.tmp rfl) ?_
  exact ⟨rfl, _, _, rfl, hrd⟩
set_option maxRecDepth 100000 in
theorem Chordal_c (I : IH) (n : Nat) (A : Option Addr) (c : Nat) (ss : List (List Nat)) (cells : List Value) (h : Args I n A c ss cells) (ho : Ord n (gRun coF n (GO ss) n).out) :
    PFn Try.prog 67 #[.int .i64 (n : Int), .slice A ss.length c] I fun v I' => v = .tuple #[.bool (((played ss (gRun coF n (GO ss) n).out).fill.length : Int) == 0), .int .i64 0] := by
  refine Fn.intro (n := 29) (args := [.int .i64 (n : Int), .slice A ss.length c]) (by kernel_rfl) Try.func67 rfl Try.ntmps67 (Nat.le_of_ble_eq_true rfl) [(0, .int .i64 (n : Int)), (1, .slice A ss.length c)] rfl (fun w0 => ?_)
  have hf := fun I0 (hle : I.le I0) B cb hrd => Fill_c I0 n A c ss cells (h.mono hle) B cb (gRun coF n (GO ss) n).out ho hrd
  repeat' (first
    | (refine SyC.seq ?_)
    | (refine SyC.region ?_)
    | (refine SyL.nil ?_)
    | (refine Then.norm ?_)
    | (refine SyC.skip ?_)
    | (refine SyC.ret ?_)
    | (refine SyL.light (LV.move rfl) Rq.nil (.none rfl) rfl (ltB rfl) ?_)
    | (refine SyL.light (LV.assign rfl) Rq.nil (.none rfl) rfl (ltB rfl) ?_)
    | (refine SyL.light (LV.len (by apply rfl)) Rq.nil (.none rfl) rfl (ltB rfl) ?_)
    | (refine SyL.light (LV.cmp rfl rfl rfl) Rq.nil (.none rfl) rfl (ltB rfl) ?_)
    | (refine SyL.light (LV.extract rfl rfl) Rq.nil (.none rfl) rfl (ltB rfl) ?_)
    | (refine SyL.heavy (OpT.pcall rfl rfl (MinFill_c _ n A c ss cells h) ?_) (.none rfl) rfl (ltB rfl); rintro v1 I1 hle1 ⟨B, c', rfl, hrd⟩)
    | (refine SyL.heavy (OpT.pcall rfl rfl (hf _ hle1 B c' hrd) ?_) (.none rfl) rfl (ltB rfl); rintro v2 I2 hle2 ⟨C, c2, rfl, hrd2⟩)
    | (refine SyC.condF rfl (by first | assumption | (with_reducible rfl) | decide | (simp only [decide_eq_true_eq, decide_eq_false_iff_not, Bool.not_eq_true', Bool.not_eq_false', beq_iff_eq, bne_iff_ne, ne_eq, beq_eq_false_iff_ne, bne_eq_false_iff_eq, Int.not_lt, Int.not_le, Bool.true_eq_false, Bool.false_eq_true, tb_one, tb_zero]; omega)) ?_))
  refine Ret.two (by simp) Try.results67 (.tmp rfl) (.tmp rfl) ?_
  exact ⟨rfl, rfl⟩
end Go.Proofs.Ytpgkbipnkkeicaa
