import Derived.Test.YtpgkbipnkkeicaaL4
import Derived.Test.YtpgkbipnkkeicaaSx7
set_option linter.unusedSimpArgs false
set_option linter.unusedVariables false
/-! along; the choices of the least. -/
namespace Go.Gr
open Go Go.Sx Go.Proofs.Ytpgkbipnkkeicaa
attribute [local irreducible] popN
theorem aStep_glen (s : ASt) (v : Nat) : (aStep s v).G.length = s.G.length := by simp only [aStep, addP_len]
theorem aRun_glen (ch : Choose) (n : Nat) (G : List Nat) (i : Nat) : (aRun ch n G i).G.length = G.length := by
  induction i with
  | zero => rfl
  | succ i ih => rw [aRun_step, aStep_glen, ih]
theorem aRun_small (ch : Choose) (n : Nat) {G : List Nat} (hs : Small G) (hG : G.length ≤ 16) (i : Nat) : Small (aRun ch n G i).G := by
  induction i with
  | zero => exact hs
  | succ i ih =>
    rw [aRun_step]
    simp only [aStep]
    exact ih.addP fun p hp => by
      have := pairs_lt hp
      rw [aRun_glen] at this
      omega
theorem aRun_left (ch : Choose) (n : Nat) (G : List Nat) (hn : n ≤ 16) (i : Nat) : (aRun ch n G i).left < 65536 := by
  induction i with
  | zero =>
    have := pow16 hn
    have := Nat.pow_pos (a := 2) (n := n) (by omega)
    simp only [aRun]
    omega
  | succ i ih =>
    rw [aRun_step]
    exact Nat.lt_of_le_of_lt (clr_lt _ _) ih
theorem pairs_len256 (G : List Nat) (hG : G.length ≤ 16) (v left : Nat) : (pairs G v left).length ≤ 256 :=
  Nat.le_trans (pairsP_len _ _ _) (Nat.mul_le_mul hG hG)
theorem aRun_fill (ch : Choose) (n : Nat) (G : List Nat) (hG : G.length ≤ 16) (i : Nat) : (aRun ch n G i).fill.length ≤ i * 256 := by
  induction i with
  | zero => simp [aRun]
  | succ i ih =>
    rw [aRun_step]
    have := pairs_len256 (aRun ch n G i).G (by rw [aRun_glen]; exact hG) (aCh ch n G i) (clr (aRun ch n G i).left (aCh ch n G i))
    simp only [aStep, List.length_append]
    omega
theorem aRun_wid (ch : Choose) (n : Nat) (G : List Nat) (i : Nat) : (aRun ch n G i).wid ≤ 32 := by
  induction i with
  | zero => simp [aRun]
  | succ i ih =>
    rw [aRun_step]
    have := popN_le 32 ((addP (aRun ch n G i).G (pairs (aRun ch n G i).G (aCh ch n G i) (clr (aRun ch n G i).left (aCh ch n G i)))).getD (aCh ch n G i) 0 &&& clr (aRun ch n G i).left (aCh ch n G i))
    simp only [aStep]
    omega
end Go.Gr
namespace Go.Proofs.Ytpgkbipnkkeicaa
open Go Go.Sx Go.Gr
attribute [local irreducible] popN

theorem N64_snoc (l : List Nat) (x : Nat) : N64 l ++ [.int .i64 (x : Int)] = N64 (l ++ [x]) := by simp [N64]
set_option maxRecDepth 100000 in
set_option maxHeartbeats 4000000 in
theorem along_c (I : IH) (g n cg : Nat) (G : List Nat) (hn : n ≤ 16) (hG : G.length = n) (hs : Small G) (f : FuncId) (caps : Array Value) (ch : Choose) (ext : Nat → List Row)
    (hch : ∀ i, i < n → aCh ch n G i < n)
    (hf : ∀ i I', i < n → I.le I' → Sx.Fn Try.prog f (#[] ++ [Value.int .u32 ((aRun ch n G i).left : Int)].toArray ++ caps) I' (.own (some ⟨g, 0, none⟩) cg 33 1 n (U32 (aRun ch n G i).G) :: ext i)
      fun v I'' rs' => v = .int .i64 (aCh ch n G i : Nat) ∧ rs' = .own (some ⟨g, 0, none⟩) cg 33 1 n (U32 (aRun ch n G i).G) :: ext (i + 1)) :
    Sx.Fn Try.prog 14 #[.slice (some ⟨g, 0, none⟩) n cg, .func (.func f) #[] caps] I (.own (some ⟨g, 0, none⟩) cg 33 1 n (U32 G) :: ext 0)
      fun v I' rs' => ∃ A c B c', v = .tuple #[.slice A (aRun ch n G n).ord.length c, .int .i64 ((aRun ch n G n).wid : Nat), .slice B (aRun ch n G n).fill.length c'] ∧
        RdSl I' 1 (.slice A (aRun ch n G n).ord.length c) (aRun ch n G n).ord.length (N64 (aRun ch n G n).ord) ∧ RdSl I' 2 (.slice B (aRun ch n G n).fill.length c') (aRun ch n G n).fill.length (P64 (aRun ch n G n).fill) ∧
        rs' = .own (some ⟨g, 0, none⟩) cg 33 1 n (U32 (aRun ch n G n).G) :: ext n := by
  have h2n := pow16 hn
  have h2p := Nat.pow_pos (a := 2) (n := n) (by omega)
  refine Fn.intro (n := 47) (args := [.slice (some ⟨g, 0, none⟩) n cg, .func (.func f) #[] caps]) (by kernel_rfl) Try.func14 rfl Try.ntmps14 (Nat.le_of_ble_eq_true rfl) [(0, .slice (some ⟨g, 0, none⟩) n cg), (1, .func (.func f) #[] caps)] rfl (fun w0 => ?_)
  refine SyC.ownNil 3 1 ?_
  refine SyC.ownNil 34 2 ?_
  repeat' (first
    | (refine SyC.seq ?_)
    | (refine SyC.region ?_)
    | (refine SyL.nil ?_)
    | (refine Then.norm ?_)
    | (refine SyC.block ?_)
    | (refine SyL.light (LV.move rfl) Rq.nil (.none rfl) rfl (ltB rfl) ?_)
    | (refine SyL.light (LV.assign rfl) Rq.nil (.none rfl) rfl (ltB rfl) ?_)
    | (refine SyL.light (LV.len (by apply rfl)) Rq.nil (.none rfl) rfl (ltB rfl) ?_)
    | (refine SyL.light (LV.arN rfl rfl rfl (by simp only [Fits]; omega)) Rq.nil (.none rfl) rfl (ltB rfl) ?_)
    | (refine SyL.light (LV.shl1 rfl rfl rfl (by simp only [IntKind.bits]; omega)) Rq.nil (.none rfl) rfl (ltB rfl) ?_))
  rw [show ((2 ^ n : Nat) : Int) - 1 = ((2 ^ n - 1 : Nat) : Int) from by omega]
  refine SyC.loopD (fun m env I' rs => ∃ i A c B c', m = n - i ∧ i ≤ n ∧ I.le I' ∧ rs = .own B c' 34 2 (aRun ch n G i).fill.length (P64 (aRun ch n G i).fill) :: .own A c 3 1 (aRun ch n G i).ord.length (N64 (aRun ch n G i).ord) :: .own (some ⟨g, 0, none⟩) cg 33 1 n (U32 (aRun ch n G i).G) :: ext i ∧
    env = [(17, .int .i64 (i : Nat)), (16, .int .i64 (n : Nat)), (0, .slice (some ⟨g, 0, none⟩) n cg), (1, .func (.func f) #[] caps), (7, .int .u32 ((aRun ch n G i).left : Nat)), (4, .slice A (aRun ch n G i).ord.length c), (5, .int .i64 ((aRun ch n G i).wid : Nat)), (6, .slice B (aRun ch n G i).fill.length c')]) n
    [(17, .int .i64 (0 : Nat)), (16, .int .i64 (n : Nat)), (0, .slice (some ⟨g, 0, none⟩) n cg), (1, .func (.func f) #[] caps), (7, .int .u32 ((2 ^ n - 1 : Nat) : Nat)), (4, .slice none 0 0), (5, .int .i64 (0 : Nat)), (6, .slice none 0 0)] (by repeat (first | exact trivial | refine ⟨rfl, ?_⟩)) ⟨0, _, _, _, _, rfl, by omega, IH.le.rfl, rfl, rfl⟩ ?_
  rintro m env I' rs ⟨i, A, c, B, c', rfl, hi, hle, rfl, rfl⟩
  have hgl := aRun_glen ch n G i
  have hgs := aRun_small ch n hs (by omega) i
  have hll := aRun_left ch n G hn i
  have hfl := aRun_fill ch n G (by omega) i
  have hwl := aRun_wid ch n G i
  have hol := aRun_olen ch n G i
  by_cases hlt : i < n
  · have hv := hch i hlt
    have hnext := hf i I' hlt hle
    have hst := aRun_step ch n G i
    generalize aCh ch n G i = v at hv hnext hst
    generalize aRun ch n G i = S at hgl hgs hll hfl hwl hol hnext hst
    have hcl : clr S.left v < 65536 := Nat.lt_of_le_of_lt (clr_lt _ _) hll
    have hel := fun I0 => elimS_c I0 g v (clr S.left v) cg S.G (by omega) hgs (by omega) hcl
    rw [hgl, hG] at hel
    have hpl := pairs_len256 S.G (by omega) v (clr S.left v)
    have hpn := popN_le 32 ((addP S.G (pairs S.G v (clr S.left v))).getD v 0 &&& clr S.left v)
    have hst' : aRun ch n G (i + 1) = ⟨addP S.G (pairs S.G v (clr S.left v)), clr S.left v, S.ord ++ [v], max S.wid (popN 32 ((addP S.G (pairs S.G v (clr S.left v))).getD v 0 &&& clr S.left v)), S.fill ++ pairs S.G v (clr S.left v)⟩ := hst
    repeat' (first
      | (refine SyC.seq ?_)
      | (refine SyC.region ?_)
      | (refine SyL.nil ?_)
      | (refine Then.norm ?_)
      | (refine InB.norm ?_)
      | (refine SyC.block ?_)
      | (refine SyC.skip ?_)
      | (refine SyL.light (LV.move rfl) Rq.nil (.none rfl) rfl (ltB rfl) ?_)
      | (refine SyL.light (LV.assign rfl) Rq.nil (.none rfl) rfl (ltB rfl) ?_)
      | (refine SyL.light (LV.cmp rfl rfl rfl) Rq.nil (.none rfl) rfl (ltB rfl) ?_)
      | (refine SyL.light (LV.arN rfl rfl rfl (by simp only [Fits]; omega)) Rq.nil (.none rfl) rfl (ltB rfl) ?_)
      | (refine SyL.light (LV.shl1 rfl rfl rfl (by simp only [IntKind.bits]; omega)) Rq.nil (.none rfl) rfl (ltB rfl) ?_)
      | (refine SyL.light (LV.bitsN rfl rfl rfl rfl (by first | (simp only [IntKind.bits]; omega) | exact pow32 (by omega) | assumption) (by first | (simp only [IntKind.bits]; omega) | exact pow32 (by omega) | assumption)) Rq.nil (.none rfl) rfl (ltB rfl) ?_)
      | (refine SyL.light (LV.extract rfl rfl) Rq.nil (.none rfl) rfl (ltB rfl) ?_)
      | (refine SyL.light (LV.max2 rfl rfl) Rq.nil (.none rfl) rfl (ltB rfl) ?_)
      | (refine SyL.heavy (OpT.buildSlice (xs := [_]) (vs := [_]) rfl rfl rfl (by simp [Value.cells]) (by decide) (fun g_ hg_ => ?_)) (.none rfl) rfl (ltB rfl))
      | (refine SyL.heavy (OpT.appendR (by apply rfl) (by apply rfl) (k := 1) rfl (hrd) (by first | assumption | exact P64_one _ | exact N64_one _ | exact U32_one _ | simp [Value.oneCell']) (by first | omega | (simp only [List.length_append, List.length_cons, List.length_nil]; omega)) (by first | omega | (simp only [List.length_append, List.length_cons, List.length_nil]; omega)) (by decide) (fun A_ c_ => ?_)) (.none rfl) rfl (ltB rfl))
      | (refine SyL.heavy (OpT.append (by apply rfl) (by apply rfl) (k := 2) rfl (by first | (simp; done) | (simp only [List.length_cons, List.length_nil]; done) | (simp only [List.length_cons, List.length_nil]; omega) | (simp; omega) | omega) (Rq.blkAll (List.mem_of_getElem? (i := 0) rfl)) (by simp [Value.oneCell']) (by first | omega | (simp only [List.length_append, List.length_cons, List.length_nil]; omega)) (by first | omega | (simp only [List.length_append, List.length_cons, List.length_nil]; omega)) (by decide) (fun A_ c_ => ?_)) (.none rfl) rfl (ltB rfl))
      | (refine SyL.heavy (OpT.callT 2 rfl rfl (hnext) rfl ?_) (.none rfl) rfl (ltB rfl); rintro v1 I1 rs1 hle1 ⟨rfl, rfl⟩)
      | (refine SyL.heavy (OpT.callW 2 1 rfl rfl (hel _) rfl ?_) (.none rfl) rfl (ltB rfl); rintro v2 I2 rs2 hle2 ⟨A2, c2, rfl, hrd, rfl⟩)
      | (refine SyC.condT rfl (by first | assumption | (with_reducible rfl) | decide | (simp only [decide_eq_true_eq, decide_eq_false_iff_not, Bool.not_eq_true', Bool.not_eq_false', beq_iff_eq, bne_iff_ne, ne_eq, beq_eq_false_iff_ne, bne_eq_false_iff_eq, Int.not_lt, Int.not_le, Bool.true_eq_false, Bool.false_eq_true, tb_one, tb_zero]; omega)) ?_))
    rename_i A1 c1
    have em : (max ((S.wid : Nat) : Int) ((popN 32 ((addP S.G (pairs S.G v (clr S.left v))).getD v 0 &&& clr S.left v) : Nat) : Int)) = ((max S.wid (popN 32 ((addP S.G (pairs S.G v (clr S.left v))).getD v 0 &&& clr S.left v)) : Nat) : Int) := by omega
    rw [em, ← P64_app, ← List.length_append, N64_snoc, show S.ord.length + 1 = (S.ord ++ [v]).length from by simp]
    exact ⟨n - (i + 1), [(17, .int .i64 (i + 1 : Nat)), (16, .int .i64 (n : Nat)), (0, .slice (some ⟨g, 0, none⟩) n cg), (1, .func (.func f) #[] caps), (7, .int .u32 (clr S.left v : Nat)), (4, .slice A1 (S.ord ++ [v]).length c1), (5, .int .i64 (max S.wid (popN 32 ((addP S.G (pairs S.G v (clr S.left v))).getD v 0 &&& clr S.left v)) : Nat)), (6, .slice A_ (S.fill ++ pairs S.G v (clr S.left v)).length c_)],
      .own A_ c_ 34 2 (S.fill ++ pairs S.G v (clr S.left v)).length (P64 (S.fill ++ pairs S.G v (clr S.left v))) :: .own A1 c1 3 1 (S.ord ++ [v]).length (N64 (S.ord ++ [v])) :: .own (some ⟨g, 0, none⟩) cg 33 1 n (U32 (addP S.G (pairs S.G v (clr S.left v)))) :: ext (i + 1),
      by omega, (by repeat (first | exact trivial | refine ⟨rfl, ?_⟩)), ⟨i + 1, A1, c1, A_, c_, rfl, by omega, (hle.trans hle1).trans hle2, by rw [hst'], by rw [hst']⟩, (by repeat (first | exact List.Sublist.refl _ | exact List.nil_sublist _ | refine List.Sublist.cons_cons _ ?_ | refine List.Sublist.cons _ ?_))⟩
  · obtain rfl : i = n := by omega
    refine SyC.freezeOwn fun I2 hle2 hrd2 => ?_
    refine SyC.freezeOwn fun I3 hle3 hrd3 => ?_
    repeat' (first
      | (refine SyC.seq ?_)
      | (refine SyC.region ?_)
      | (refine SyL.nil ?_)
      | (refine Then.norm ?_)
      | (refine Then.exit ?_)
      | (refine InB.hit ?_)
      | (refine SyC.exit ?_)
      | (refine SyC.ret ?_)
      | (refine SyL.light (LV.move rfl) Rq.nil (.none rfl) rfl (ltB rfl) ?_)
      | (refine SyL.light (LV.assign rfl) Rq.nil (.none rfl) rfl (ltB rfl) ?_)
      | (refine SyL.light (LV.cmp rfl rfl rfl) Rq.nil (.none rfl) rfl (ltB rfl) ?_)
      | (refine SyC.condF rfl (by first | assumption | (with_reducible rfl) | decide | (simp only [decide_eq_true_eq, decide_eq_false_iff_not, Bool.not_eq_true', Bool.not_eq_false', beq_iff_eq, bne_iff_ne, ne_eq, beq_eq_false_iff_ne, bne_eq_false_iff_eq, Int.not_lt, Int.not_le, Bool.true_eq_false, Bool.false_eq_true, tb_one, tb_zero]; omega)) ?_))
    exact Ret.threeS (by simp) Try.results14 (.tmp rfl) (.tmp rfl) (.tmp rfl) (⟨_, _, _, _, rfl, hrd3, hrd2.le hle3, rfl⟩) (by repeat (first | exact List.Sublist.refl _ | exact List.nil_sublist _ | refine List.Sublist.cons_cons _ ?_ | refine List.Sublist.cons _ ?_))
end Go.Proofs.Ytpgkbipnkkeicaa
