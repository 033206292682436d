import Derived.Test.YtpgkbipnkkeicaaW2
import Derived.Test.YtpgkbipnkkeicaaG0
set_option linter.unusedSimpArgs false
set_option linter.unusedVariables false
/-! How graphs are made: order.of, sigilGraphOf. -/
namespace Go.Proofs.Ytpgkbipnkkeicaa
open Go Go.Sx Go.Gr

theorem addB_step {a : Nat} {g l : List Nat} {k b : Nat} (h : l[k]? = some b) : addB a g (l.take (k + 1)) = addE (addB a g (l.take k)) a b := foldl_take _ _ _ _ _ h
theorem addA_step {l g l' : List Nat} {k a : Nat} (h : l'[k]? = some a) : addA l g (l'.take (k + 1)) = addB a (addA l g (l'.take k)) l := foldl_take _ _ _ _ _ h
theorem addS_step {g : List Nat} {ss : List (List Nat)} {k : Nat} {l : List Nat} (h : ss[k]? = some l) : addS g (ss.take (k + 1)) = addA l (addS g (ss.take k)) l := foldl_take _ _ _ _ _ h
theorem addE_ne {g : List Nat} {a b : Nat} (h : a ≠ b) : addE g a b = g.set a (g.getD a 0 ||| 2 ^ b) := by unfold addE; rw [if_neg h]
theorem addE_eq {g : List Nat} {a b : Nat} (h : a = b) : addE g a b = g := by unfold addE; rw [if_pos h]
theorem getD_of {l : List Nat} {k x : Nat} (h : l[k]? = some x) : l.getD k 0 = x := by rw [List.getD_eq_getElem?_getD, h]; rfl

set_option maxRecDepth 100000 in
set_option maxHeartbeats 1000000 in
theorem of_c (I : IH) (A : Option Addr) (c : Nat) (ss : List (List Nat)) (cells : List Value) (h : RdSs I A c ss cells) (hs : Scopes 16 ss) :
    PFn Try.prog 52 #[.slice A ss.length c] I fun v _ => v = .agg (U32 (addS (List.replicate 16 0) ss)).toArray := by
  have hm := hs.many
  have hcell : cells.length = ss.length := h.rd.len
  refine Fn.intro (n := 42) (args := [.slice A ss.length c]) (by kernel_rfl) Try.func52 rfl Try.ntmps52 (Nat.le_of_ble_eq_true rfl) [(0, .slice A ss.length c)] rfl (fun w0 => ?_)
  repeat' (first
    | (refine SyC.seq ?_)
    | (refine SyC.region ?_)
    | (refine SyL.nil ?_)
    | (refine Then.norm ?_)
    | (refine SyC.block ?_)
    | (refine SyL.light (LV.move rfl) Rq.nil (.none rfl) rfl (ltB rfl) ?_)
    | (refine SyL.light (LV.len (by apply rfl)) Rq.nil (.none rfl) rfl (ltB rfl) ?_)
    | (refine SyL.heavy (OpT.alloc (by apply rfl) (fun g_ hg_ => ?_)) (.none rfl) rfl (ltB rfl)))
  rename_i g1 hg1
  refine SyC.loop (fun m env I' rs => ∃ k : Nat, m = ss.length - k ∧ k ≤ ss.length ∧ I' = I ∧ rs = [.blk g_ 99 (U32 (addS (List.replicate 16 0) (ss.take k))), .blk g1 99 (U32 (List.replicate 16 0))] ∧
    env = [(12, .int .i64 (k : Nat)), (11, .int .i64 (ss.length : Nat)), (10, .slice A ss.length c), (3, .pointer (some ⟨g_, 0, none⟩)), (2, .pointer (some ⟨g1, 0, none⟩))]) ss.length _ (by repeat (first | exact trivial | refine ⟨rfl, ?_⟩)) ⟨0, rfl, Nat.zero_le _, rfl, rfl, rfl⟩ ?_
  rintro m env I' rs ⟨k, rfl, hk, rfl, rfl, rfl⟩
  by_cases hlt : k < ss.length
  · obtain ⟨ad, rfl⟩ := h.rd.addr (by omega)
    have hx : cells[k]? = some cells[k] := List.getElem?_eq_getElem (by omega)
    obtain ⟨l, B, cb, hl, hxe, hrd⟩ := h.el k _ hx
    have hlm := hs.long l (List.mem_of_getElem? hl)
    have hlb := hs.below l (List.mem_of_getElem? hl)
    rw [hxe] at hx
    have hsm : Small (addS (List.replicate 16 0) (ss.take k)) := (Small.zeros 16).addS fun x hx => hs.below x (List.mem_of_mem_take hx)
    have hln : (addS (List.replicate 16 0) (ss.take k)).length = 16 := by rw [addS_len]; simp
    have hstep := addS_step (g := List.replicate 16 0) hl
    generalize addS (List.replicate 16 0) (ss.take k) = G at hsm hln hstep
    repeat' (first
      | (refine SyC.seq ?_)
      | (refine SyC.region ?_)
      | (refine SyL.nil ?_)
      | (refine Then.norm ?_)
      | (refine SyC.block ?_)
      | (refine SyC.skip ?_)
      | (refine SyL.light (LV.move rfl) Rq.nil (.none rfl) rfl (ltB rfl) ?_)
      | (refine SyL.light (LV.assign rfl) Rq.nil (.none rfl) rfl (ltB rfl) ?_)
      | (refine SyL.light (LV.len (by apply rfl)) Rq.nil (.none rfl) rfl (ltB rfl) ?_)
      | (refine SyL.light (LV.cmp rfl rfl rfl) Rq.nil (.none rfl) rfl (ltB rfl) ?_)
      | (refine SyL.light (LV.idxN (by apply rfl) (by apply rfl) (by omega)) Rq.nil (.none rfl) rfl (ltB rfl) ?_)
      | (refine SyL.light (LV.load rfl) (Rq.imm (RdSl.at h.rd hx)) (.none rfl) rfl (ltB rfl) ?_)
      | (refine SyC.condT rfl (by first | assumption | (with_reducible rfl) | decide | (simp only [decide_eq_true_eq, decide_eq_false_iff_not, Bool.not_eq_true', Bool.not_eq_false', beq_iff_eq, bne_iff_ne, ne_eq, beq_eq_false_iff_ne, bne_eq_false_iff_eq, Int.not_lt, Int.not_le, Bool.true_eq_false, Bool.false_eq_true, tb_one, tb_zero]; omega)) ?_))
    refine SyC.loop (fun m env I'' rs => ∃ j : Nat, m = l.length - j ∧ j ≤ l.length ∧ I'' = I' ∧ rs = [.blk g_ 99 (U32 (addA l G (l.take j))), .blk g1 99 (U32 (List.replicate 16 0))] ∧
      env = [(18, .int .i64 (j : Nat)), (17, .int .i64 (l.length : Nat)), (16, .slice B l.length cb), (5, .slice B l.length cb), (12, .int .i64 (k : Nat)), (11, .int .i64 (ss.length : Nat)), (10, .slice (some ad) ss.length c), (3, .pointer (some ⟨g_, 0, none⟩)), (2, .pointer (some ⟨g1, 0, none⟩))]) l.length _ (by repeat (first | exact trivial | refine ⟨rfl, ?_⟩)) ⟨0, rfl, Nat.zero_le _, rfl, rfl, rfl⟩ ?_
    rintro m env I'' rs ⟨j, rfl, hj, rfl, rfl, rfl⟩
    by_cases hjl : j < l.length
    · obtain ⟨bd, rfl⟩ := hrd.addr (by omega)
      have ha : l[j]? = some l[j] := List.getElem?_eq_getElem hjl
      have hab := hlb _ (List.mem_of_getElem? ha)
      have hsm2 : Small (addA l G (l.take j)) := hsm.addA hlb
      have hln2 : (addA l G (l.take j)).length = 16 := by rw [addA_len, hln]
      have hstep2 := addA_step (l := l) (g := G) ha
      generalize addA l G (l.take j) = G2 at hsm2 hln2 hstep2
      generalize hla : l[j] = a at ha hab hstep2
      repeat' (first
        | (refine SyC.seq ?_)
        | (refine SyC.region ?_)
        | (refine SyL.nil ?_)
        | (refine Then.norm ?_)
        | (refine SyC.block ?_)
        | (refine SyC.skip ?_)
        | (refine SyL.light (LV.move rfl) Rq.nil (.none rfl) rfl (ltB rfl) ?_)
        | (refine SyL.light (LV.assign rfl) Rq.nil (.none rfl) rfl (ltB rfl) ?_)
        | (refine SyL.light (LV.len (by apply rfl)) Rq.nil (.none rfl) rfl (ltB rfl) ?_)
        | (refine SyL.light (LV.cmp rfl rfl rfl) Rq.nil (.none rfl) rfl (ltB rfl) ?_)
        | (refine SyL.light (LV.idxN (by apply rfl) (by apply rfl) (by omega)) Rq.nil (.none rfl) rfl (ltB rfl) ?_)
        | (refine SyL.light (LV.load rfl) (Rq.imm (RdSl.at hrd (show (N64 l)[j]? = some (.int .i64 (a : Int)) from by simp [N64, ha]))) (.none rfl) rfl (ltB rfl) ?_)
        | (refine SyC.condT rfl (by first | assumption | (with_reducible rfl) | decide | (simp only [decide_eq_true_eq, decide_eq_false_iff_not, Bool.not_eq_true', Bool.not_eq_false', beq_iff_eq, bne_iff_ne, ne_eq, beq_eq_false_iff_ne, bne_eq_false_iff_eq, Int.not_lt, Int.not_le, Bool.true_eq_false, Bool.false_eq_true, tb_one, tb_zero]; omega)) ?_))
      refine SyC.loop (fun m env I' rs => ∃ i : Nat, m = l.length - i ∧ i ≤ l.length ∧ I' = I'' ∧ rs = [.blk g_ 99 (U32 (addB a G2 (l.take i))), .blk g1 99 (U32 (List.replicate 16 0))] ∧
        env = [(24, .int .i64 (i : Nat)), (23, .int .i64 (l.length : Nat)), (22, .slice (some bd) l.length cb), (7, .int .i64 (a : Nat)), (18, .int .i64 (j : Nat)), (17, .int .i64 (l.length : Nat)), (16, .slice (some bd) l.length cb), (5, .slice (some bd) l.length cb), (12, .int .i64 (k : Nat)), (11, .int .i64 (ss.length : Nat)), (10, .slice (some ad) ss.length c), (3, .pointer (some ⟨g_, 0, none⟩)), (2, .pointer (some ⟨g1, 0, none⟩))]) l.length _ (by repeat (first | exact trivial | refine ⟨rfl, ?_⟩)) ⟨0, rfl, Nat.zero_le _, rfl, rfl, rfl⟩ ?_
      rintro m env I' rs ⟨i, rfl, hi, rfl, rfl, rfl⟩
      by_cases hil : i < l.length
      · have hb : l[i]? = some l[i] := List.getElem?_eq_getElem hil
        have hbb := hlb _ (List.mem_of_getElem? hb)
        have hsm3 : Small (addB a G2 (l.take i)) := hsm2.addB a (Small.mono_take hlb)
        have hln3 : (addB a G2 (l.take i)).length = 16 := by rw [addB_len, hln2]
        have hstep3 := addB_step (a := a) (g := G2) hb
        generalize addB a G2 (l.take i) = G3 at hsm3 hln3 hstep3
        generalize hlb' : l[i] = b at hb hbb hstep3
        have hb3 := hsm3.getD a
        by_cases hne : a = b
        · repeat' (first
            | (refine SyC.seq ?_)
            | (refine SyC.region ?_)
            | (refine SyL.nil ?_)
            | (refine Then.norm ?_)
            | (refine InB.norm ?_)
            | (refine SyC.block ?_)
            | (refine SyC.skip ?_)
            | (refine SyL.light (LV.move rfl) Rq.nil (.none rfl) rfl (ltB rfl) ?_)
            | (refine SyL.light (LV.assign rfl) Rq.nil (.none rfl) rfl (ltB rfl) ?_)
            | (refine SyL.light (LV.cmp rfl rfl rfl) Rq.nil (.none rfl) rfl (ltB rfl) ?_)
            | (refine SyL.light (LV.arN rfl rfl rfl (by simp only [Fits]; omega)) Rq.nil (.none rfl) rfl (ltB rfl) ?_)
            | (refine SyL.light (LV.idxN (by apply rfl) (by apply rfl) (by omega)) Rq.nil (.none rfl) rfl (ltB rfl) ?_)
            | (refine SyL.light (LV.load rfl) (Rq.imm (RdSl.at hrd (show (N64 l)[i]? = some (.int .i64 (b : Int)) from by simp [N64, hb]))) (.none rfl) rfl (ltB rfl) ?_)
            | (refine SyC.condT rfl (by first | assumption | (with_reducible rfl) | decide | (simp only [decide_eq_true_eq, decide_eq_false_iff_not, Bool.not_eq_true', Bool.not_eq_false', beq_iff_eq, bne_iff_ne, ne_eq, beq_eq_false_iff_ne, bne_eq_false_iff_eq, Int.not_lt, Int.not_le, Bool.true_eq_false, Bool.false_eq_true, tb_one, tb_zero]; omega)) ?_)
            | (refine SyC.condF rfl (by first | assumption | (with_reducible rfl) | decide | (simp only [decide_eq_true_eq, decide_eq_false_iff_not, Bool.not_eq_true', Bool.not_eq_false', beq_iff_eq, bne_iff_ne, ne_eq, beq_eq_false_iff_ne, bne_eq_false_iff_eq, Int.not_lt, Int.not_le, Bool.true_eq_false, Bool.false_eq_true, tb_one, tb_zero]; omega)) ?_))
          exact ⟨l.length - (i + 1), _, by omega, (by repeat (first | exact trivial | refine ⟨rfl, ?_⟩)), i + 1, rfl, by omega, rfl, by rw [hstep3, addE_eq hne], rfl⟩
        · repeat' (first
            | (refine SyC.seq ?_)
            | (refine SyC.region ?_)
            | (refine SyL.nil ?_)
            | (refine Then.norm ?_)
            | (refine InB.norm ?_)
            | (refine SyC.block ?_)
            | (refine SyC.skip ?_)
            | (refine SyC.draw (id := 12) (by kernel_rfl) (by kernel_rfl) ?_; refine D.light (i := 0) rfl (.on (.none rfl) (LV.move rfl)) Rq.nil (by kernel_rfl) rfl (ltB rfl) ?_; refine D.light (i := 1) rfl (.on (.none rfl) (LV.idxArrN (by apply rfl) (by apply rfl) (by omega))) Rq.nil (by kernel_rfl) rfl (ltB rfl) ?_; refine D.light (i := 2) rfl (.on (.none rfl) (LV.load rfl)) (Rq.blk (List.mem_of_getElem? (i := 0) rfl) (U32_get (by omega))) (by kernel_rfl) rfl (ltB rfl) ?_; refine D.light (i := 3) rfl (.on (.none rfl) (LV.move rfl)) Rq.nil (by kernel_rfl) rfl (ltB rfl) ?_; refine D.light (i := 4) rfl (.on (.none rfl) (LV.shl1 rfl rfl rfl (by simp only [IntKind.bits]; omega))) Rq.nil (by kernel_rfl) rfl (ltB rfl) ?_; refine D.light (i := 5) rfl (.on (.none rfl) (LV.bitsN rfl rfl rfl rfl (by first | (simp only [IntKind.bits]; omega) | exact pow32 (by omega) | assumption) (by first | (simp only [IntKind.bits]; omega) | exact pow32 (by omega) | assumption))) Rq.nil (by kernel_rfl) rfl (ltB rfl) ?_; refine D.light (i := 6) rfl (.on (.none rfl) (LV.idxArrN (by apply rfl) (by apply rfl) (by omega))) Rq.nil (by kernel_rfl) rfl (ltB rfl) ?_; refine D.heavy0 (i := 7) rfl (OpT.store rfl rfl rfl (k := 0) rfl (by first | (simp; done) | (simp only [List.length_cons, List.length_nil, U32_len]; done) | (simp only [List.length_cons, List.length_nil, U32_len]; omega) | (simp; omega) | omega) ?_) (.none rfl) (by kernel_rfl) (by kernel_rfl) rfl (chg_bits (by kernel_rfl)); refine D.fin (by kernel_rfl) ?_)
            | (refine SyL.light (LV.move rfl) Rq.nil (.none rfl) rfl (ltB rfl) ?_)
            | (refine SyL.light (LV.assign rfl) Rq.nil (.none rfl) rfl (ltB rfl) ?_)
            | (refine SyL.light (LV.cmp rfl rfl rfl) Rq.nil (.none rfl) rfl (ltB rfl) ?_)
            | (refine SyL.light (LV.arN rfl rfl rfl (by simp only [Fits]; omega)) Rq.nil (.none rfl) rfl (ltB rfl) ?_)
            | (refine SyL.light (LV.idxN (by apply rfl) (by apply rfl) (by omega)) Rq.nil (.none rfl) rfl (ltB rfl) ?_)
            | (refine SyL.light (LV.load rfl) (Rq.imm (RdSl.at hrd (show (N64 l)[i]? = some (.int .i64 (b : Int)) from by simp [N64, hb]))) (.none rfl) rfl (ltB rfl) ?_)
            | (refine SyC.condT rfl (by first | assumption | (with_reducible rfl) | decide | (simp only [decide_eq_true_eq, decide_eq_false_iff_not, Bool.not_eq_true', Bool.not_eq_false', beq_iff_eq, bne_iff_ne, ne_eq, beq_eq_false_iff_ne, bne_eq_false_iff_eq, Int.not_lt, Int.not_le, Bool.true_eq_false, Bool.false_eq_true, tb_one, tb_zero]; omega)) ?_))
          exact ⟨l.length - (i + 1), _, by omega, (by repeat (first | exact trivial | refine ⟨rfl, ?_⟩)), i + 1, rfl, by omega, rfl, by rw [hstep3, addE_ne hne, ← U32_set]; rfl, rfl⟩
      · obtain rfl : i = l.length := by omega
        repeat' (first
          | (refine SyC.seq ?_)
          | (refine SyC.region ?_)
          | (refine SyL.nil ?_)
          | (refine Then.norm ?_)
          | (refine Then.exit ?_)
          | (refine InB.norm ?_)
          | (refine InB.hit ?_)
          | (refine SyC.exit ?_)
          | (refine SyL.light (LV.move rfl) Rq.nil (.none rfl) rfl (ltB rfl) ?_)
          | (refine SyL.light (LV.cmp rfl rfl rfl) Rq.nil (.none rfl) rfl (ltB rfl) ?_)
          | (refine SyL.light (LV.arN rfl rfl rfl (by simp only [Fits]; omega)) Rq.nil (.none rfl) rfl (ltB rfl) ?_)
          | (refine SyC.condF rfl (by first | assumption | (with_reducible rfl) | decide | (simp only [decide_eq_true_eq, decide_eq_false_iff_not, Bool.not_eq_true', Bool.not_eq_false', beq_iff_eq, bne_iff_ne, ne_eq, beq_eq_false_iff_ne, bne_eq_false_iff_eq, Int.not_lt, Int.not_le, Bool.true_eq_false, Bool.false_eq_true, tb_one, tb_zero]; omega)) ?_))
        exact ⟨l.length - (j + 1), _, by omega, (by repeat (first | exact trivial | refine ⟨rfl, ?_⟩)), j + 1, rfl, by omega, rfl, by rw [hstep2, List.take_length], rfl⟩
    · obtain rfl : j = l.length := by omega
      repeat' (first
        | (refine SyC.seq ?_)
        | (refine SyC.region ?_)
        | (refine SyL.nil ?_)
        | (refine Then.norm ?_)
        | (refine Then.exit ?_)
        | (refine InB.norm ?_)
        | (refine InB.hit ?_)
        | (refine SyC.exit ?_)
        | (refine SyL.light (LV.move rfl) Rq.nil (.none rfl) rfl (ltB rfl) ?_)
        | (refine SyL.light (LV.cmp rfl rfl rfl) Rq.nil (.none rfl) rfl (ltB rfl) ?_)
        | (refine SyL.light (LV.arN rfl rfl rfl (by simp only [Fits]; omega)) Rq.nil (.none rfl) rfl (ltB rfl) ?_)
        | (refine SyC.condF rfl (by first | assumption | (with_reducible rfl) | decide | (simp only [decide_eq_true_eq, decide_eq_false_iff_not, Bool.not_eq_true', Bool.not_eq_false', beq_iff_eq, bne_iff_ne, ne_eq, beq_eq_false_iff_ne, bne_eq_false_iff_eq, Int.not_lt, Int.not_le, Bool.true_eq_false, Bool.false_eq_true, tb_one, tb_zero]; omega)) ?_))
      exact ⟨ss.length - (k + 1), _, by omega, (by repeat (first | exact trivial | refine ⟨rfl, ?_⟩)), k + 1, rfl, by omega, rfl, by rw [hstep, List.take_length], rfl⟩
  · obtain rfl : k = ss.length := by omega
    rw [List.take_length]
    have hln : (addS (List.replicate 16 0) ss).length = 16 := by rw [addS_len]; simp
    generalize addS (List.replicate 16 0) ss = G at hln
    have h1 := U32_one G
    repeat' (first
      | (refine SyC.seq ?_)
      | (refine SyC.region ?_)
      | (refine SyL.nil ?_)
      | (refine Then.norm ?_)
      | (refine Then.exit ?_)
      | (refine InB.hit ?_)
      | (refine SyC.exit ?_)
      | (refine SyC.ret ?_)
      | (refine SyL.light (LV.cmp rfl rfl rfl) Rq.nil (.none rfl) rfl (ltB rfl) ?_)
      | (refine SyL.light (LV.loadA (by apply rfl) (by first | (simp; done) | (simp only [List.length_cons, List.length_nil, U32_len, List.length_replicate]; done) | (simp only [List.length_cons, List.length_nil, U32_len, List.length_replicate]; omega) | (simp; omega) | omega)) (Rq.blkAll (List.mem_of_getElem? (i := 0) rfl)) (.none rfl) rfl (ltB rfl) ?_)
      | (refine SyL.heavy0 (OpT.storeAll (by apply rfl) (by apply rfl) (k := 1) rfl (by first | (simp; done) | (simp only [List.length_cons, List.length_nil, U32_len, List.length_replicate]; done) | (simp only [List.length_cons, List.length_nil, U32_len, List.length_replicate]; omega) | (simp; omega) | omega) (by first | (simp; done) | (simp only [List.length_cons, List.length_nil, U32_len, List.length_replicate]; done) | (simp only [List.length_cons, List.length_nil, U32_len, List.length_replicate]; omega) | (simp; omega) | omega) (by first | assumption | simp [Value.oneCell']) ?_) (.none rfl) rfl)
      | (refine SyC.condF rfl (by first | assumption | (with_reducible rfl) | decide | (simp only [decide_eq_true_eq, decide_eq_false_iff_not, Bool.not_eq_true', Bool.not_eq_false', beq_iff_eq, bne_iff_ne, ne_eq, beq_eq_false_iff_ne, bne_eq_false_iff_eq, Int.not_lt, Int.not_le, Bool.true_eq_false, Bool.false_eq_true, tb_one, tb_zero]; omega)) ?_))
    refine Ret.oneP (by simp) Try.results52 (.cell (cs := U32 G) rfl (List.mem_of_getElem? (i := 1) rfl) (by kernel_rfl) (by rw [U32_len, hln]; kernel_rfl)) ⟨rfl, rfl⟩
end Go.Proofs.Ytpgkbipnkkeicaa
