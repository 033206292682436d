import Derived.Test.YtpgkbipnkkeicaaW7
import Derived.Test.YtpgkbipnkkeicaaIns
set_option linter.unusedSimpArgs false
set_option linter.unusedVariables false
/-! Index, Contains, all, MinFill's cost, Clone, the answer's graph. -/
namespace Go.Proofs.Ytpgkbipnkkeicaa
open Go Go.Sx Go.Gr
attribute [local irreducible] popN

set_option maxRecDepth 100000 in
theorem index_c (I : IH) (rs0 : List Row) (A : Option Addr) (c : Nat) (l : List Nat) (x : Nat) (hl : l.length ≤ 1000000) (hrd : ∀ j u, (N64 l)[j]? = some u → ∃ ad, A = some ad ∧ Rq I rs0 [(ad.add j, u)]) :
    Sx.Fn Try.prog 166 #[.slice A l.length c, .int .i64 (x : Int)] I rs0 fun v I' rs' => ∃ r : Int, v = .int .i64 r ∧ (0 ≤ r ↔ x ∈ l) ∧ I' = I ∧ rs' = rs0 := by
  refine Fn.intro (n := 19) (args := [.slice A l.length c, .int .i64 (x : Int)]) (by kernel_rfl) Try.func166 rfl Try.ntmps166 (Nat.le_of_ble_eq_true rfl) [(0, .slice A l.length c), (1, .int .i64 (x : Int))] rfl (fun w0 => ?_)
  repeat' (first
    | (refine SyC.seq ?_)
    | (refine SyC.region ?_)
    | (refine SyL.nil ?_)
    | (refine Then.norm ?_)
    | (refine SyC.block ?_)
    | (refine SyL.light (LV.move rfl) Rq.nil (.none rfl) rfl (ltB rfl) ?_)
    | (refine SyL.light (LV.assign rfl) Rq.nil (.none rfl) rfl (ltB rfl) ?_)
    | (refine SyL.light (LV.len (by apply rfl)) Rq.nil (.none rfl) rfl (ltB rfl) ?_))
  refine SyC.loop (fun t env I' rs => ∃ k : Nat, t = l.length - k ∧ k ≤ l.length ∧ x ∉ l.take k ∧ I' = I ∧ rs = rs0 ∧
    env = [(8, .int .i64 (k : Nat)), (7, .int .i64 (l.length : Nat)), (0, .slice A l.length c), (1, .int .i64 (x : Nat))]) l.length _ (by repeat (first | exact trivial | refine ⟨rfl, ?_⟩)) ⟨0, rfl, by omega, by simp, rfl, rfl, rfl⟩ ?_
  rintro t env I' rs ⟨k, rfl, hk, hp, rfl, rfl, rfl⟩
  by_cases hlt : k < l.length
  · obtain ⟨ad, rfl, hq⟩ := hrd k _ (N64_get hlt)
    have e1 : l[k]? = some (l.getD k 0) := by simp [hlt]
    by_cases hx : x = l.getD k 0
    · repeat' (first
        | (refine SyC.seq ?_)
        | (refine SyC.region ?_)
        | (refine SyL.nil ?_)
        | (refine Then.norm ?_)
        | (refine Then.ret ?_)
        | (refine InB.ret ?_)
        | (refine SyC.block ?_)
        | (refine SyC.skip ?_)
        | (refine SyC.ret ?_)
        | (refine SyL.light (LV.move rfl) Rq.nil (.none rfl) rfl (ltB rfl) ?_)
        | (refine SyL.light (LV.assign rfl) Rq.nil (.none rfl) rfl (ltB rfl) ?_)
        | (refine SyL.light (LV.cmp rfl rfl rfl) Rq.nil (.none rfl) rfl (ltB rfl) ?_)
        | (refine SyL.light (LV.idxN (by apply rfl) (by apply rfl) (by omega)) Rq.nil (.none rfl) rfl (ltB rfl) ?_)
        | (refine SyL.light (LV.load rfl) (hq) (.none rfl) rfl (ltB rfl) ?_)
        | (refine SyC.condT rfl (by first | assumption | (with_reducible rfl) | decide | (simp only [decide_eq_true_eq, decide_eq_false_iff_not, Bool.not_eq_true', Bool.not_eq_false', beq_iff_eq, bne_iff_ne, ne_eq, beq_eq_false_iff_ne, bne_eq_false_iff_eq, Int.not_lt, Int.not_le, Bool.true_eq_false, Bool.false_eq_true, tb_one, tb_zero]; omega)) ?_))
      refine Ret.one (by simp) Try.results166 (.tmp rfl) ?_
      exact ⟨_, rfl, ⟨fun _ => by rw [hx]; exact List.mem_of_getElem? e1, fun _ => by omega⟩, rfl, rfl⟩
    · repeat' (first
        | (refine SyC.seq ?_)
        | (refine SyC.region ?_)
        | (refine SyL.nil ?_)
        | (refine Then.norm ?_)
        | (refine InB.norm ?_)
        | (refine SyC.block ?_)
        | (refine SyC.skip ?_)
        | (refine SyL.light (LV.move rfl) Rq.nil (.none rfl) rfl (ltB rfl) ?_)
        | (refine SyL.light (LV.assign rfl) Rq.nil (.none rfl) rfl (ltB rfl) ?_)
        | (refine SyL.light (LV.cmp rfl rfl rfl) Rq.nil (.none rfl) rfl (ltB rfl) ?_)
        | (refine SyL.light (LV.arN rfl rfl rfl (by simp only [Fits]; omega)) Rq.nil (.none rfl) rfl (ltB rfl) ?_)
        | (refine SyL.light (LV.idxN (by apply rfl) (by apply rfl) (by omega)) Rq.nil (.none rfl) rfl (ltB rfl) ?_)
        | (refine SyL.light (LV.load rfl) (hq) (.none rfl) rfl (ltB rfl) ?_)
        | (refine SyC.condT rfl (by first | assumption | (with_reducible rfl) | decide | (simp only [decide_eq_true_eq, decide_eq_false_iff_not, Bool.not_eq_true', Bool.not_eq_false', beq_iff_eq, bne_iff_ne, ne_eq, beq_eq_false_iff_ne, bne_eq_false_iff_eq, Int.not_lt, Int.not_le, Bool.true_eq_false, Bool.false_eq_true, tb_one, tb_zero]; omega)) ?_)
        | (refine SyC.condF rfl (by first | assumption | (with_reducible rfl) | decide | (simp only [decide_eq_true_eq, decide_eq_false_iff_not, Bool.not_eq_true', Bool.not_eq_false', beq_iff_eq, bne_iff_ne, ne_eq, beq_eq_false_iff_ne, bne_eq_false_iff_eq, Int.not_lt, Int.not_le, Bool.true_eq_false, Bool.false_eq_true, tb_one, tb_zero]; omega)) ?_))
      refine ⟨l.length - (k + 1), _, by omega, (by repeat (first | exact trivial | refine ⟨rfl, ?_⟩)), k + 1, rfl, by omega, ?_, rfl, rfl, rfl⟩
      rw [List.take_add_one, e1]
      simp only [Option.toList_some, List.mem_append, List.mem_singleton, hp, hx, or_self, not_false_eq_true]
  · obtain rfl : k = l.length := by omega
    rw [List.take_length] at hp
    repeat' (first
      | (refine SyC.seq ?_)
      | (refine SyC.region ?_)
      | (refine SyL.nil ?_)
      | (refine Then.norm ?_)
      | (refine Then.exit ?_)
      | (refine InB.hit ?_)
      | (refine SyC.exit ?_)
      | (refine SyC.ret ?_)
      | (refine SyL.light (LV.assign rfl) Rq.nil (.none rfl) rfl (ltB rfl) ?_)
      | (refine SyL.light (LV.cmp rfl rfl rfl) Rq.nil (.none rfl) rfl (ltB rfl) ?_)
      | (refine SyC.condF rfl (by first | assumption | (with_reducible rfl) | decide | (simp only [decide_eq_true_eq, decide_eq_false_iff_not, Bool.not_eq_true', Bool.not_eq_false', beq_iff_eq, bne_iff_ne, ne_eq, beq_eq_false_iff_ne, bne_eq_false_iff_eq, Int.not_lt, Int.not_le, Bool.true_eq_false, Bool.false_eq_true, tb_one, tb_zero]; omega)) ?_))
    refine Ret.one (by simp) Try.results166 (.tmp rfl) ?_
    exact ⟨-1, rfl, ⟨fun h => by omega, fun h => absurd h hp⟩, rfl, rfl⟩

set_option maxRecDepth 100000 in
theorem contains_c (I : IH) (rs0 : List Row) (A : Option Addr) (c : Nat) (l : List Nat) (x : Nat) (hl : l.length ≤ 1000000) (hrd : ∀ j u, (N64 l)[j]? = some u → ∃ ad, A = some ad ∧ Rq I rs0 [(ad.add j, u)]) :
    Sx.Fn Try.prog 157 #[.slice A l.length c, .int .i64 (x : Int)] I rs0 fun v I' rs' => v = .bool (decide (x ∈ l)) ∧ I' = I ∧ rs' = rs0 := by
  refine Fn.intro (n := 9) (args := [.slice A l.length c, .int .i64 (x : Int)]) (by kernel_rfl) Try.func157 rfl Try.ntmps157 (Nat.le_of_ble_eq_true rfl) [(0, .slice A l.length c), (1, .int .i64 (x : Int))] rfl (fun w0 => ?_)
  repeat' (first
    | (refine SyC.seq ?_)
    | (refine SyC.region ?_)
    | (refine SyL.nil ?_)
    | (refine Then.norm ?_)
    | (refine SyC.ret ?_)
    | (refine SyL.light (LV.move rfl) Rq.nil (.none rfl) rfl (ltB rfl) ?_)
    | (refine SyL.light (LV.assign rfl) Rq.nil (.none rfl) rfl (ltB rfl) ?_)
    | (refine SyL.light (LV.cmp rfl rfl rfl) Rq.nil (.none rfl) rfl (ltB rfl) ?_)
    | (refine SyL.heavy (OpT.callA rfl rfl (index_c _ _ A c l x hl hrd) ?_) (.none rfl) rfl (ltB rfl); rintro v1 I1 rs1 hle1 ⟨r, rfl, hr, rfl, rfl⟩))
  refine Ret.one (by simp) Try.results157 (.tmp rfl) ?_
  exact ⟨by simp only [hr], rfl, rfl⟩

set_option maxRecDepth 100000 in
theorem fillCost_c (I : IH) (g v : Nat) (G : List Nat) (hG : G.length = 16) (hs : Small G) (hv : v < 16) :
    Sx.Fn Try.prog 124 #[.pointer (some ⟨g, 0, none⟩), .int .i64 (v : Int)] I [.blk g 99 (U32 G)] fun r I' rs' => r = .int .i64 ((missing G v).length : Nat) ∧ rs' = [.blk g 99 (U32 G)] := by
  refine Fn.intro (n := 9) (args := [.pointer (some ⟨g, 0, none⟩), .int .i64 (v : Int)]) (by kernel_rfl) Try.func124 rfl Try.ntmps124 (Nat.le_of_ble_eq_true rfl) [(0, .pointer (some ⟨g, 0, none⟩)), (1, .int .i64 (v : Int))] rfl (fun w0 => ?_)
  repeat' (first
    | (refine SyC.seq ?_)
    | (refine SyC.region ?_)
    | (refine SyL.nil ?_)
    | (refine Then.norm ?_)
    | (refine SyC.ret ?_)
    | (refine SyL.light (LV.move rfl) Rq.nil (.none rfl) rfl (ltB rfl) ?_)
    | (refine SyL.light (LV.assign rfl) Rq.nil (.none rfl) rfl (ltB rfl) ?_)
    | (refine SyL.light (LV.len (by apply rfl)) Rq.nil (.none rfl) rfl (ltB rfl) ?_)
    | (refine SyL.heavy (OpT.call rfl rfl (missing_c _ g v G hG hs hv) rfl ?_) (.none rfl) rfl (ltB rfl); rintro v1 I1 rs1 hle1 ⟨A1, c1, rfl, hrd, rfl⟩))
  refine Ret.one (by simp) Try.results124 (.tmp rfl) ?_
  exact ⟨rfl, rfl⟩

set_option maxRecDepth 100000 in
theorem clone_c (I : IH) (ad : Addr) (n c : Nat) (G : List Nat) (hG : G.length = n) (hn : n ≤ 1000) (h0 : 0 < n) (hrd : RdSl I 1 (.slice (some ad) n c) n (U32 G)) :
    Sx.Fn Try.prog 13 #[.slice (some ad) n c] I [] fun r I' rs' => ∃ g c', r = .slice (some ⟨g, 0, none⟩) n c' ∧ I' = I ∧ rs' = [.own (some ⟨g, 0, none⟩) c' 33 1 n (U32 G)] := by
  refine Fn.intro (n := 8) (args := [.slice (some ad) n c]) (by kernel_rfl) Try.func13 rfl Try.ntmps13 (Nat.le_of_ble_eq_true rfl) [(0, .slice (some ad) n c)] rfl (fun w0 => ?_)
  have h1 := U32_one G
  have hlen := U32_len G
  have hnn : (some ad).isNone = false := rfl
  repeat' (first
    | (refine SyC.seq ?_)
    | (refine SyC.region ?_)
    | (refine SyL.nil ?_)
    | (refine Then.norm ?_)
    | (refine SyC.skip ?_)
    | (refine SyC.ret ?_)
    | (refine SyL.light (LV.move rfl) Rq.nil (.none rfl) rfl (ltB rfl) ?_)
    | (refine SyL.light (LV.assign rfl) Rq.nil (.none rfl) rfl (ltB rfl) ?_)
    | (refine SyL.light (LV.eqNil (by apply rfl) (by apply rfl)) Rq.nil (.none rfl) rfl (ltB rfl) ?_)
    | (refine SyL.heavy (OpT.buildSlice (xs := []) (vs := []) rfl rfl rfl (by simp [Value.cells]) (by decide) (fun g_ hg_ => ?_)) (.none rfl) rfl (ltB rfl))
    | (refine SyL.heavy (OpT.appendB (by apply rfl) (by apply rfl) (k := 0) rfl (by first | (simp; done) | (simp only [List.length_cons, List.length_nil, U32_len]; done) | (simp only [List.length_cons, List.length_nil, U32_len]; omega) | (simp; omega) | omega) (by first | (simp; done) | (simp only [List.length_cons, List.length_nil, U32_len]; done) | (simp only [List.length_cons, List.length_nil, U32_len]; omega) | (simp; omega) | omega) (Rq.immA fun j u hu => RdSl.at hrd hu) (by first | assumption | exact P64_one _ | exact N64_one _ | exact U32_one _ | simp [Value.oneCell']) (by first | omega | (simp only [List.length_append, List.length_cons, List.length_nil]; omega)) (by first | omega | (simp only [List.length_append, List.length_cons, List.length_nil]; omega)) (by decide) (fun A_ c_ => ?_)) (.none rfl) rfl (ltB rfl); rw [Nat.zero_add]; refine SyL.form (List.mem_of_getElem? (i := 0) rfl) h0 ?_; rintro g rfl)
    | (refine SyC.condF rfl (by first | assumption | (with_reducible rfl) | decide | (simp only [decide_eq_true_eq, decide_eq_false_iff_not, Bool.not_eq_true', Bool.not_eq_false', beq_iff_eq, bne_iff_ne, ne_eq, beq_eq_false_iff_ne, bne_eq_false_iff_eq, Int.not_lt, Int.not_le, Bool.true_eq_false, Bool.false_eq_true, tb_one, tb_zero]; omega)) ?_))
  exact Ret.oneS (by simp) Try.results13 (.tmp rfl) (⟨_, _, rfl, rfl, rfl⟩) (by repeat (first | exact List.Sublist.refl _ | exact List.nil_sublist _ | refine List.Sublist.cons_cons _ ?_ | refine List.Sublist.cons _ ?_))

theorem mk_u32 (n : Nat) : ((List.replicate ((n : Int)).toNat (Value.int .u32 0).cells.toList).flatten) = U32 (List.replicate n 0) := by simp [U32, Value.cells]
theorem clrI (x v : Nat) : x &&& (2 ^ IntKind.u32.bits - 1 - 2 ^ v) = clr x v := rfl

set_option maxRecDepth 100000 in
set_option maxHeartbeats 4000000 in
theorem graph_c (I : IH) (n : Nat) (hn : n ≤ 16) (A : Option Addr) (c : Nat) (ss : List (List Nat)) (cells : List Value) (h : RdSs I A c ss cells) (hs : Scopes n ss) :
    Sx.Fn Try.prog 9 #[.int .i64 (n : Int), .slice A ss.length c] I [] fun v I' rs' => ∃ g, v = .slice (some ⟨g, 0, none⟩) n n ∧ I' = I ∧ rs' = [.blk g 33 (U32 (addS (List.replicate n 0) ss))] := by
  have hm := hs.many
  have hcell : cells.length = ss.length := h.rd.len
  refine Fn.intro (n := 47) (args := [.int .i64 (n : Int), .slice A ss.length c]) (by kernel_rfl) Try.func9 rfl Try.ntmps9 (Nat.le_of_ble_eq_true rfl) [(0, .int .i64 (n : Int)), (1, .slice A ss.length c)] rfl (fun w0 => ?_)
  repeat' (first
    | (refine SyC.seq ?_)
    | (refine SyC.region ?_)
    | (refine SyL.nil ?_)
    | (refine Then.norm ?_)
    | (refine SyC.block ?_)
    | (refine SyL.light (LV.move rfl) Rq.nil (.none rfl) rfl (ltB rfl) ?_)
    | (refine SyL.light (LV.assign rfl) Rq.nil (.none rfl) rfl (ltB rfl) ?_)
    | (refine SyL.light (LV.len (by apply rfl)) Rq.nil (.none rfl) rfl (ltB rfl) ?_)
    | (refine SyL.heavy (OpT.make (by apply rfl) (by apply rfl) (by omega) (by omega) (by omega) (by decide) (by omega) (fun g_ hg_ => ?_)) (.none rfl) rfl (ltB rfl)))
  refine SyC.loop (fun m env I' rs => ∃ k : Nat, m = ss.length - k ∧ k ≤ ss.length ∧ I' = I ∧ rs = [.blk g_ 33 (U32 (addS (List.replicate n 0) (ss.take k)))] ∧
    env = [(16, .int .i64 (k : Nat)), (15, .int .i64 (ss.length : Nat)), (14, .slice A ss.length c), (5, .slice (some ⟨g_, 0, none⟩) n n)]) ss.length _ (by repeat (first | exact trivial | refine ⟨rfl, ?_⟩)) ⟨0, rfl, Nat.zero_le _, rfl, by rw [mk_u32]; rfl, rfl⟩ ?_
  rintro m env I' rs ⟨k, rfl, hk, rfl, rfl, rfl⟩
  by_cases hlt : k < ss.length
  · obtain ⟨ad, rfl⟩ := h.rd.addr (by omega)
    have hx : cells[k]? = some cells[k] := List.getElem?_eq_getElem (by omega)
    obtain ⟨l, B, cb, hl, hxe, hrd⟩ := h.el k _ hx
    have hlm := hs.long l (List.mem_of_getElem? hl)
    have hlb' := hs.below l (List.mem_of_getElem? hl)
    have hlb : ∀ b ∈ l, b < 16 := fun b hb => Nat.lt_of_lt_of_le (hlb' b hb) hn
    rw [hxe] at hx
    have hsm : Small (addS (List.replicate n 0) (ss.take k)) := (Small.zeros n).addS fun x hx => fun b hb => Nat.lt_of_lt_of_le (hs.below x (List.mem_of_mem_take hx) b hb) hn
    have hln : (addS (List.replicate n 0) (ss.take k)).length = n := by rw [addS_len]; simp
    have hstep := addS_step (g := List.replicate n 0) hl
    generalize addS (List.replicate n 0) (ss.take k) = G at hsm hln hstep
    repeat' (first
      | (refine SyC.seq ?_)
      | (refine SyC.region ?_)
      | (refine SyL.nil ?_)
      | (refine Then.norm ?_)
      | (refine SyC.block ?_)
      | (refine SyC.skip ?_)
      | (refine SyL.light (LV.move rfl) Rq.nil (.none rfl) rfl (ltB rfl) ?_)
      | (refine SyL.light (LV.assign rfl) Rq.nil (.none rfl) rfl (ltB rfl) ?_)
      | (refine SyL.light (LV.len (by apply rfl)) Rq.nil (.none rfl) rfl (ltB rfl) ?_)
      | (refine SyL.light (LV.cmp rfl rfl rfl) Rq.nil (.none rfl) rfl (ltB rfl) ?_)
      | (refine SyL.light (LV.idxN (by apply rfl) (by apply rfl) (by omega)) Rq.nil (.none rfl) rfl (ltB rfl) ?_)
      | (refine SyL.light (LV.load rfl) (Rq.imm (RdSl.at h.rd hx)) (.none rfl) rfl (ltB rfl) ?_)
      | (refine SyC.condT rfl (by first | assumption | (with_reducible rfl) | decide | (simp only [decide_eq_true_eq, decide_eq_false_iff_not, Bool.not_eq_true', Bool.not_eq_false', beq_iff_eq, bne_iff_ne, ne_eq, beq_eq_false_iff_ne, bne_eq_false_iff_eq, Int.not_lt, Int.not_le, Bool.true_eq_false, Bool.false_eq_true, tb_one, tb_zero]; omega)) ?_))
    refine SyC.loop (fun m env I'' rs => ∃ j : Nat, m = l.length - j ∧ j ≤ l.length ∧ I'' = I' ∧ rs = [.blk g_ 33 (U32 (addA l G (l.take j)))] ∧
      env = [(22, .int .i64 (j : Nat)), (21, .int .i64 (l.length : Nat)), (20, .slice B l.length cb), (7, .slice B l.length cb), (16, .int .i64 (k : Nat)), (15, .int .i64 (ss.length : Nat)), (14, .slice (some ad) ss.length c), (5, .slice (some ⟨g_, 0, none⟩) n n)]) l.length _ (by repeat (first | exact trivial | refine ⟨rfl, ?_⟩)) ⟨0, rfl, Nat.zero_le _, rfl, rfl, rfl⟩ ?_
    rintro m env I'' rs ⟨j, rfl, hj, rfl, rfl, rfl⟩
    by_cases hjl : j < l.length
    · obtain ⟨bd, rfl⟩ := hrd.addr (by omega)
      have ha : l[j]? = some l[j] := List.getElem?_eq_getElem hjl
      have hab := hlb _ (List.mem_of_getElem? ha)
      have hab' := hlb' _ (List.mem_of_getElem? ha)
      have hsm2 : Small (addA l G (l.take j)) := hsm.addA hlb
      have hln2 : (addA l G (l.take j)).length = n := by rw [addA_len, hln]
      have hstep2 := addA_step (l := l) (g := G) ha
      generalize addA l G (l.take j) = G2 at hsm2 hln2 hstep2
      generalize hla : l[j] = a at ha hab hab' hstep2
      repeat' (first
        | (refine SyC.seq ?_)
        | (refine SyC.region ?_)
        | (refine SyL.nil ?_)
        | (refine Then.norm ?_)
        | (refine SyC.block ?_)
        | (refine SyC.skip ?_)
        | (refine SyL.light (LV.move rfl) Rq.nil (.none rfl) rfl (ltB rfl) ?_)
        | (refine SyL.light (LV.assign rfl) Rq.nil (.none rfl) rfl (ltB rfl) ?_)
        | (refine SyL.light (LV.len (by apply rfl)) Rq.nil (.none rfl) rfl (ltB rfl) ?_)
        | (refine SyL.light (LV.cmp rfl rfl rfl) Rq.nil (.none rfl) rfl (ltB rfl) ?_)
        | (refine SyL.light (LV.idxN (by apply rfl) (by apply rfl) (by omega)) Rq.nil (.none rfl) rfl (ltB rfl) ?_)
        | (refine SyL.light (LV.load rfl) (Rq.imm (RdSl.at hrd (show (N64 l)[j]? = some (.int .i64 (a : Int)) from by simp [N64, ha]))) (.none rfl) rfl (ltB rfl) ?_)
        | (refine SyC.condT rfl (by first | assumption | (with_reducible rfl) | decide | (simp only [decide_eq_true_eq, decide_eq_false_iff_not, Bool.not_eq_true', Bool.not_eq_false', beq_iff_eq, bne_iff_ne, ne_eq, beq_eq_false_iff_ne, bne_eq_false_iff_eq, Int.not_lt, Int.not_le, Bool.true_eq_false, Bool.false_eq_true, tb_one, tb_zero]; omega)) ?_))
      refine SyC.loop (fun m env I' rs => ∃ i : Nat, m = l.length - i ∧ i ≤ l.length ∧ I' = I'' ∧ rs = [.blk g_ 33 (U32 (addB a G2 (l.take i)))] ∧
        env = [(28, .int .i64 (i : Nat)), (27, .int .i64 (l.length : Nat)), (26, .slice (some bd) l.length cb), (9, .int .i64 (a : Nat)), (22, .int .i64 (j : Nat)), (21, .int .i64 (l.length : Nat)), (20, .slice (some bd) l.length cb), (7, .slice (some bd) l.length cb), (16, .int .i64 (k : Nat)), (15, .int .i64 (ss.length : Nat)), (14, .slice (some ad) ss.length c), (5, .slice (some ⟨g_, 0, none⟩) n n)]) l.length _ (by repeat (first | exact trivial | refine ⟨rfl, ?_⟩)) ⟨0, rfl, Nat.zero_le _, rfl, rfl, rfl⟩ ?_
      rintro m env I' rs ⟨i, rfl, hi, rfl, rfl, rfl⟩
      by_cases hil : i < l.length
      · have hb : l[i]? = some l[i] := List.getElem?_eq_getElem hil
        have hbb := hlb _ (List.mem_of_getElem? hb)
        have hsm3 : Small (addB a G2 (l.take i)) := hsm2.addB a (Small.mono_take hlb)
        have hln3 : (addB a G2 (l.take i)).length = n := by rw [addB_len, hln2]
        have hstep3 := addB_step (a := a) (g := G2) hb
        generalize addB a G2 (l.take i) = G3 at hsm3 hln3 hstep3
        generalize hlb' : l[i] = b at hb hbb hstep3
        have hb3 := hsm3.getD a
        by_cases hne : a = b
        · repeat' (first
            | (refine SyC.seq ?_)
            | (refine SyC.region ?_)
            | (refine SyL.nil ?_)
            | (refine Then.norm ?_)
            | (refine InB.norm ?_)
            | (refine SyC.block ?_)
            | (refine SyC.skip ?_)
            | (refine SyL.light (LV.move rfl) Rq.nil (.none rfl) rfl (ltB rfl) ?_)
            | (refine SyL.light (LV.assign rfl) Rq.nil (.none rfl) rfl (ltB rfl) ?_)
            | (refine SyL.light (LV.cmp rfl rfl rfl) Rq.nil (.none rfl) rfl (ltB rfl) ?_)
            | (refine SyL.light (LV.arN rfl rfl rfl (by simp only [Fits]; omega)) Rq.nil (.none rfl) rfl (ltB rfl) ?_)
            | (refine SyL.light (LV.idxN (by apply rfl) (by apply rfl) (by omega)) Rq.nil (.none rfl) rfl (ltB rfl) ?_)
            | (refine SyL.light (LV.load rfl) (Rq.imm (RdSl.at hrd (show (N64 l)[i]? = some (.int .i64 (b : Int)) from by simp [N64, hb]))) (.none rfl) rfl (ltB rfl) ?_)
            | (refine SyC.condT rfl (by first | assumption | (with_reducible rfl) | decide | (simp only [decide_eq_true_eq, decide_eq_false_iff_not, Bool.not_eq_true', Bool.not_eq_false', beq_iff_eq, bne_iff_ne, ne_eq, beq_eq_false_iff_ne, bne_eq_false_iff_eq, Int.not_lt, Int.not_le, Bool.true_eq_false, Bool.false_eq_true, tb_one, tb_zero]; omega)) ?_)
            | (refine SyC.condF rfl (by first | assumption | (with_reducible rfl) | decide | (simp only [decide_eq_true_eq, decide_eq_false_iff_not, Bool.not_eq_true', Bool.not_eq_false', beq_iff_eq, bne_iff_ne, ne_eq, beq_eq_false_iff_ne, bne_eq_false_iff_eq, Int.not_lt, Int.not_le, Bool.true_eq_false, Bool.false_eq_true, tb_one, tb_zero]; omega)) ?_))
          exact ⟨l.length - (i + 1), _, by omega, (by repeat (first | exact trivial | refine ⟨rfl, ?_⟩)), i + 1, rfl, by omega, rfl, by rw [hstep3, addE_eq hne], rfl⟩
        · repeat' (first
            | (refine SyC.seq ?_)
            | (refine SyC.region ?_)
            | (refine SyL.nil ?_)
            | (refine Then.norm ?_)
            | (refine InB.norm ?_)
            | (refine SyC.block ?_)
            | (refine SyC.skip ?_)
            | (refine SyC.draw (id := 12) (by kernel_rfl) (by kernel_rfl) ?_; refine D.light (i := 0) rfl (.on (.none rfl) (LV.move rfl)) Rq.nil (by kernel_rfl) rfl (ltB rfl) ?_; refine D.light (i := 1) rfl (.on (.none rfl) (LV.move rfl)) Rq.nil (by kernel_rfl) rfl (ltB rfl) ?_; refine D.light (i := 2) rfl (.on (.none rfl) (LV.idxBN (by apply rfl) (by apply rfl) (by omega))) Rq.nil (by kernel_rfl) rfl (ltB rfl) ?_; refine D.light (i := 3) rfl (.on (.none rfl) (LV.load rfl)) (Rq.blk (List.mem_of_getElem? (i := 0) rfl) (U32_get (by omega))) (by kernel_rfl) rfl (ltB rfl) ?_; refine D.light (i := 4) rfl (.on (.none rfl) (LV.move rfl)) Rq.nil (by kernel_rfl) rfl (ltB rfl) ?_; refine D.light (i := 5) rfl (.on (.none rfl) (LV.shl1 rfl rfl rfl (by simp only [IntKind.bits]; omega))) Rq.nil (by kernel_rfl) rfl (ltB rfl) ?_; refine D.light (i := 6) rfl (.on (.none rfl) (LV.bitsN rfl rfl rfl rfl (by first | (simp only [IntKind.bits]; omega) | exact pow32 (by omega) | assumption) (by first | (simp only [IntKind.bits]; omega) | exact pow32 (by omega) | assumption))) Rq.nil (by kernel_rfl) rfl (ltB rfl) ?_; refine D.light (i := 7) rfl (.on (.none rfl) (LV.idxBN (by apply rfl) (by apply rfl) (by omega))) Rq.nil (by kernel_rfl) rfl (ltB rfl) ?_; refine D.heavy0 (i := 8) rfl (OpT.store rfl rfl rfl (k := 0) rfl (by first | (simp; done) | (simp only [List.length_cons, List.length_nil, U32_len]; done) | (simp only [List.length_cons, List.length_nil, U32_len]; omega) | (simp; omega) | omega) ?_) (.none rfl) (by kernel_rfl) (by kernel_rfl) rfl (chg_bits (by kernel_rfl)); refine D.fin (by kernel_rfl) ?_)
            | (refine SyL.light (LV.move rfl) Rq.nil (.none rfl) rfl (ltB rfl) ?_)
            | (refine SyL.light (LV.assign rfl) Rq.nil (.none rfl) rfl (ltB rfl) ?_)
            | (refine SyL.light (LV.cmp rfl rfl rfl) Rq.nil (.none rfl) rfl (ltB rfl) ?_)
            | (refine SyL.light (LV.arN rfl rfl rfl (by simp only [Fits]; omega)) Rq.nil (.none rfl) rfl (ltB rfl) ?_)
            | (refine SyL.light (LV.idxN (by apply rfl) (by apply rfl) (by omega)) Rq.nil (.none rfl) rfl (ltB rfl) ?_)
            | (refine SyL.light (LV.load rfl) (Rq.imm (RdSl.at hrd (show (N64 l)[i]? = some (.int .i64 (b : Int)) from by simp [N64, hb]))) (.none rfl) rfl (ltB rfl) ?_)
            | (refine SyC.condT rfl (by first | assumption | (with_reducible rfl) | decide | (simp only [decide_eq_true_eq, decide_eq_false_iff_not, Bool.not_eq_true', Bool.not_eq_false', beq_iff_eq, bne_iff_ne, ne_eq, beq_eq_false_iff_ne, bne_eq_false_iff_eq, Int.not_lt, Int.not_le, Bool.true_eq_false, Bool.false_eq_true, tb_one, tb_zero]; omega)) ?_))
          exact ⟨l.length - (i + 1), _, by omega, (by repeat (first | exact trivial | refine ⟨rfl, ?_⟩)), i + 1, rfl, by omega, rfl, by rw [hstep3, addE_ne hne, ← U32_set]; rfl, rfl⟩
      · obtain rfl : i = l.length := by omega
        repeat' (first
          | (refine SyC.seq ?_)
          | (refine SyC.region ?_)
          | (refine SyL.nil ?_)
          | (refine Then.norm ?_)
          | (refine Then.exit ?_)
          | (refine InB.norm ?_)
          | (refine InB.hit ?_)
          | (refine SyC.exit ?_)
          | (refine SyL.light (LV.move rfl) Rq.nil (.none rfl) rfl (ltB rfl) ?_)
          | (refine SyL.light (LV.cmp rfl rfl rfl) Rq.nil (.none rfl) rfl (ltB rfl) ?_)
          | (refine SyL.light (LV.arN rfl rfl rfl (by simp only [Fits]; omega)) Rq.nil (.none rfl) rfl (ltB rfl) ?_)
          | (refine SyC.condF rfl (by first | assumption | (with_reducible rfl) | decide | (simp only [decide_eq_true_eq, decide_eq_false_iff_not, Bool.not_eq_true', Bool.not_eq_false', beq_iff_eq, bne_iff_ne, ne_eq, beq_eq_false_iff_ne, bne_eq_false_iff_eq, Int.not_lt, Int.not_le, Bool.true_eq_false, Bool.false_eq_true, tb_one, tb_zero]; omega)) ?_))
        exact ⟨l.length - (j + 1), _, by omega, (by repeat (first | exact trivial | refine ⟨rfl, ?_⟩)), j + 1, rfl, by omega, rfl, by rw [hstep2, List.take_length], rfl⟩
    · obtain rfl : j = l.length := by omega
      repeat' (first
        | (refine SyC.seq ?_)
        | (refine SyC.region ?_)
        | (refine SyL.nil ?_)
        | (refine Then.norm ?_)
        | (refine Then.exit ?_)
        | (refine InB.norm ?_)
        | (refine InB.hit ?_)
        | (refine SyC.exit ?_)
        | (refine SyL.light (LV.move rfl) Rq.nil (.none rfl) rfl (ltB rfl) ?_)
        | (refine SyL.light (LV.cmp rfl rfl rfl) Rq.nil (.none rfl) rfl (ltB rfl) ?_)
        | (refine SyL.light (LV.arN rfl rfl rfl (by simp only [Fits]; omega)) Rq.nil (.none rfl) rfl (ltB rfl) ?_)
        | (refine SyC.condF rfl (by first | assumption | (with_reducible rfl) | decide | (simp only [decide_eq_true_eq, decide_eq_false_iff_not, Bool.not_eq_true', Bool.not_eq_false', beq_iff_eq, bne_iff_ne, ne_eq, beq_eq_false_iff_ne, bne_eq_false_iff_eq, Int.not_lt, Int.not_le, Bool.true_eq_false, Bool.false_eq_true, tb_one, tb_zero]; omega)) ?_))
      exact ⟨ss.length - (k + 1), _, by omega, (by repeat (first | exact trivial | refine ⟨rfl, ?_⟩)), k + 1, rfl, by omega, rfl, by rw [hstep, List.take_length], rfl⟩
  · obtain rfl : k = ss.length := by omega
    rw [List.take_length]
    have hln : (addS (List.replicate n 0) ss).length = n := by rw [addS_len]; simp
    generalize addS (List.replicate n 0) ss = G at hln
    repeat' (first
      | (refine SyC.seq ?_)
      | (refine SyC.region ?_)
      | (refine SyL.nil ?_)
      | (refine Then.norm ?_)
      | (refine Then.exit ?_)
      | (refine InB.hit ?_)
      | (refine SyC.exit ?_)
      | (refine SyC.ret ?_)
      | (refine SyL.light (LV.move rfl) Rq.nil (.none rfl) rfl (ltB rfl) ?_)
      | (refine SyL.light (LV.assign rfl) Rq.nil (.none rfl) rfl (ltB rfl) ?_)
      | (refine SyL.light (LV.cmp rfl rfl rfl) Rq.nil (.none rfl) rfl (ltB rfl) ?_)
      | (refine SyC.condF rfl (by first | assumption | (with_reducible rfl) | decide | (simp only [decide_eq_true_eq, decide_eq_false_iff_not, Bool.not_eq_true', Bool.not_eq_false', beq_iff_eq, bne_iff_ne, ne_eq, beq_eq_false_iff_ne, bne_eq_false_iff_eq, Int.not_lt, Int.not_le, Bool.true_eq_false, Bool.false_eq_true, tb_one, tb_zero]; omega)) ?_))
    refine Ret.one (by simp) Try.results9 (.tmp rfl) ?_
    exact ⟨g_, rfl, rfl, rfl⟩
end Go.Proofs.Ytpgkbipnkkeicaa
