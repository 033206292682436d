import Derived.Test.YtpgkbipnkkeicaaDoorTy
set_option linter.unusedSimpArgs false
set_option linter.unusedVariables false
/-! The reader of bytes. -/
namespace Go.Proofs.YtpgkbipnkkeicaaDoor
open Go Go.Sx

def U8 (l : List Nat) : List Value := l.map fun (d : Nat) => Value.int .u8 (d : Int)
theorem U8_get {l : List Nat} {j : Nat} (h : j < l.length) : (U8 l)[j]? = some (.int .u8 ((l.getD j 0 : Nat) : Int)) := by
  simp [U8, h]
def U32 (l : List Nat) : List Value := l.map fun (d : Nat) => Value.int .u32 (d : Int)
theorem U32_get {l : List Nat} {j : Nat} (h : j < l.length) : (U32 l)[j]? = some (.int .u32 ((l.getD j 0 : Nat) : Int)) := by
  simp [U32, h]
theorem U32_len (l : List Nat) : (U32 l).length = l.length := by simp [U32]
theorem U32_set (l : List Nat) (j x : Nat) : (U32 l).set j (.int .u32 (x : Int)) = U32 (l.set j x) := by simp [U32, List.map_set]
theorem U32_one (l : List Nat) : ∀ v ∈ U32 l, v.oneCell' = true := by
  intro v hv
  simp only [U32, List.mem_map] at hv
  obtain ⟨d, _, rfl⟩ := hv
  rfl
/-- The reader: its bytes are there, and it has read so many. -/
structure SigOK (I : IH) (A : Option Addr) (c : Nat) (l : List Nat) : Prop where
  rd : RdSl I 1 (.slice A l.length c) l.length (U8 l)
  byte : ∀ x ∈ l, x < 256
  short : l.length ≤ 400
theorem SigOK.le {I I' : IH} {A : Option Addr} {c : Nat} {l : List Nat} (h : SigOK I A c l) (hle : I.le I') : SigOK I' A c l := ⟨h.rd.le hle, h.byte, h.short⟩
def SigR (g : Nat) (A : Option Addr) (c : Nat) (l : List Nat) (at_ : Nat) : Row := .blk g 45 [.slice A l.length c, .int .i64 (at_ : Int)]

set_option maxRecDepth 100000 in
theorem next_c (I : IH) (g : Nat) (A : Option Addr) (c : Nat) (l : List Nat) (k : Nat) (h : SigOK I A c l) (hk : k ≤ 1000000000) :
    Sx.Fn Tryd.prog 36 #[.pointer (some ⟨g, 0, none⟩)] I [SigR g A c l k] fun v I' rs' => ∃ b : Nat, b < 256 ∧ v = .int .i64 (b : Int) ∧ I' = I ∧ rs' = [SigR g A c l (k + 1)] := by
  have hcap := h.rd.cap
  unfold SigR
  refine Fn.intro (n := 32) (args := [.pointer (some ⟨g, 0, none⟩)]) (by kernel_rfl) Tryd.func36 rfl Tryd.ntmps36 (Nat.le_of_ble_eq_true rfl) [(0, .pointer (some ⟨g, 0, none⟩))] rfl (fun w0 => ?_)
  by_cases hlt : k < l.length
  · obtain ⟨ad, rfl⟩ := h.rd.addr (by omega)
    have hb : l.getD k 0 < 256 := by
      rw [List.getD_eq_getElem?_getD, List.getElem?_eq_getElem hlt]; exact h.byte _ (List.getElem_mem hlt)
    repeat' (first
      | (refine SyC.seq ?_)
      | (refine SyC.region ?_)
      | (refine SyL.nil ?_)
      | (refine Then.norm ?_)
      | (refine SyC.skip ?_)
      | (refine SyC.ret ?_)
      | (refine SyC.draw (id := 2) (by kernel_rfl) (by kernel_rfl) ?_; refine D.light (i := 0) rfl (.on (.none rfl) (LV.move rfl)) Rq.nil (by kernel_rfl) rfl (ltB rfl) ?_; refine D.light (i := 1) rfl (.on (.none rfl) (LV.nilCheck rfl)) Rq.nil (by kernel_rfl) rfl (ltB rfl) ?_; refine D.light (i := 2) rfl (.on (.none rfl) (LV.fieldAddr (by apply rfl))) Rq.nil (by kernel_rfl) rfl (ltB rfl) ?_; refine D.light (i := 3) rfl (.on (.none rfl) (LV.load rfl)) (Rq.blkL (by decide) (List.mem_of_getElem? (i := 0) rfl) (by exact rfl)) (by kernel_rfl) rfl (ltB rfl) ?_; refine D.light (i := 4) rfl (.on (.none rfl) (LV.move rfl)) Rq.nil (by kernel_rfl) rfl (ltB rfl) ?_; refine D.light (i := 5) rfl (.on (.none rfl) (LV.nilCheck rfl)) Rq.nil (by kernel_rfl) rfl (ltB rfl) ?_; refine D.light (i := 6) rfl (.on (.none rfl) (LV.fieldAddr (by apply rfl))) Rq.nil (by kernel_rfl) rfl (ltB rfl) ?_; refine D.light (i := 7) rfl (.on (.none rfl) (LV.load rfl)) (Rq.blkL (by decide) (List.mem_of_getElem? (i := 0) rfl) (by exact rfl)) (by kernel_rfl) rfl (ltB rfl) ?_; refine D.light (i := 8) rfl (.on (.none rfl) (LV.len (by apply rfl))) Rq.nil (by kernel_rfl) rfl (ltB rfl) ?_; refine D.light (i := 9) rfl (.on (.none rfl) (LV.cmp rfl rfl rfl)) Rq.nil (by kernel_rfl) rfl (ltB rfl) ?_; refine D.fin (by kernel_rfl) ?_)
      | (refine SyC.draw (id := 4) (by kernel_rfl) (by kernel_rfl) ?_; refine D.light (i := 0) rfl (.on (.none rfl) (LV.move rfl)) Rq.nil (by kernel_rfl) rfl (ltB rfl) ?_; refine D.light (i := 1) rfl (.on (.none rfl) (LV.nilCheck rfl)) Rq.nil (by kernel_rfl) rfl (ltB rfl) ?_; refine D.light (i := 2) rfl (.on (.none rfl) (LV.fieldAddr (by apply rfl))) Rq.nil (by kernel_rfl) rfl (ltB rfl) ?_; refine D.light (i := 3) rfl (.on (.none rfl) (LV.load rfl)) (Rq.blkL (by decide) (List.mem_of_getElem? (i := 0) rfl) (by exact rfl)) (by kernel_rfl) rfl (ltB rfl) ?_; refine D.light (i := 4) rfl (.on (.none rfl) (LV.move rfl)) Rq.nil (by kernel_rfl) rfl (ltB rfl) ?_; refine D.light (i := 5) rfl (.on (.none rfl) (LV.nilCheck rfl)) Rq.nil (by kernel_rfl) rfl (ltB rfl) ?_; refine D.light (i := 6) rfl (.on (.none rfl) (LV.fieldAddr (by apply rfl))) Rq.nil (by kernel_rfl) rfl (ltB rfl) ?_; refine D.light (i := 7) rfl (.on (.none rfl) (LV.load rfl)) (Rq.blkL (by decide) (List.mem_of_getElem? (i := 0) rfl) (by exact rfl)) (by kernel_rfl) rfl (ltB rfl) ?_; refine D.light (i := 8) rfl (.on (.none rfl) (LV.arN rfl rfl rfl (by simp only [Fits]; omega))) Rq.nil (by kernel_rfl) rfl (ltB rfl) ?_; refine D.light (i := 9) rfl (.on (.none rfl) (LV.idx (by apply rfl) (by apply rfl) (by omega) (by omega))) Rq.nil (by kernel_rfl) rfl (ltB rfl) ?_; refine D.light (i := 10) rfl (.on (.none rfl) (LV.load rfl)) (Rq.imm (RdSl.at1 h.rd (U8_get (by omega)))) (by kernel_rfl) rfl (ltB rfl) ?_; refine D.light (i := 11) rfl (.on (.none rfl) (LV.conv (by apply rfl))) Rq.nil (by kernel_rfl) rfl (ltB rfl) ?_; refine D.light (i := 12) rfl (.on (.none rfl) (LV.assign rfl)) Rq.nil (by kernel_rfl) rfl (ltB rfl) ?_; refine D.fin (by kernel_rfl) ?_)
      | (refine SyL.light (LV.move rfl) Rq.nil (.none rfl) rfl (ltB rfl) ?_)
      | (refine SyL.light (LV.assign rfl) Rq.nil (.none rfl) rfl (ltB rfl) ?_)
      | (refine SyL.light (LV.arN rfl rfl rfl (by simp only [Fits]; omega)) Rq.nil (.none rfl) rfl (ltB rfl) ?_)
      | (refine SyL.light (LV.fieldAddr (by apply rfl)) Rq.nil (.none rfl) rfl (ltB rfl) ?_)
      | (refine SyL.light (LV.nilCheck rfl) Rq.nil (.none rfl) rfl (ltB rfl) ?_)
      | (refine SyL.light (LV.load rfl) (Rq.blkL (by decide) (List.mem_of_getElem? (i := 0) rfl) (by exact rfl)) (.none rfl) rfl (ltB rfl) ?_)
      | (refine SyL.heavy0 (OpT.store rfl rfl rfl (k := 0) rfl (by first | (simp; done) | (simp only [List.length_cons, List.length_nil]; done) | (simp only [List.length_cons, List.length_nil]; omega) | (simp; omega) | omega) ?_) (.none rfl) rfl)
      | (refine SyC.condF rfl (by first | assumption | (with_reducible rfl) | decide | (simp only [decide_eq_true_eq, decide_eq_false_iff_not, Bool.not_eq_true', Bool.not_eq_false', beq_iff_eq, bne_iff_ne, ne_eq, beq_eq_false_iff_ne, bne_eq_false_iff_eq, Int.not_lt, Int.not_le, Bool.true_eq_false, Bool.false_eq_true, tb_one, tb_zero]; omega)) ?_))
    refine Ret.one (by simp) Tryd.results36 (.tmp rfl) ?_
    refine ⟨l.getD k 0, hb, ?_, rfl, rfl⟩
    rw [show ((k : Int) + 1 - 1).toNat = k from by omega, Fits.wrap (k := .i64) (by simp only [Fits]; omega)]
  · repeat' (first
      | (refine SyC.seq ?_)
      | (refine SyC.region ?_)
      | (refine SyL.nil ?_)
      | (refine Then.norm ?_)
      | (refine Then.ret ?_)
      | (refine SyC.ret ?_)
      | (refine SyC.draw (id := 2) (by kernel_rfl) (by kernel_rfl) ?_; refine D.light (i := 0) rfl (.on (.none rfl) (LV.move rfl)) Rq.nil (by kernel_rfl) rfl (ltB rfl) ?_; refine D.light (i := 1) rfl (.on (.none rfl) (LV.nilCheck rfl)) Rq.nil (by kernel_rfl) rfl (ltB rfl) ?_; refine D.light (i := 2) rfl (.on (.none rfl) (LV.fieldAddr (by apply rfl))) Rq.nil (by kernel_rfl) rfl (ltB rfl) ?_; refine D.light (i := 3) rfl (.on (.none rfl) (LV.load rfl)) (Rq.blkL (by decide) (List.mem_of_getElem? (i := 0) rfl) (by exact rfl)) (by kernel_rfl) rfl (ltB rfl) ?_; refine D.light (i := 4) rfl (.on (.none rfl) (LV.move rfl)) Rq.nil (by kernel_rfl) rfl (ltB rfl) ?_; refine D.light (i := 5) rfl (.on (.none rfl) (LV.nilCheck rfl)) Rq.nil (by kernel_rfl) rfl (ltB rfl) ?_; refine D.light (i := 6) rfl (.on (.none rfl) (LV.fieldAddr (by apply rfl))) Rq.nil (by kernel_rfl) rfl (ltB rfl) ?_; refine D.light (i := 7) rfl (.on (.none rfl) (LV.load rfl)) (Rq.blkL (by decide) (List.mem_of_getElem? (i := 0) rfl) (by exact rfl)) (by kernel_rfl) rfl (ltB rfl) ?_; refine D.light (i := 8) rfl (.on (.none rfl) (LV.len (by apply rfl))) Rq.nil (by kernel_rfl) rfl (ltB rfl) ?_; refine D.light (i := 9) rfl (.on (.none rfl) (LV.cmp rfl rfl rfl)) Rq.nil (by kernel_rfl) rfl (ltB rfl) ?_; refine D.fin (by kernel_rfl) ?_)
      | (refine SyL.light (LV.move rfl) Rq.nil (.none rfl) rfl (ltB rfl) ?_)
      | (refine SyL.light (LV.assign rfl) Rq.nil (.none rfl) rfl (ltB rfl) ?_)
      | (refine SyL.light (LV.arN rfl rfl rfl (by simp only [Fits]; omega)) Rq.nil (.none rfl) rfl (ltB rfl) ?_)
      | (refine SyL.light (LV.fieldAddr (by apply rfl)) Rq.nil (.none rfl) rfl (ltB rfl) ?_)
      | (refine SyL.light (LV.nilCheck rfl) Rq.nil (.none rfl) rfl (ltB rfl) ?_)
      | (refine SyL.light (LV.load rfl) (Rq.blkL (by decide) (List.mem_of_getElem? (i := 0) rfl) (by exact rfl)) (.none rfl) rfl (ltB rfl) ?_)
      | (refine SyL.heavy0 (OpT.store rfl rfl rfl (k := 0) rfl (by first | (simp; done) | (simp only [List.length_cons, List.length_nil]; done) | (simp only [List.length_cons, List.length_nil]; omega) | (simp; omega) | omega) ?_) (.none rfl) rfl)
      | (refine SyC.condT rfl (by first | assumption | (with_reducible rfl) | decide | (simp only [decide_eq_true_eq, decide_eq_false_iff_not, Bool.not_eq_true', Bool.not_eq_false', beq_iff_eq, bne_iff_ne, ne_eq, beq_eq_false_iff_ne, bne_eq_false_iff_eq, Int.not_lt, Int.not_le, Bool.true_eq_false, Bool.false_eq_true, tb_one, tb_zero]; omega)) ?_))
    refine Ret.one (by simp) Tryd.results36 (.tmp rfl) ?_
    exact ⟨0, by omega, rfl, rfl, rfl⟩

theorem emod_val (x n : Int) (h : 0 < n) : Value.int .i64 (x % n) = Value.int .i64 (((x % n).toNat : Nat) : Int) := by
  rw [Int.toNat_of_nonneg (Int.emod_nonneg _ (by omega))]
theorem emod_lt (x n : Int) (h : 0 < n) : (((x % n).toNat : Nat) : Int) < n := by
  rw [Int.toNat_of_nonneg (Int.emod_nonneg _ (by omega))]; exact Int.emod_lt_of_pos _ h

set_option maxRecDepth 100000 in
/-- A number below n, or 0. -/
theorem less_c (I : IH) (g : Nat) (A : Option Addr) (c : Nat) (l : List Nat) (k : Nat) (h : SigOK I A c l) (hk : k ≤ 999999990) (n : Int) (hn : -1000000 ≤ n) (hn' : n ≤ 65536) :
    Sx.Fn Tryd.prog 21 #[.pointer (some ⟨g, 0, none⟩), .int .i64 n] I [SigR g A c l k] fun v I' rs' => ∃ b k' : Nat, ((b : Int) < n ∨ b = 0) ∧ k ≤ k' ∧ k' ≤ k + 2 ∧ v = .int .i64 (b : Int) ∧ I' = I ∧ rs' = [SigR g A c l k'] := by
  refine Fn.intro (n := 20) (args := [.pointer (some ⟨g, 0, none⟩), .int .i64 n]) (by kernel_rfl) Tryd.func21 rfl Tryd.ntmps21 (Nat.le_of_ble_eq_true rfl) [(0, .pointer (some ⟨g, 0, none⟩)), (1, .int .i64 n)] rfl (fun w0 => ?_)
  repeat' (first
    | (refine SyC.seq ?_)
    | (refine SyC.region ?_)
    | (refine SyL.nil ?_)
    | (refine Then.norm ?_)
    | (refine Then.ret ?_)
    | (refine SyC.skip ?_)
    | (refine SyC.ret ?_)
    | (refine SyL.light (LV.move rfl) Rq.nil (.none rfl) rfl (ltB rfl) ?_)
    | (refine SyL.light (LV.assign rfl) Rq.nil (.none rfl) rfl (ltB rfl) ?_)
    | (refine SyL.light (LV.cmp rfl rfl rfl) Rq.nil (.none rfl) rfl (ltB rfl) ?_)
    | (refine SyL.light (LV.arN rfl rfl rfl (by simp only [Fits]; omega)) Rq.nil (.none rfl) rfl (ltB rfl) ?_)
    | (refine SyL.light (LV.remN rfl rfl (by omega) (by omega)) Rq.nil (.none rfl) rfl (ltB rfl) ?_)
    | (refine SyL.heavy (OpT.call rfl rfl (next_c _ g A c l _ h (by omega)) rfl ?_) (.none rfl) rfl (ltB rfl); rintro v1 I1 rs1 hle1 ⟨b1, hb1, rfl, rfl, rfl⟩)
    | (refine SyC.cond rfl (fun hc_ => ?_) (fun hc_ => ?_) <;> (have hp_ := hc_; (try simp only [decide_eq_true_eq, decide_eq_false_iff_not, Bool.not_eq_true', Bool.not_eq_false', beq_iff_eq, bne_iff_ne, ne_eq, beq_eq_false_iff_ne, bne_eq_false_iff_eq, Int.not_lt, Int.not_le, Bool.true_eq_false, Bool.false_eq_true, tb_one, tb_zero] at hp_); (try (exfalso; omega)))))
  · refine Ret.one (by simp) Tryd.results21 (.tmp rfl) ?_
    exact ⟨0, k, .inr rfl, by omega, by omega, rfl, rfl, rfl⟩
  · refine Ret.one (by simp) Tryd.results21 (.tmp rfl) ?_
    exact ⟨_, k + 2, .inl (emod_lt _ _ (by omega)), by omega, by omega, emod_val _ _ (by omega), rfl, rfl⟩
  · refine Ret.one (by simp) Tryd.results21 (.tmp rfl) ?_
    exact ⟨_, k + 1, .inl (emod_lt _ _ (by omega)), by omega, by omega, emod_val _ _ (by omega), rfl, rfl⟩

def I64 (l : List Int) : List Value := l.map fun (d : Int) => Value.int .i64 d
theorem I64_get {l : List Int} {j : Nat} (h : j < l.length) : (I64 l)[j]? = some (.int .i64 (l.getD j 0)) := by
  simp [I64, h]

set_option maxRecDepth 100000 in
/-- One of some numbers. -/
theorem pick_c (I : IH) (g : Nat) (A : Option Addr) (c : Nat) (l : List Nat) (k : Nat) (h : SigOK I A c l) (hk : k ≤ 999999990) (B : Option Addr) (cb : Nat) (xs : List Int) (hx : RdSl I 1 (.slice B xs.length cb) xs.length (I64 xs))
    (h0 : 0 < xs.length) (h1 : xs.length ≤ 1000) :
    Sx.Fn Tryd.prog 20 #[.pointer (some ⟨g, 0, none⟩), .slice B xs.length cb] I [SigR g A c l k] fun v I' rs' => ∃ x ∈ xs, ∃ k' : Nat, k ≤ k' ∧ k' ≤ k + 2 ∧ v = .int .i64 x ∧ I' = I ∧ rs' = [SigR g A c l k'] := by
  obtain ⟨ad, rfl⟩ := hx.addr h0
  refine Fn.intro (n := 12) (args := [.pointer (some ⟨g, 0, none⟩), .slice (some ad) xs.length cb]) (by kernel_rfl) Tryd.func20 rfl Tryd.ntmps20 (Nat.le_of_ble_eq_true rfl) [(0, .pointer (some ⟨g, 0, none⟩)), (1, .slice (some ad) xs.length cb)] rfl (fun w0 => ?_)
  repeat' (first
    | (refine SyC.seq ?_)
    | (refine SyC.region ?_)
    | (refine SyL.nil ?_)
    | (refine Then.norm ?_)
    | (refine SyC.ret ?_)
    | (refine SyL.light (LV.move rfl) Rq.nil (.none rfl) rfl (ltB rfl) ?_)
    | (refine SyL.light (LV.assign rfl) Rq.nil (.none rfl) rfl (ltB rfl) ?_)
    | (refine SyL.light (LV.len (by apply rfl)) Rq.nil (.none rfl) rfl (ltB rfl) ?_)
    | (refine SyL.light (LV.idxN (by apply rfl) (by apply rfl) (by omega)) Rq.nil (.none rfl) rfl (ltB rfl) ?_)
    | (refine SyL.light (LV.load rfl) (Rq.imm (RdSl.at hx (I64_get (by omega)))) (.none rfl) rfl (ltB rfl) ?_)
    | (refine SyL.heavy (OpT.call rfl rfl (less_c _ g A c l _ h (by omega) xs.length (by omega) (by omega)) rfl ?_) (.none rfl) rfl (ltB rfl); rintro v1 I1 rs1 hle1 ⟨b1, k1, hb1, hk1, hk2, rfl, rfl, rfl⟩))
  have hlt : b1 < xs.length := by omega
  refine Ret.one (by simp) Tryd.results20 (.tmp rfl) ?_
  refine ⟨xs.getD b1 0, ?_, k1, hk1, hk2, by simp, rfl, rfl⟩
  rw [List.getD_eq_getElem?_getD, List.getElem?_eq_getElem hlt]
  exact List.getElem_mem hlt
end Go.Proofs.YtpgkbipnkkeicaaDoor
