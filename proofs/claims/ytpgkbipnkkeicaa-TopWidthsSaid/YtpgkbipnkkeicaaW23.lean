import Derived.Test.YtpgkbipnkkeicaaW21
import Derived.Test.YtpgkbipnkkeicaaFrm
set_option linter.unusedSimpArgs false
set_option linter.unusedVariables false
/-! sigilOf, the chooser of a given order. -/
namespace Go.Proofs.Ytpgkbipnkkeicaa
open Go Go.Sx Go.Gr
attribute [local irreducible] popN

set_option maxRecDepth 100000 in
theorem sigilOf_c (I : IH) (A : Option Addr) (c : Nat) (l : List Nat) (h : RdSl I 1 (.slice A l.length c) l.length (U8 l)) (hb : ∀ x ∈ l, x < 256) :
    Sx.Fn Try.prog 6 #[.slice A l.length c] I [] fun v I' rs' => ∃ m : List Nat, ∃ gb : Nat, SigOK I A c m ∧ v = .pointer (some ⟨gb, 0, none⟩) ∧ I' = I ∧ rs' = [SigR gb A c m 0] := by
  have hcap := h.cap
  have hok : SigOK I A c (l.take 400) := by
    obtain ⟨h1, A', c', h2, h3, h4, h5⟩ := h
    cases h2
    refine ⟨⟨by simp [U8], A, c, rfl, by simp; omega, h4, fun h0 => ?_⟩, fun x hx => hb x (List.mem_of_mem_take hx), by simp; omega⟩
    obtain ⟨ad, e, hc⟩ := h5 (by simp at h0; omega)
    refine ⟨ad, e, fun j u hu => hc j u ?_⟩
    simp only [U8, List.map_take, List.getElem?_take] at hu
    split at hu
    · exact hu
    · cases hu
  have hlen : (min (l.length : Int) 400) = (((l.take 400).length : Nat) : Int) := by simp; omega
  refine Fn.intro (n := 10) (args := [.slice A l.length c]) (by kernel_rfl) Try.func6 rfl Try.ntmps6 (Nat.le_of_ble_eq_true rfl) [(0, .slice A l.length c)] rfl (fun w0 => ?_)
  repeat' (first
    | (rw [hlen])
    | (refine SyC.seq ?_)
    | (refine SyC.region ?_)
    | (refine SyL.nil ?_)
    | (refine Then.norm ?_)
    | (refine SyL.light (LV.move rfl) Rq.nil (.none rfl) rfl (ltB rfl) ?_)
    | (refine SyL.light (LV.assign rfl) Rq.nil (.none rfl) rfl (ltB rfl) ?_)
    | (refine SyL.light (LV.len (by apply rfl)) Rq.nil (.none rfl) rfl (ltB rfl) ?_)
    | (refine SyL.light (LV.sliceHN (by apply rfl) (by apply rfl) (by omega)) Rq.nil (.none rfl) rfl (ltB rfl) ?_)
    | (refine SyL.light (LV.min2 rfl rfl) Rq.nil (.none rfl) rfl (ltB rfl) ?_))
  refine SyL.light (LV.build (ps := [(0, [.slice A (l.take 400).length c])]) (cs := [.slice A (l.take 400).length c, .int .i64 0]) (.cons (cs := [.slice A (l.take 400).length c]) rfl rfl rfl .nil) (by kernel_rfl) rfl (by simp)) Rq.nil (.none rfl) rfl (ltB rfl) ?_
  repeat' (first
    | (refine SyL.nil ?_)
    | (refine Then.norm ?_)
    | (refine SyC.ret ?_)
    | (refine SyL.light (LV.assign rfl) Rq.nil (.none rfl) rfl (ltB rfl) ?_)
    | (refine SyL.heavy (OpT.box rfl rfl (fun g_ hg_ => ?_)) (.none rfl) rfl (ltB rfl)))
  refine Ret.one (by simp) Try.results6 (.tmp rfl) ?_
  exact ⟨l.take 400, g_, hok, rfl, rfl, rfl⟩

/-- The block of the counter, behind so many calls. -/
def kRow (gk : Nat) (i : Nat) : Row := .blk gk 3 [.int .i64 ((i : Int) - 1)]
set_option maxRecDepth 100000 in
theorem any_c (I : IH) (gk ga : Nat) (A : Addr) (c : Nat) (o : List Nat) (i left : Nat) (r r2 r3 : Row) (rest : List Row) (hi : i < o.length) (hl : o.length ≤ 1000) (hrd : RdSl I 1 (.slice (some A) o.length c) o.length (N64 o)) :
    Sx.Fn Try.prog 15 #[.int .u32 (left : Int), .pointer (some ⟨gk, 0, none⟩), .pointer (some ⟨ga, 0, none⟩)] I (r :: r2 :: r3 :: kRow gk i :: .blk ga 27 [.slice (some A) o.length c] :: rest)
      fun v I' rs' => v = .int .i64 (o.getD i 0 : Nat) ∧ rs' = r :: r2 :: r3 :: kRow gk (i + 1) :: .blk ga 27 [.slice (some A) o.length c] :: rest := by
  have hg := N64_get hi
  unfold kRow
  refine Fn.intro (n := 11) (args := [.int .u32 (left : Int), .pointer (some ⟨gk, 0, none⟩), .pointer (some ⟨ga, 0, none⟩)]) (by kernel_rfl) Try.func15 rfl Try.ntmps15 (Nat.le_of_ble_eq_true rfl) [(0, .int .u32 (left : Int)), (1, .pointer (some ⟨gk, 0, none⟩)), (2, .pointer (some ⟨ga, 0, none⟩))] rfl (fun w0 => ?_)
  repeat' (first
    | (rw [show ((i : Int) - 1 + 1) = (i : Int) from by omega])
    | (refine SyC.seq ?_)
    | (refine SyC.region ?_)
    | (refine SyL.nil ?_)
    | (refine Then.norm ?_)
    | (refine SyC.ret ?_)
    | (refine SyL.light (LV.assign rfl) Rq.nil (.none rfl) rfl (ltB rfl) ?_)
    | (refine SyL.light (LV.arN rfl rfl rfl (by simp only [Fits]; omega)) Rq.nil (.none rfl) rfl (ltB rfl) ?_)
    | (refine SyL.light (LV.idxN (by apply rfl) (by apply rfl) (by omega)) Rq.nil (.none rfl) rfl (ltB rfl) ?_)
    | (refine SyL.light (LV.load rfl) (Rq.imm (RdSl.at hrd hg)) (.none rfl) rfl (ltB rfl) ?_)
    | (refine SyL.light (LV.load rfl) (Rq.blk (List.mem_of_getElem? (i := 4) rfl) (i := 0) rfl) (.none rfl) rfl (ltB rfl) ?_)
    | (refine SyL.light (LV.load rfl) (Rq.blkL (by decide) (List.mem_of_getElem? (i := 3) rfl) (by exact rfl)) (.none rfl) rfl (ltB rfl) ?_)
    | (refine SyL.heavy0 (OpT.store rfl rfl rfl (k := 3) rfl (by first | (simp; done) | (simp only [List.length_cons, List.length_nil]; done) | (simp only [List.length_cons, List.length_nil]; omega) | (simp; omega) | omega) ?_) (.none rfl) rfl))
  refine Ret.one (by simp) Try.results15 (.tmp rfl) ?_
  refine ⟨rfl, ?_⟩
  rw [show (((i + 1 : Nat) : Int) - 1) = (i : Int) from by omega]
  rfl
theorem Fn.perm {f : FuncId} {args : Array Value} {I : IH} {rs rs2 : List Row} {post : Value → IH → List Row → Prop} (h : Sx.Fn Try.prog f args I rs post) (hp : rs2.Perm rs) : Sx.Fn Try.prog f args I rs2 post :=
  ⟨h.call, fun w hm => by
    have hb : (blocks rs2).Perm (blocks rs) := hp.filterMap _
    have hm' : Mem I rs w := ⟨hm.imm, fun r hr => hm.rows r (hp.mem_iff.2 hr), fun g hg => hm.apart g (hb.mem_iff.2 hg), hb.nodup_iff.1 hm.nodup⟩
    refine (h.run w hm').mono fun e w' ⟨v, I', rs', h1, h2, h3, h4⟩ => ⟨v, I', rs', h1, h2, ?_, h4⟩
    exact ⟨h3.os, h3.tape, h3.output, h3.size, fun k hk hn => h3.old k hk fun hx => hn (hb.mem_iff.2 hx), fun g hg => (h3.new g hg).imp_left hb.mem_iff.2⟩⟩
theorem insAt_nodup {l : List Nat} {i x : Nat} (hn : l.Nodup) (hx : x ∉ l) : (insAt l i x).Nodup := by
  have hp : (insAt l i x).Perm (x :: l) := by
    unfold insAt
    rw [List.append_assoc, List.singleton_append]
    have := List.perm_middle (a := x) (l₁ := l.take i) (l₂ := l.drop i)
    rwa [List.take_append_drop] at this
  exact hp.nodup_iff.2 (List.nodup_cons.2 ⟨hx, hn⟩)
theorem mem_insAt {l : List Nat} {i x y : Nat} (h : y ∈ insAt l i x) : y = x ∨ y ∈ l := by
  unfold insAt at h
  rcases List.mem_append.1 h with h | h
  · rcases List.mem_append.1 h with h | h
    · exact .inr (List.mem_of_mem_take h)
    · exact .inl (by simpa using h)
  · exact .inr (List.mem_of_mem_drop h)
end Go.Proofs.Ytpgkbipnkkeicaa
