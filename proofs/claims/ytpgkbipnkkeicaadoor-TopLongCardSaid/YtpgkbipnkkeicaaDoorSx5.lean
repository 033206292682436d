import Derived.Test.YtpgkbipnkkeicaaDoorSx4
/-! Regions that draw their order: what only computes or reads may be carried out at any time that its edges allow; what acts comes in one order. -/
namespace Go.Sx
open Go

def preds (ops : Array Oper) (i : Nat) : List Nat :=
  match ops[i]? with
  | some o => (o.after.toList.filter (Region.binds .any)).map (·.on)
  | none => []
def dstOf (ops : Array Oper) (i : Nat) : Option Nat := (ops[i]?).bind (·.dst)
def bit (M : List Nat) (i j : Nat) : Bool := (M.getD i 0).testBit j
/-- Each operation's earlier ones, as bits. -/
def masks (ops : Array Oper) : List Nat := (List.range ops.size).foldl (fun M i => M ++ [(preds ops i).foldl (fun m p => m ||| 2 ^ p ||| M.getD p 0) 0]) []
def looks (ops : Array Oper) (o : Oper) : List Nat := o.looksAt ops
def chk1 (ops : Array Oper) (M : List Nat) : Bool := (List.range ops.size).all fun i => (preds ops i).all (fun p => p < i) &&
  (List.range ops.size).all fun j => !bit M i j || (preds ops i).any fun p => p == j || bit M p j
def chk2 (ops : Array Oper) : Bool := (List.range ops.size).all fun i => (List.range ops.size).all fun j => i == j || (dstOf ops i).isNone || dstOf ops i != dstOf ops j
def chk3 (ops : Array Oper) (M : List Nat) : Bool := (List.range ops.size).all fun i => (List.range ops.size).all fun j => i == j ||
  match ops[i]?, dstOf ops j with
  | some o, some t => !(looks ops o).contains t || bit M i j || bit M j i
  | _, _ => true
def dchk (ops : Array Oper) (M : List Nat) : Bool := chk1 ops M && chk2 ops && chk3 ops M && (List.range ops.size).all fun i => (List.range ops.size).all fun j => j < i || !bit M i j

structure Dn where
  i : Nat
  v : Value
  rq : List (Addr × Value)

section
variable {P : Program} {n : Nat} {F : Fr} {Q : Pst} {ops : Array Oper} {M : List Nat} {env0 : Env}

theorem mem_preds {i p : Nat} : p ∈ preds ops i ↔ ∃ o, ops[i]? = some o ∧ ∃ e ∈ o.after, Region.binds .any e = true ∧ e.on = p := by
  unfold preds
  cases h : ops[i]? with
  | none => simp
  | some o =>
    simp only [List.mem_map, List.mem_filter, Array.mem_toList_iff, Option.some.injEq, exists_eq_left']
    constructor
    · rintro ⟨e, ⟨h1, h2⟩, h3⟩; exact ⟨e, h1, h2, h3⟩
    · rintro ⟨e, h1, h2, h3⟩; exact ⟨e, ⟨h1, h2⟩, h3⟩

/-- listed: what has been carried out. -/
def On (listed : Array Bool) (i : Nat) : Prop := listed.getD i false = true
theorem not_on {listed : Array Bool} {i : Nat} (h : ¬ On listed i) : listed.getD i false = false := by
  unfold On at h; simpa using h
structure Good (ops : Array Oper) (M : List Nat) : Prop where
  lt : ∀ i p, p ∈ preds ops i → p < i
  close : ∀ i j, i < ops.size → j < ops.size → bit M i j = true → ∃ p ∈ preds ops i, p = j ∨ bit M p j = true
  small : ∀ i j, i < ops.size → j < ops.size → bit M i j = true → j < i
  dst : ∀ i j t, dstOf ops i = some t → dstOf ops j = some t → i = j
  cmp : ∀ i j o t, i ≠ j → ops[i]? = some o → dstOf ops j = some t → t ∈ looks ops o → bit M i j = true ∨ bit M j i = true
theorem lt_of_op {i : Nat} {o : Oper} (h : ops[i]? = some o) : i < ops.size := (Array.getElem?_eq_some_iff.1 h).1
theorem lt_of_dst {i t : Nat} (h : dstOf ops i = some t) : i < ops.size := by
  unfold dstOf at h
  cases ho : ops[i]? with
  | none => rw [ho] at h; cases h
  | some o => exact lt_of_op ho
theorem Good.of (h : dchk ops M = true) : Good ops M := by
  simp only [dchk, chk1, chk2, chk3, Bool.and_eq_true, List.all_eq_true, List.mem_range] at h
  obtain ⟨⟨⟨h1, h2⟩, h3⟩, h4⟩ := h
  refine ⟨fun i p hp => ?_, fun i j hi hj hb => ?_, fun i j hi hj hb => ?_, fun i j t hi hj => ?_, fun i j o t hij ho hd hl => ?_⟩
  · obtain ⟨o, ho, _⟩ := mem_preds.1 hp
    have := (h1 i (lt_of_op ho)).1 p hp
    simpa using this
  · have := (h1 i hi).2 j hj
    rw [hb] at this
    simp only [Bool.not_true, Bool.false_or, List.any_eq_true, Bool.or_eq_true, beq_iff_eq] at this
    exact this
  · have := h4 i hi j hj
    rw [hb] at this
    simpa using this
  · have := h2 i (lt_of_dst hi) j (lt_of_dst hj)
    simp [hi, hj] at this
    exact this
  · have := h3 i (lt_of_op ho) j (lt_of_dst hd)
    simp only [ho, hd, Bool.or_eq_true, beq_iff_eq, hij, false_or, Bool.not_eq_true', List.contains_eq_mem, decide_eq_false_iff_not] at this
    rcases this with (h | h) | h
    · exact absurd hl h
    · exact .inl h
    · exact .inr h

/-- What is closed under edges is closed under the whole order. -/
theorem Good.down (hG : Good ops M) {S : Nat → Prop} (hS : ∀ i, S i → ∀ p ∈ preds ops i, S p) {j : Nat} (hj : j < ops.size) : ∀ i, (∀ p ∈ preds ops i, S p) → i < ops.size → bit M i j = true → S j := by
  intro i
  induction i using Nat.strongRecOn with
  | _ i ih =>
    intro hp hi hb
    obtain ⟨p, hpi, h | h⟩ := hG.close i j hi hj hb
    · exact h ▸ hp p hpi
    · have hlt := hG.lt i p hpi
      exact ih p hlt (hS p (hp p hpi)) (by omega) h

/-- How a light operation was told: in an environment whose entries are the results of earlier ones, or lie outside the region. -/
structure Reg (P : Program) (ops : Array Oper) (M : List Nat) (env0 : Env) (done : List Dn) (i : Nat) (o : Oper) (env : Env) : Prop where
  ex : ∀ t v, look env t = some v → t ∈ looks ops o → (∃ e ∈ done, bit M i e.i = true ∧ dstOf ops e.i = some t ∧ e.v = v) ∨ (look env0 t = some v ∧ ∀ j, dstOf ops j = some t → j = i ∨ bit M j i = true)
/-- The virtual environment. -/
def VE (ops : Array Oper) (env0 : Env) (done : List Dn) (env : Env) : Prop :=
  ∀ t v, look env t = some v → (∃ e ∈ done, dstOf ops e.i = some t ∧ e.v = v) ∨ (look env0 t = some v ∧ ∀ e ∈ done, dstOf ops e.i ≠ some t)
def Doned (done : List Dn) (i : Nat) : Prop := ∃ e ∈ done, e.i = i
/-- A light operation's value. -/
inductive LightV (P : Program) (ops : Array Oper) (env : Env) (o : Oper) (v : Value) (rq : List (Addr × Value)) : Prop where
  | on (hw : Wn ops env o) (h : LV P env o v rq)
  | off {j t : Nat} {b : Bool} (want : Bool) (hg : o.guard = some (j, want)) (ht : (ops[j]?).bind (·.dst) = some t) (hl : look env t = some (.bool b)) (hb : b = !want) (hv : v = undef)

structure DS (P : Program) (n : Nat) (ops : Array Oper) (M : List Nat) (env0 : Env) (done : List Dn) (listed : Array Bool) (a : Act) (w : World) : Prop where
  size : listed.size = ops.size
  asize : a.tmps.size = n
  defers : a.defers = []
  sub : ∀ i, On listed i → Doned done i
  down : ∀ i, On listed i → ∀ p ∈ preds ops i, On listed p
  slot : ∀ e ∈ done, On listed e.i → ∀ t, dstOf ops e.i = some t → a.tmps[t]? = some e.v
  base : ∀ t v, look env0 t = some v → (∀ i, dstOf ops i = some t → ¬ On listed i) → a.tmps[t]? = some v
  light : ∀ e ∈ done, ¬ On listed e.i → (∀ r ∈ e.rq, w.cell? r.1 = some r.2) ∧ ∃ o env, ops[e.i]? = some o ∧ (∃ d, o.dst = some d ∧ d < n) ∧ LightV P ops env o e.v e.rq ∧ Reg P ops M env0 done e.i o env
/-- What does not turn while the operations are carried out. -/
structure VS (ops : Array Oper) (M : List Nat) (env0 : Env) (done : List Dn) (env : Env) : Prop where
  good : Good ops M
  ve : VE ops env0 done env
  down : ∀ i, Doned done i → ∀ p ∈ preds ops i, Doned done p
  uniq : ∀ e ∈ done, ∀ e' ∈ done, e.i = e'.i → e = e'
  lt : ∀ e ∈ done, e.i < ops.size

structure D (P : Program) (n : Nat) (F : Fr) (ops : Array Oper) (M : List Nat) (env0 : Env) (Q : Pst) (done : List Dn) (env : Env) (I : IH) (rs : List Row) : Prop where
  run : VS ops M env0 done env → ∀ fuel listed a w, ((List.range ops.size).filter fun i => !listed.getD i true).length ≤ fuel → DS P n ops M env0 done listed a w → Inv F I rs w → wpAny P .any ops (Lift n F Q) fuel listed a w

variable {done : List Dn} {env : Env} {I : IH} {rs : List Row} {listed : Array Bool} {a : Act} {w : World}

theorem on_set {i j : Nat} (hs : listed.size = ops.size) (hi : i < ops.size) : On (listed.setIfInBounds i true) j ↔ j = i ∨ On listed j := by
  unfold On
  by_cases h : i = j
  · subst h; simp [hs, hi]
  · simp [Array.getElem?_setIfInBounds_ne h, Ne.symm h]
theorem filter_set {i : Nat} (hs : listed.size = ops.size) (hi : i < ops.size) (hu : ¬ On listed i) :
    ((List.range ops.size).filter fun j => !(listed.setIfInBounds i true).getD j true).length + 1 ≤ ((List.range ops.size).filter fun j => !listed.getD j true).length := by
  have key : ∀ (l : List Nat), l.Nodup → i ∈ l → (∀ x ∈ l, x < ops.size) → (l.filter fun j => !(listed.setIfInBounds i true).getD j true).length + 1 = (l.filter fun j => !listed.getD j true).length := by
    intro l
    induction l with
    | nil => intro _ h; cases h
    | cons x l ih =>
      intro hn hm hlt
      rw [List.nodup_cons] at hn
      by_cases hx : x = i
      · subst hx
        have h1 : (listed.setIfInBounds x true).getD x true = true := by simp [hs, hi]
        have h2 : listed.getD x true = false := by
          have := not_on hu
          simp [hs, hi] at this ⊢
          exact this
        rw [List.filter_cons, List.filter_cons, h1, h2]
        simp only [Bool.not_true, Bool.not_false, if_true, if_false, Bool.false_eq_true, List.length_cons]
        congr 2
        apply List.filter_congr
        intro y hy
        have : x ≠ y := fun e => hn.1 (e ▸ hy)
        simp [Array.getElem?_setIfInBounds_ne this]
      · have hm' : i ∈ l := by
          rcases List.mem_cons.1 hm with h | h
          · exact absurd h.symm hx
          · exact h
        have h1 : (listed.setIfInBounds i true).getD x true = listed.getD x true := by simp [Array.getElem?_setIfInBounds_ne (Ne.symm hx)]
        rw [List.filter_cons, List.filter_cons, h1]
        have := ih hn.2 hm' (fun y hy => hlt y (.tail _ hy))
        split
        · simp only [List.length_cons]; omega
        · exact this
  have := key (List.range ops.size) List.nodup_range (by simpa using hi) (by simp)
  omega

theorem ready_spec {j : Nat} (h : j ∈ Region.ready .any ops listed) : ¬ On listed j ∧ (∃ o, ops[j]? = some o) ∧ ∀ p ∈ preds ops j, On listed p := by
  obtain ⟨h1, o, ho, h2⟩ := mem_ready.1 h
  refine ⟨fun hon => ?_, ⟨o, ho⟩, fun p hp => ?_⟩
  · unfold On at hon
    rcases Nat.lt_or_ge j listed.size with hj | hj
    · simp [hj] at h1 hon; rw [h1] at hon; cases hon
    · simp [Array.getElem?_eq_none hj] at h1
  · obtain ⟨o', ho', e, he, hb, rfl⟩ := mem_preds.1 hp
    rw [ho] at ho'; cases ho'
    exact h2 e he hb
/-- If nothing is ready, all is done. -/
theorem ready_nil (hG : Good ops M) (hs : listed.size = ops.size) (h : Region.ready .any ops listed = []) : ∀ i, i < ops.size → On listed i := by
  intro i
  induction i using Nat.strongRecOn with
  | _ i ih =>
    intro hi
    apply Classical.byContradiction
    intro hn
    have : i ∈ Region.ready .any ops listed := by
      refine mem_ready.2 ⟨?_, ops[i], by simp [hi], fun e he hb => ?_⟩
      · have := not_on hn
        simp [hs, hi] at this ⊢
        exact this
      · have hp : e.on ∈ preds ops i := mem_preds.2 ⟨ops[i], by simp [hi], e, he, hb, rfl⟩
        have hlt := hG.lt i _ hp
        exact ih e.on hlt (by omega)
    rw [h] at this
    cases this

/-- What an operation that is ready finds in a slot. -/
theorem DS.slotAt (hv : VS ops M env0 done env) (hd : DS P n ops M env0 done listed a w) {i : Nat} {o : Oper} {envR : Env} (ho : ops[i]? = some o) (hr : Reg P ops M env0 done i o envR) (hu : ¬ On listed i) (hp : ∀ p ∈ preds ops i, On listed p)
    {t : Nat} {v : Value} (hl : look envR t = some v) (ht : t ∈ looks ops o) : a.tmps[t]? = some v := by
  rcases hr.ex t v hl ht with ⟨e, he, hb, hdst, rfl⟩ | ⟨h0, hj⟩
  · exact hd.slot e he (hv.good.down hd.down (hv.lt e he) i hp (lt_of_op ho) hb) t hdst
  · refine hd.base t v h0 fun j hdj hon => ?_
    rcases hj j hdj with rfl | hb
    · exact hu hon
    · exact hu (hv.good.down hd.down (lt_of_op ho) j (hd.down j hon) (lt_of_dst hdj) hb)
theorem mem_looks_op {o : Oper} {t : Nat} (h : Operand.tmp t ∈ o.op.operands) : t ∈ looks ops o :=
  List.mem_append_left _ (List.mem_filterMap.2 ⟨.tmp t, by simpa using h, rfl⟩)
theorem mem_looks_guard {o : Oper} {j t : Nat} {want : Bool} (hg : o.guard = some (j, want)) (ht : (ops[j]?).bind (·.dst) = some t) : t ∈ looks ops o := by
  unfold looks Oper.looksAt
  exact List.mem_append_right _ (by simp [hg, ht])
theorem DS.evals (hv : VS ops M env0 done env) (hd : DS P n ops M env0 done listed a w) {i : Nat} {o : Oper} {envR : Env} (ho : ops[i]? = some o) (hr : Reg P ops M env0 done i o envR) (hu : ¬ On listed i) (hp : ∀ p ∈ preds ops i, On listed p) :
    ∀ x ∈ o.op.operands, ∀ u, opd envR x = some u → a.eval x = u := by
  intro x hx u hux
  cases x with
  | tmp t => exact eval_of_slot (hd.slotAt hv ho hr hu hp hux (mem_looks_op hx))
  | const c => simpa [opd, Act.eval] using hux
  | global g => simpa [opd, Act.eval] using hux
  | func f => simpa [opd, Act.eval] using hux

/-- The state behind an operation that was carried out. -/
theorem DS.put (hv : VS ops M env0 done env) (hd : DS P n ops M env0 done listed a w) {i d : Nat} {v : Value} {rq : List (Addr × Value)} {done' : List Dn} {w' : World} (hi : i < ops.size) (hdst : dstOf ops i = some d) (hdn : d < n)
    (hp : ∀ p ∈ preds ops i, On listed p) (hsub : ∀ e ∈ done, e ∈ done') (hin : ⟨i, v, rq⟩ ∈ done') (hnew : ∀ e ∈ done', e ∈ done ∨ e.i = i) (huniq : ∀ e ∈ done', e.i = i → e.v = v)
    (hreg : ∀ j o envR, Reg P ops M env0 done j o envR → Reg P ops M env0 done' j o envR)
    (hcells : ∀ e ∈ done, ¬ On listed e.i → e.i ≠ i → ∀ r ∈ e.rq, w.cell? r.1 = some r.2 → w'.cell? r.1 = some r.2) :
    DS P n ops M env0 done' (listed.setIfInBounds i true) (a.put (some d) v) w' := by
  have hset : ∀ j, On (listed.setIfInBounds i true) j ↔ j = i ∨ On listed j := fun j => on_set hd.size hi
  have hdlt : d < a.tmps.size := by rw [hd.asize]; exact hdn
  refine ⟨by simp [hd.size], by simp [Act.put, hd.asize], hd.defers, fun j hj => ?_, fun j hj p hpj => ?_, fun e he hon t ht => ?_, fun t u hl hno => ?_, fun e he hon => ?_⟩
  · rcases (hset j).1 hj with rfl | h
    · exact ⟨_, hin, rfl⟩
    · obtain ⟨e, he, h2⟩ := hd.sub j h
      exact ⟨e, hsub e he, h2⟩
  · rcases (hset j).1 hj with rfl | h
    · exact (hset p).2 (.inr (hp p hpj))
    · exact (hset p).2 (.inr (hd.down j h p hpj))
  · by_cases hei : e.i = i
    · rw [hei, hdst] at ht
      cases ht
      rw [huniq e he hei]
      simp [Act.put, hdlt]
    · have hne : d ≠ t := fun h => hei (hv.good.dst e.i i t ht (h ▸ hdst))
      have he' : e ∈ done := (hnew e he).resolve_right hei
      have hon' : On listed e.i := ((hset e.i).1 hon).resolve_left hei
      simp only [Act.put, Array.getElem?_setIfInBounds_ne hne]
      exact hd.slot e he' hon' t ht
  · have hne : d ≠ t := fun h => hno i (h ▸ hdst) ((hset i).2 (.inl rfl))
    simp only [Act.put, Array.getElem?_setIfInBounds_ne hne]
    exact hd.base t u hl fun j hj hon => hno j hj ((hset j).2 (.inr hon))
  · have hei : e.i ≠ i := fun h => hon ((hset e.i).2 (.inl h))
    have he' : e ∈ done := (hnew e he).resolve_right hei
    have hon' : ¬ On listed e.i := fun h => hon ((hset e.i).2 (.inr h))
    obtain ⟨h1, o, envR, h2, h3, h4, h5⟩ := hd.light e he' hon'
    exact ⟨fun r hr => hcells e he' hon' hei r hr (h1 r hr), o, envR, h2, h3, h4, hreg _ _ _ h5⟩

/-- A light operation that was told is carried out. -/
theorem DS.lightStep (hv : VS ops M env0 done env) (hd : DS P n ops M env0 done listed a w) {e : Dn} (he : e ∈ done) (hu : ¬ On listed e.i) (hp : ∀ p ∈ preds ops e.i, On listed p) {K : Act → World → Prop} {QX : Exit → Act → World → Prop}
    (hK : ∀ a', DS P n ops M env0 done (listed.setIfInBounds e.i true) a' w → K a' w) : wpOp P ops QX e.i K a w := by
  obtain ⟨h1, o, envR, ho, ⟨d, hod, hdn⟩, hl, hr⟩ := hd.light e he hu
  have hdst : dstOf ops e.i = some d := by simp [dstOf, ho, hod]
  have hput := hd.put (rq := e.rq) (done' := done) (w' := w) (v := e.v) hv (lt_of_op ho) hdst hdn hp (fun _ h => h) he (fun _ h => .inl h) (fun e' he' hei => by rw [hv.uniq e' he' e he hei]) (fun _ _ _ h => h) (fun _ _ _ _ _ _ h => h)
  unfold wpOp
  simp only [ho]
  cases hl with
  | on hw h =>
    rw [if_pos (hw.wanted fun j want hg t ht v hv' => hd.slotAt hv ho hr hu hp hv' (mem_looks_guard hg ht))]
    refine .inl ?_
    unfold Oper.wp
    rw [h.run a w (hd.evals hv ho hr hu hp) h1, Oper.upon_value, hod]
    exact hK _ hput
  | off want hg ht hlk hb hval =>
    have hs := hd.slotAt hv ho hr hu hp hlk (mem_looks_guard hg ht)
    rw [if_neg (by subst hb; simp [Region.wanted, hg, yielded, ht, hs])]
    rw [hod]
    rw [hval] at hput
    exact hK _ hput

theorem VS.reg (hv : VS ops M env0 done env) {i : Nat} {o : Oper} (ho : ops[i]? = some o) (hn : ¬ Doned done i) (hp : ∀ p ∈ preds ops i, Doned done p) : Reg P ops M env0 done i o env := by
  have hdown : ∀ i, Doned done i → ∀ p ∈ preds ops i, Doned done p := hv.down
  refine ⟨fun t v hl ht => ?_⟩
  rcases hv.ve t v hl with ⟨e, he, hd, hev⟩ | ⟨h0, hno⟩
  · have hne : i ≠ e.i := fun h => hn ⟨e, he, h.symm⟩
    rcases hv.good.cmp i e.i o t hne ho hd ht with hb | hb
    · exact .inl ⟨e, he, hb, hd, hev⟩
    · exact absurd (hv.good.down (S := Doned done) hdown (lt_of_op ho) e.i (hdown _ ⟨e, he, rfl⟩) (hv.lt e he) hb) hn
  · refine .inr ⟨h0, fun j hj => ?_⟩
    by_cases hji : j = i
    · exact .inl hji
    · rcases hv.good.cmp i j o t (Ne.symm hji) ho hj ht with hb | hb
      · obtain ⟨e, he, rfl⟩ := hv.good.down (S := Doned done) hdown (lt_of_dst hj) i hp (lt_of_op ho) hb
        exact absurd hj (hno e he)
      · exact .inr hb
theorem VS.cons (hv : VS ops M env0 done env) {i d : Nat} {v : Value} {rq : List (Addr × Value)} (hi : i < ops.size) (hd : dstOf ops i = some d) (hn : ¬ Doned done i) (hp : ∀ p ∈ preds ops i, Doned done p) :
    VS ops M env0 (⟨i, v, rq⟩ :: done) ((d, v) :: env) := by
  refine ⟨hv.good, fun t u hl => ?_, fun j hj p hpj => ?_, fun e he e' he' h => ?_, fun e he => ?_⟩
  · rw [look_cons] at hl
    by_cases ht : d = t
    · subst ht; rw [if_pos rfl] at hl; cases hl
      exact .inl ⟨_, .head _, hd, rfl⟩
    · rw [if_neg ht] at hl
      rcases hv.ve t u hl with ⟨e, he, h1, h2⟩ | ⟨h0, hno⟩
      · exact .inl ⟨e, .tail _ he, h1, h2⟩
      · refine .inr ⟨h0, fun e he => ?_⟩
        rcases List.mem_cons.1 he with rfl | he
        · show dstOf ops i ≠ some t
          rw [hd]; intro e; cases e; exact ht rfl
        · exact hno e he
  · obtain ⟨e, he, rfl⟩ := hj
    rcases List.mem_cons.1 he with rfl | he
    · obtain ⟨e', he', h'⟩ := hp p hpj
      exact ⟨e', .tail _ he', h'⟩
    · obtain ⟨e', he', h'⟩ := hv.down e.i ⟨e, he, rfl⟩ p hpj
      exact ⟨e', .tail _ he', h'⟩
  · rcases List.mem_cons.1 he with rfl | h1 <;> rcases List.mem_cons.1 he' with rfl | h2
    · rfl
    · exact absurd ⟨e', h2, h.symm⟩ hn
    · exact absurd ⟨e, h1, h⟩ hn
    · exact hv.uniq e h1 e' h2 h
  · rcases List.mem_cons.1 he with rfl | he
    · exact hi
    · exact hv.lt e he
theorem Reg.more {done' : List Dn} {i : Nat} {o : Oper} {envR : Env} (h : Reg P ops M env0 done i o envR) (hs : ∀ e ∈ done, e ∈ done') : Reg P ops M env0 done' i o envR :=
  ⟨fun t v hl ht => (h.ex t v hl ht).imp (fun ⟨e, he, r⟩ => ⟨e, hs e he, r⟩) id⟩

def doneB (done : List Dn) (i : Nat) : Bool := done.any fun e => Nat.beq e.i i
theorem doneB_iff {i : Nat} : doneB done i = true ↔ Doned done i := by
  simp only [doneB, List.any_eq_true, Doned]
  constructor
  · rintro ⟨e, he, h⟩; exact ⟨e, he, Nat.eq_of_beq_eq_true h⟩
  · rintro ⟨e, he, rfl⟩; exact ⟨e, he, by simp⟩
/-- May operation i be told next? -/
def nextB (ops : Array Oper) (done : List Dn) (i : Nat) : Bool := !doneB done i && (preds ops i).all (doneB done)
/-- Is it the only one that is not light, which may come next? -/
def soleB (ops : Array Oper) (done : List Dn) (i : Nat) : Bool := (List.range ops.size).all fun j => doneB done j || Nat.beq j i || (preds ops j).any fun p => !doneB done p

theorem D.light {i d : Nat} {o : Oper} {v : Value} {rq : List (Addr × Value)} (ho : ops[i]? = some o) (hl : LightV P ops env o v rq) (hr : Rq I rs rq) (hn : nextB ops done i = true) (hd : o.dst = some d) (hdn : d < n)
    (k : D P n F ops M env0 Q (⟨i, v, rq⟩ :: done) ((d, v) :: env) I rs) : D P n F ops M env0 Q done env I rs := .mk fun hv fuel listed a w hf hds hinv => by
  simp only [nextB, Bool.and_eq_true, Bool.not_eq_true', List.all_eq_true] at hn
  have hn1 : ¬ Doned done i := fun h => by rw [doneB_iff.2 h] at hn; exact absurd hn.1 (by simp)
  have hn2 : ∀ p ∈ preds ops i, Doned done p := fun p hp => doneB_iff.1 (hn.2 p hp)
  have hdst : dstOf ops i = some d := by simp [dstOf, ho, hd]
  refine k.run (hv.cons (lt_of_op ho) hdst hn1 hn2) fuel listed a w hf ?_ hinv
  have huni : ¬ On listed i := fun h => hn1 (hds.sub i h)
  refine ⟨hds.size, hds.asize, hds.defers, fun j hj => ?_, hds.down, fun e he hon t ht => ?_, hds.base, fun e he hon => ?_⟩
  · obtain ⟨e, he, h⟩ := hds.sub j hj
    exact ⟨e, .tail _ he, h⟩
  · rcases List.mem_cons.1 he with rfl | he
    · exact absurd hon huni
    · exact hds.slot e he hon t ht
  · rcases List.mem_cons.1 he with rfl | he
    · exact ⟨hr.run w hinv.mem, o, env, ho, ⟨d, hd, hdn⟩, hl, (hv.reg (P := P) ho hn1 hn2).more fun e he => .tail _ he⟩
    · obtain ⟨h1, o', envR, h2, h3, h4, h5⟩ := hds.light e he hon
      exact ⟨h1, o', envR, h2, h3, h4, h5.more fun e he => .tail _ he⟩

theorem Lift.of (hv : VS ops M env0 done env) (hds : DS P n ops M env0 done listed a w) (hinv : Inv F I rs w) (hall : ∀ i, i < ops.size → On listed i) (k : Q .normal env I rs) : Lift n F Q .normal a w := by
  refine ⟨env, I, rs, ⟨hds.defers, hds.asize, fun t v hl => ?_⟩, hinv, k⟩
  rcases hv.ve t v hl with ⟨e, he, hd, rfl⟩ | ⟨h0, hno⟩
  · exact hds.slot e he (hall e.i (hv.lt e he)) t hd
  · refine hds.base t v h0 fun i hi hon => ?_
    obtain ⟨e, he, rfl⟩ := hds.sub i hon
    exact hno e he hi

theorem D.fin (hall : (List.range ops.size).all (doneB done) = true) (k : Q .normal env I rs) : D P n F ops M env0 Q done env I rs := .mk fun hv fuel => by
  induction fuel with
  | zero =>
    intro listed a w hf hds hinv
    have h0 : Region.ready .any ops listed = [] := by
      unfold Region.ready
      rw [List.filter_eq_nil_iff]
      intro i hi
      have := List.filter_eq_nil_iff.1 (List.eq_nil_of_length_eq_zero (Nat.le_zero.1 hf)) i hi
      simp at this
      simp [this]
    exact ⟨h0, Lift.of hv hds hinv (ready_nil hv.good hds.size h0) k⟩
  | succ fuel ih =>
    intro listed a w hf hds hinv
    refine ⟨fun h0 => Lift.of hv hds hinv (ready_nil hv.good hds.size h0) k, fun j hj => ?_⟩
    obtain ⟨hu, ⟨o, ho⟩, hp⟩ := ready_spec hj
    have hlt := lt_of_op ho
    simp only [List.all_eq_true, List.mem_range] at hall
    obtain ⟨e, he, rfl⟩ := doneB_iff.1 (hall j hlt)
    exact hds.lightStep hv he hu hp fun a' hds' => ih _ _ _ (by have := filter_set hds.size hlt hu; omega) hds' hinv

/-- An operation that acts: it alone may come next; what was told and may still be to come does not read what it changes. -/
theorem D.heavy {i d : Nat} {o : Oper} {chg : List Nat} (ho : ops[i]? = some o) (h : OpT P F o (fun v I' rs' => D P n F ops M env0 Q (⟨i, v, []⟩ :: done) ((d, v) :: env) I' rs') chg env I rs)
    (hw : Wn ops env o) (hn : nextB ops done i = true) (hs : soleB ops done i = true) (hd : o.dst = some d) (hdn : d < n) (hchg : ∀ e ∈ done, bit M i e.i = true ∨ ∀ r ∈ e.rq, r.1.block ∉ chg) :
    D P n F ops M env0 Q done env I rs := .mk fun hv fuel => by
  simp only [nextB, Bool.and_eq_true, Bool.not_eq_true', List.all_eq_true] at hn
  have hn1 : ¬ Doned done i := fun h => by rw [doneB_iff.2 h] at hn; exact absurd hn.1 (by simp)
  have hn2 : ∀ p ∈ preds ops i, Doned done p := fun p hp => doneB_iff.1 (hn.2 p hp)
  have hdst : dstOf ops i = some d := by simp [dstOf, ho, hd]
  have hreg := hv.reg (P := P) ho hn1 hn2
  induction fuel with
  | zero =>
    intro listed a w hf hds hinv
    exfalso
    have hi := lt_of_op ho
    have huni : ¬ On listed i := fun h => hn1 (hds.sub i h)
    have := filter_set hds.size hi huni
    omega
  | succ fuel ih =>
    intro listed a w hf hds hinv
    have huni : ¬ On listed i := fun h => hn1 (hds.sub i h)
    refine ⟨fun h0 => absurd (ready_nil hv.good hds.size h0 i (lt_of_op ho)) huni, fun j hj => ?_⟩
    obtain ⟨hu, ⟨oj, hoj⟩, hp⟩ := ready_spec hj
    have hlt := lt_of_op hoj
    have hfs := filter_set hds.size hlt hu
    by_cases hjd : Doned done j
    · obtain ⟨e, he, rfl⟩ := hjd
      exact hds.lightStep hv he hu hp fun a' hds' => ih _ _ _ (by omega) hds' hinv
    · have hji : j = i := by
        simp only [soleB, List.all_eq_true, List.mem_range, Bool.or_eq_true, List.any_eq_true, Bool.not_eq_true'] at hs
        rcases hs j hlt with (h1 | h1) | ⟨p, hpj, h1⟩
        · exact absurd (doneB_iff.1 h1) hjd
        · exact Nat.eq_of_beq_eq_true h1
        · have := doneB_iff.2 (hds.sub p (hp p hpj))
          rw [h1] at this; cases this
      subst hji
      unfold wpOp
      simp only [ho]
      rw [if_pos (hw.wanted fun j' want hg t ht v hv' => hds.slotAt hv ho hreg hu hp hv' (mem_looks_guard hg ht))]
      refine .inl (Oper.wp_mono ?_ (h.run a w (hds.evals hv ho hreg hu hp) hinv _))
      rintro a' w' ⟨v, I', rs', rfl, hinv', hcells, hD⟩
      rw [hd]
      refine hD.run (hv.cons hlt hdst hn1 hn2) fuel _ _ _ (by omega) ?_ hinv'
      refine hds.put (rq := []) hv hlt hdst hdn hp (fun e he => .tail _ he) (.head _) (fun e he => ?_) (fun e he hei => ?_) (fun _ _ _ h => h.more fun e he => .tail _ he) (fun e he hon hne r hr hc => ?_)
      · rcases List.mem_cons.1 he with rfl | he
        · exact .inr rfl
        · exact .inl he
      · rcases List.mem_cons.1 he with rfl | he
        · rfl
        · exact absurd ⟨e, he, hei⟩ hn1
      · rcases hchg e he with hb | hb
        · exact absurd (hv.good.down (S := On listed) hds.down (hv.lt e he) j hp hlt hb) hon
        · exact hcells _ _ (hb r hr) hc

theorem DS.put0 (_hv : VS ops M env0 done env) (hd : DS P n ops M env0 done listed a w) {i : Nat} {v : Value} {rq : List (Addr × Value)} {done' : List Dn} {w' : World} (hi : i < ops.size) (hdst : dstOf ops i = none)
    (hp : ∀ p ∈ preds ops i, On listed p) (hsub : ∀ e ∈ done, e ∈ done') (hin : ⟨i, v, rq⟩ ∈ done') (hnew : ∀ e ∈ done', e ∈ done ∨ e.i = i)
    (hreg : ∀ j o envR, Reg P ops M env0 done j o envR → Reg P ops M env0 done' j o envR)
    (hcells : ∀ e ∈ done, ¬ On listed e.i → e.i ≠ i → ∀ r ∈ e.rq, w.cell? r.1 = some r.2 → w'.cell? r.1 = some r.2) :
    DS P n ops M env0 done' (listed.setIfInBounds i true) a w' := by
  have hset : ∀ j, On (listed.setIfInBounds i true) j ↔ j = i ∨ On listed j := fun j => on_set hd.size hi
  refine ⟨by simp [hd.size], hd.asize, hd.defers, fun j hj => ?_, fun j hj p hpj => ?_, fun e he hon t ht => ?_, fun t u hl hno => ?_, fun e he hon => ?_⟩
  · rcases (hset j).1 hj with rfl | h
    · exact ⟨_, hin, rfl⟩
    · obtain ⟨e, he, h2⟩ := hd.sub j h
      exact ⟨e, hsub e he, h2⟩
  · rcases (hset j).1 hj with rfl | h
    · exact (hset p).2 (.inr (hp p hpj))
    · exact (hset p).2 (.inr (hd.down j h p hpj))
  · by_cases hei : e.i = i
    · rw [hei, hdst] at ht; cases ht
    · exact hd.slot e ((hnew e he).resolve_right hei) (((hset e.i).1 hon).resolve_left hei) t ht
  · exact hd.base t u hl fun j hj hon => hno j hj ((hset j).2 (.inr hon))
  · have hei : e.i ≠ i := fun h => hon ((hset e.i).2 (.inl h))
    have he' : e ∈ done := (hnew e he).resolve_right hei
    have hon' : ¬ On listed e.i := fun h => hon ((hset e.i).2 (.inr h))
    obtain ⟨h1, o, envR, h2, h3, h4, h5⟩ := hd.light e he' hon'
    exact ⟨fun r hr => hcells e he' hon' hei r hr (h1 r hr), o, envR, h2, h3, h4, hreg _ _ _ h5⟩
theorem VS.cons0 (hv : VS ops M env0 done env) {i : Nat} {v : Value} {rq : List (Addr × Value)} (hi : i < ops.size) (hd : dstOf ops i = none) (hn : ¬ Doned done i) (hp : ∀ p ∈ preds ops i, Doned done p) :
    VS ops M env0 (⟨i, v, rq⟩ :: done) env := by
  refine ⟨hv.good, fun t u hl => ?_, fun j hj p hpj => ?_, fun e he e' he' h => ?_, fun e he => ?_⟩
  · rcases hv.ve t u hl with ⟨e, he, h1, h2⟩ | ⟨h0, hno⟩
    · exact .inl ⟨e, .tail _ he, h1, h2⟩
    · refine .inr ⟨h0, fun e he => ?_⟩
      rcases List.mem_cons.1 he with rfl | he
      · show dstOf ops i ≠ some t
        rw [hd]; simp
      · exact hno e he
  · obtain ⟨e, he, rfl⟩ := hj
    rcases List.mem_cons.1 he with rfl | he
    · obtain ⟨e', he', h'⟩ := hp p hpj
      exact ⟨e', .tail _ he', h'⟩
    · obtain ⟨e', he', h'⟩ := hv.down e.i ⟨e, he, rfl⟩ p hpj
      exact ⟨e', .tail _ he', h'⟩
  · rcases List.mem_cons.1 he with rfl | h1 <;> rcases List.mem_cons.1 he' with rfl | h2
    · rfl
    · exact absurd ⟨e', h2, h.symm⟩ hn
    · exact absurd ⟨e, h1, h⟩ hn
    · exact hv.uniq e h1 e' h2 h
  · rcases List.mem_cons.1 he with rfl | he
    · exact hi
    · exact hv.lt e he
/-- An operation that acts and has no result. -/
theorem D.heavy0 {i : Nat} {o : Oper} {chg : List Nat} (ho : ops[i]? = some o) (h : OpT P F o (fun _ I' rs' => D P n F ops M env0 Q (⟨i, undef, []⟩ :: done) env I' rs') chg env I rs)
    (hw : Wn ops env o) (hn : nextB ops done i = true) (hs : soleB ops done i = true) (hd : o.dst = none) (hchg : ∀ e ∈ done, bit M i e.i = true ∨ ∀ r ∈ e.rq, r.1.block ∉ chg) :
    D P n F ops M env0 Q done env I rs := .mk fun hv fuel => by
  simp only [nextB, Bool.and_eq_true, Bool.not_eq_true', List.all_eq_true] at hn
  have hn1 : ¬ Doned done i := fun h => by rw [doneB_iff.2 h] at hn; exact absurd hn.1 (by simp)
  have hn2 : ∀ p ∈ preds ops i, Doned done p := fun p hp => doneB_iff.1 (hn.2 p hp)
  have hdst : dstOf ops i = none := by simp [dstOf, ho, hd]
  have hreg := hv.reg (P := P) ho hn1 hn2
  induction fuel with
  | zero =>
    intro listed a w hf hds hinv
    exfalso
    have hi := lt_of_op ho
    have huni : ¬ On listed i := fun h => hn1 (hds.sub i h)
    have := filter_set hds.size hi huni
    omega
  | succ fuel ih =>
    intro listed a w hf hds hinv
    have huni : ¬ On listed i := fun h => hn1 (hds.sub i h)
    refine ⟨fun h0 => absurd (ready_nil hv.good hds.size h0 i (lt_of_op ho)) huni, fun j hj => ?_⟩
    obtain ⟨hu, ⟨oj, hoj⟩, hp⟩ := ready_spec hj
    have hlt := lt_of_op hoj
    have hfs := filter_set hds.size hlt hu
    by_cases hjd : Doned done j
    · obtain ⟨e, he, rfl⟩ := hjd
      exact hds.lightStep hv he hu hp fun a' hds' => ih _ _ _ (by omega) hds' hinv
    · have hji : j = i := by
        simp only [soleB, List.all_eq_true, List.mem_range, Bool.or_eq_true, List.any_eq_true, Bool.not_eq_true'] at hs
        rcases hs j hlt with (h1 | h1) | ⟨p, hpj, h1⟩
        · exact absurd (doneB_iff.1 h1) hjd
        · exact Nat.eq_of_beq_eq_true h1
        · have := doneB_iff.2 (hds.sub p (hp p hpj))
          rw [h1] at this; cases this
      subst hji
      unfold wpOp
      simp only [ho]
      rw [if_pos (hw.wanted fun j' want hg t ht v hv' => hds.slotAt hv ho hreg hu hp hv' (mem_looks_guard hg ht))]
      refine .inl (Oper.wp_mono ?_ (h.run a w (hds.evals hv ho hreg hu hp) hinv _))
      rintro a' w' ⟨v, I', rs', rfl, hinv', hcells, hD⟩
      rw [hd]
      refine hD.run (hv.cons0 hlt hdst hn1 hn2) fuel _ _ _ (by omega) ?_ hinv'
      refine hds.put0 (v := undef) (rq := []) hv hlt hdst hp (fun e he => .tail _ he) (.head _) (fun e he => ?_) (fun _ _ _ h => h.more fun e he => .tail _ he) (fun e he hon hne r hr hc => ?_)
      · rcases List.mem_cons.1 he with rfl | he
        · exact .inr rfl
        · exact .inl he
      · rcases hchg e he with hb | hb
        · exact absurd (hv.good.down (S := On listed) hds.down (hv.lt e he) j hp hlt hb) hon
        · exact hcells _ _ (hb r hr) hc

theorem chg_nil {i : Nat} : ∀ e ∈ done, bit M i e.i = true ∨ ∀ r ∈ e.rq, r.1.block ∉ ([] : List Nat) := fun _ _ => .inr fun _ _ => by simp
def chgB (M : List Nat) (done : List Dn) (i : Nat) : Bool := done.all fun e => bit M i e.i || e.rq.isEmpty
theorem chg_bits {i : Nat} {chg : List Nat} (h : chgB M done i = true) : ∀ e ∈ done, bit M i e.i = true ∨ ∀ r ∈ e.rq, r.1.block ∉ chg := fun e he => by
  simp only [chgB, List.all_eq_true, Bool.or_eq_true, List.isEmpty_iff] at h
  rcases h e he with h | h
  · exact .inl h
  · exact .inr fun r hr => by rw [h] at hr; cases hr

theorem SyC.draw {id : Nat} {l : List Oper} (hm : P.follows .mixedOrders = true) (hC : dchk l.toArray (masks l.toArray) = true) (h : D P n F l.toArray (masks l.toArray) env Q [] env I rs) :
    SyC P n F (.region id l.toArray true) Q env I rs := .mk fun a w hh hi => by
  refine wp_region_any hm (h.run ⟨Good.of hC, fun t v hl => .inr ⟨hl, (fun e he => by cases he)⟩, (fun i hi => by obtain ⟨e, he, _⟩ := hi; cases he), (fun e he => by cases he), (fun e he => by cases he)⟩ _ _ _ _ ?_ ?_ (hi.drew _))
  · exact Nat.le_trans (List.length_filter_le _ _) (by simp)
  · have hoff : ∀ i, ¬ On (Array.replicate l.toArray.size false) i := fun i h => by
      unfold On at h
      rcases Nat.lt_or_ge i l.toArray.size with h1 | h1
      · simp at h1; simp [h1] at h
      · simp at h1; simp [h1] at h
    exact ⟨(by simp), hh.size, hh.defers, (fun i hi => absurd hi (hoff i)), (fun i hi => absurd hi (hoff i)), (fun e he => by cases he), (fun t v hl _ => hh.slot t v hl), (fun e he => by cases he)⟩
/-- A guard that is not known yet: both ways. -/
theorem D.gsplit {b : Bool} (h1 : b = true → D P n F ops M env0 Q done env I rs) (h2 : b = false → D P n F ops M env0 Q done env I rs) : D P n F ops M env0 Q done env I rs := by
  cases hb : b
  · exact h2 hb
  · exact h1 hb
end
end Go.Sx
