import Derived.Test.YtpgkbipnkkeicaaDoorSx1
/-! The judgements over code and over operations; contracts. -/
namespace Go.Sx
open Go

theorem ltB {d n : Nat} (h : Nat.ble (d + 1) n = true) : d < n := Nat.le_of_ble_eq_true h
abbrev Pst := Exit → Env → IH → List Row → Prop
def Lift (n : Nat) (F : Fr) (Q : Pst) : Exit → Act → World → Prop := fun e a w => ∃ env I rs, Has n env a ∧ Inv F I rs w ∧ Q e env I rs
structure SyC (P : Program) (n : Nat) (F : Fr) (c : Code) (Q : Pst) (env : Env) (I : IH) (rs : List Row) : Prop where
  run : ∀ a w, Has n env a → Inv F I rs w → c.wp P (Lift n F Q) a w
structure SyL (P : Program) (n : Nat) (F : Fr) (ops : Array Oper) (l : List Oper) (Q : Pst) (env : Env) (I : IH) (rs : List Row) : Prop where
  run : ∀ a w, Has n env a → Inv F I rs w → wpList P ops (Lift n F Q) l a w

/-- What follows in the normal way; what follows else. -/
inductive Then (K : Env → IH → List Row → Prop) (Q : Pst) : Pst where
  | norm {env : Env} {I : IH} {rs : List Row} (h : K env I rs) : Then K Q .normal env I rs
  | exit {i : Nat} {env : Env} {I : IH} {rs : List Row} (h : Q (.exit i) env I rs) : Then K Q (.exit i) env I rs
  | goto {l : Nat} {env : Env} {I : IH} {rs : List Row} (h : Q (.goto l) env I rs) : Then K Q (.goto l) env I rs
  | ret {env : Env} {I : IH} {rs : List Row} (h : Q .ret env I rs) : Then K Q .ret env I rs
inductive InB (id : Nat) (Q : Pst) : Pst where
  | norm {env : Env} {I : IH} {rs : List Row} (h : Q .normal env I rs) : InB id Q .normal env I rs
  | hit {env : Env} {I : IH} {rs : List Row} (h : Q .normal env I rs) : InB id Q (.exit id) env I rs
  | miss {i : Nat} {env : Env} {I : IH} {rs : List Row} (hn : Nat.beq i id = false) (h : Q (.exit i) env I rs) : InB id Q (.exit i) env I rs
  | goto {l : Nat} {env : Env} {I : IH} {rs : List Row} (h : Q (.goto l) env I rs) : InB id Q (.goto l) env I rs
  | ret {env : Env} {I : IH} {rs : List Row} (h : Q .ret env I rs) : InB id Q .ret env I rs

section
variable {P : Program} {n : Nat} {F : Fr} {Q : Pst} {env env' : Env} {I : IH} {rs rs' : List Row}

theorem SyC.seq {x y : Code} (h : SyC P n F x (Then (fun env I rs => SyC P n F y Q env I rs) Q) env I rs) :
    SyC P n F (.seq x y) Q env I rs := ⟨fun a w hh hi => by
  refine wp_seq (Code.wp_mono ?_ (h.run a w hh hi))
  rintro e a w ⟨env, I, rs, h1, h2, h3⟩
  cases h3 with
  | norm h => exact h.run a w h1 h2
  | _ h => exact ⟨env, I, rs, h1, h2, h⟩⟩
theorem SyC.condT {c : Operand} {x y : Code} {b : Bool} (hc : opd env c = some (.bool b)) (hb : b = true) (h : SyC P n F x Q env I rs) :
    SyC P n F (.cond c x y) Q env I rs := ⟨fun a w hh hi => wp_cond_true (by rw [hh.eval hc, hb]) (h.run a w hh hi)⟩
theorem SyC.condF {c : Operand} {x y : Code} {b : Bool} (hc : opd env c = some (.bool b)) (hb : b = false) (h : SyC P n F y Q env I rs) :
    SyC P n F (.cond c x y) Q env I rs := ⟨fun a w hh hi => wp_cond_false (by rw [hh.eval hc, hb]) (h.run a w hh hi)⟩
theorem SyC.cond {c : Operand} {x y : Code} {b : Bool} (hc : opd env c = some (.bool b)) (ht : b = true → SyC P n F x Q env I rs) (hf : b = false → SyC P n F y Q env I rs) :
    SyC P n F (.cond c x y) Q env I rs := ⟨fun a w hh hi =>
  wp_cond_split (hh.eval hc) (fun h => (ht h).run a w hh hi) (fun h => (hf h).run a w hh hi)⟩
theorem SyC.block {id : Nat} {c : Code} (h : SyC P n F c (InB id Q) env I rs) : SyC P n F (.block id c) Q env I rs := ⟨fun a w hh hi => by
  refine wp_block (Code.wp_mono ?_ (h.run a w hh hi))
  rintro e a w ⟨env, I, rs, h1, h2, h3⟩
  cases h3 with
  | hit h => simp only [Exit.inBlock, if_true]; exact ⟨env, I, rs, h1, h2, h⟩
  | miss hn h =>
    rename_i i
    have : i ≠ id := fun e => by subst e; simp at hn
    simp only [Exit.inBlock, this, if_false]
    exact ⟨env, I, rs, h1, h2, h⟩
  | _ h => exact ⟨env, I, rs, h1, h2, h⟩⟩
theorem SyC.exit {id : Nat} (h : Q (.exit id) env I rs) : SyC P n F (.exit id) Q env I rs := ⟨fun _ _ hh hi => wp_exit ⟨_, _, _, hh, hi, h⟩⟩
theorem SyC.goto {l : Nat} (h : Q (.goto l) env I rs) : SyC P n F (.goto l) Q env I rs := ⟨fun _ _ hh hi => wp_goto ⟨_, _, _, hh, hi, h⟩⟩
theorem SyC.ret (h : Q .ret env I rs) : SyC P n F .ret Q env I rs := ⟨fun _ _ hh hi => wp_ret ⟨_, _, _, hh, hi, h⟩⟩
theorem SyC.skip (h : Q .normal env I rs) : SyC P n F .skip Q env I rs := ⟨fun _ _ hh hi => wp_skip ⟨_, _, _, hh, hi, h⟩⟩
theorem SyC.label {l : Nat} (h : Q .normal env I rs) : SyC P n F (.label l) Q env I rs := ⟨fun _ _ hh hi => wp_label ⟨_, _, _, hh, hi, h⟩⟩

theorem wp_loop_ghost {c : Code} {Q : Exit → Act → World → Prop} (J : Nat → Act → World → Prop) {m : Nat} {a : Act} {w : World} (h₀ : J m a w)
    (round : ∀ m a w, J m a w → c.wp P (Exit.then (fun a' w' => ∃ m', m' < m ∧ J m' a' w') Q) a w) : (Code.loop c).wp P Q a w := by
  intro b k cs
  have key : ∀ m a w, J m a w → ∃ e a' w', Q e a' w' ∧ Arrives P (lone (b.at a (.code c :: .inLoop c :: k)) cs w) b k cs e a' w' := by
    intro m
    induction m using Nat.strongRecOn with
    | _ m ih =>
      intro a w hJ
      obtain ⟨e, a₁, w₁, hq, harr⟩ := round m a w hJ b (.inLoop c :: k) cs
      cases e with
      | normal =>
        obtain ⟨m', hlt, hJ₁⟩ := hq
        obtain ⟨e₂, a₂, w₂, hq₂, harr₂⟩ := ih m' hlt a₁ w₁ hJ₁
        exact ⟨e₂, a₂, w₂, hq₂, .of_steps (Steps.trans harr (.one step_inLoop)) harr₂⟩
      | exit id => exact ⟨_, a₁, w₁, hq, .pass (x := .inLoop c) rfl (fun _ _ => .inl (by simp)) harr⟩
      | goto l => exact ⟨_, a₁, w₁, hq, .pass (x := .inLoop c) rfl (fun _ _ => .inl (by simp)) harr⟩
      | ret => exact ⟨_, a₁, w₁, hq, .pass (x := .inLoop c) rfl (fun _ _ => .inl (by simp)) harr⟩
      | panic ch => exact ⟨_, a₁, w₁, hq, .pass (x := .inLoop c) rfl (fun _ _ => .inl (by simp)) harr⟩
      | outgrown => exact ⟨_, a₁, w₁, hq, .pass (x := .inLoop c) rfl (fun _ _ => .inl (by simp)) harr⟩
  obtain ⟨e, a', w', hq, harr⟩ := key m a w h₀
  exact ⟨e, a', w', hq, .of_steps (.one step_loop) harr⟩

/-- A loop: J m says what holds at its head with at most m rounds to come. -/
theorem SyC.loop {body : Code} (J : Nat → Env → IH → List Row → Prop) (m : Nat) (env0 : Env) (hs : Sub env0 env) (h0 : J m env0 I rs)
    (round : ∀ m env I rs, J m env I rs → SyC P n F body (Then (fun env' I' rs' => ∃ m' env'', m' < m ∧ Sub env'' env' ∧ J m' env'' I' rs') Q) env I rs) :
    SyC P n F (.loop body) Q env I rs := ⟨fun a w hh hi => by
  refine wp_loop_ghost (fun m a w => ∃ env I rs, Has n env a ∧ Inv F I rs w ∧ J m env I rs) (m := m) ⟨env0, I, rs, hh.sub hs, hi, h0⟩ ?_
  rintro m a w ⟨env, I, rs, h1, h2, h3⟩
  refine Code.wp_mono ?_ ((round m env I rs h3).run a w h1 h2)
  rintro e a w ⟨env, I, rs, h1, h2, h3⟩
  cases h3 with
  | norm h =>
    obtain ⟨m', env'', hlt, hsub, hJ⟩ := h
    exact ⟨m', hlt, env'', I, rs, h1.sub hsub, h2, hJ⟩
  | _ h => exact ⟨env, I, rs, h1, h2, h⟩⟩

theorem SyC.sub {c : Code} (env' : Env) (hs : Sub env' env) (h : SyC P n F c Q env' I rs) : SyC P n F c Q env I rs := ⟨fun a w hh hi => h.run a w (hh.sub hs) hi⟩
theorem SyC.perm {c : Code} (rs' : List Row) (hp : rs.Perm rs') (h : SyC P n F c Q env I rs') : SyC P n F c Q env I rs := ⟨fun a w hh hi => h.run a w hh (hi.perm hp)⟩
theorem SyC.drop {c : Code} {r : Row} (h : SyC P n F c Q env I rs) : SyC P n F c Q env I (r :: rs) := ⟨fun a w hh hi => h.run a w hh hi.drop⟩
theorem SyL.sub {ops : Array Oper} {l : List Oper} (env' : Env) (hs : Sub env' env) (h : SyL P n F ops l Q env' I rs) : SyL P n F ops l Q env I rs := ⟨fun a w hh hi => h.run a w (hh.sub hs) hi⟩
theorem SyL.perm {ops : Array Oper} {l : List Oper} (rs' : List Row) (hp : rs.Perm rs') (h : SyL P n F ops l Q env I rs') : SyL P n F ops l Q env I rs := ⟨fun a w hh hi => h.run a w hh (hi.perm hp)⟩
theorem SyL.drop {ops : Array Oper} {l : List Oper} {r : Row} (h : SyL P n F ops l Q env I rs) : SyL P n F ops l Q env I (r :: rs) := ⟨fun a w hh hi => h.run a w hh hi.drop⟩
/-- A block of our own becomes part of what never changes again. -/
theorem SyC.freeze {c : Code} {g : Nat} {T : TypeId} {cs : List Value} (h : I.le (I.with g (.cells cs.toArray T (0, 0))) → SyC P n F c Q env (I.with g (.cells cs.toArray T (0, 0))) rs) :
    SyC P n F c Q env I (.blk g T cs :: rs) := ⟨fun a w hh hi =>
  have hf := hi.freeze (r := .blk g T cs) (o := .cells cs.toArray T (0, 0)) rfl (hi.mem.rows _ (.head _))
  (h hf.2).run a w hh hf.1⟩
theorem SyL.freeze {ops : Array Oper} {l : List Oper} {g : Nat} {T : TypeId} {cs : List Value} (h : I.le (I.with g (.cells cs.toArray T (0, 0))) → SyL P n F ops l Q env (I.with g (.cells cs.toArray T (0, 0))) rs) :
    SyL P n F ops l Q env I (.blk g T cs :: rs) := ⟨fun a w hh hi =>
  have hf := hi.freeze (r := .blk g T cs) (o := .cells cs.toArray T (0, 0)) rfl (hi.mem.rows _ (.head _))
  (h hf.2).run a w hh hf.1⟩

/-- What a slice of our own reads as, once it is frozen. -/
def RdSl (I : IH) (sz : Nat) (v : Value) (n : Nat) (xs : List Value) : Prop :=
  xs.length = n * sz ∧ ∃ A c, v = .slice A n c ∧ n ≤ c ∧ c ≤ maxLen ∧ (0 < n → ∃ ad, A = some ad ∧ ∀ j u, xs[j]? = some u → icell I (ad.add j) = some u)
theorem RdSl.le {I I' : IH} {sz n : Nat} {v : Value} {xs : List Value} (h : RdSl I sz v n xs) (hle : I.le I') : RdSl I' sz v n xs := by
  obtain ⟨h1, A, c, h2, h3, h4, h5⟩ := h
  exact ⟨h1, A, c, h2, h3, h4, fun hn => let ⟨ad, e, hc⟩ := h5 hn; ⟨ad, e, fun j u hu => icell_le hle (hc j u hu)⟩⟩

/-- An element, if the slice is read as cells of one each. -/
theorem RdSl.addr {I : IH} {sz n c : Nat} {A : Option Addr} {xs : List Value} (h : RdSl I sz (.slice A n c) n xs) (hn : 0 < n) : ∃ ad, A = some ad := by
  obtain ⟨_, A', c', h2, _, _, h5⟩ := h
  cases h2
  obtain ⟨ad, e, _⟩ := h5 hn
  exact ⟨ad, e⟩
theorem RdSl.at {I : IH} {sz n c : Nat} {ad : Addr} {xs : List Value} (h : RdSl I sz (.slice (some ad) n c) n xs) {j : Nat} {u : Value} (hu : xs[j]? = some u) : icell I (ad.add j) = some u := by
  obtain ⟨h1, A', c', h2, _, _, h5⟩ := h
  cases h2
  have hn : 0 < n := by
    rcases Nat.eq_zero_or_pos n with h0 | h0
    · subst h0
      have : xs = [] := List.eq_nil_of_length_eq_zero (by simpa using h1)
      subst this; simp at hu
    · exact h0
  obtain ⟨ad', e, hc⟩ := h5 hn
  cases e
  exact hc j u hu
theorem RdSl.at1 {I : IH} {n c : Nat} {ad : Addr} {xs : List Value} (h : RdSl I 1 (.slice (some ad) n c) n xs) {j : Nat} {u : Value} (hu : xs[j]? = some u) : icell I (ad.add (j * 1)) = some u := by
  rw [Nat.mul_one]; exact h.at hu
theorem RdSl.cap {I : IH} {sz n c : Nat} {A : Option Addr} {xs : List Value} (h : RdSl I sz (.slice A n c) n xs) : n ≤ c ∧ c ≤ 9223372036854775807 := by
  obtain ⟨_, A', c', h2, h3, h4, _⟩ := h
  cases h2
  exact ⟨h3, by simpa [maxLen] using h4⟩
theorem RdSl.len {I : IH} {n c : Nat} {A : Option Addr} {xs : List Value} (h : RdSl I 1 (.slice A n c) n xs) : xs.length = n := by simpa using h.1

theorem Inv.freezeOwn {F : Fr} {I : IH} {rs : List Row} {w : World} {A : Option Addr} {c : Nat} {T : TypeId} {sz k : Nat} {xs : List Value} (h : Inv F I (.own A c T sz k xs :: rs) w) :
    ∃ I', Inv F I' rs w ∧ I.le I' ∧ RdSl I' sz (.slice A k c) k xs := by
  have hown : w.ownsRow 0 T sz (.slice A k c) k xs := h.mem.rows _ (.head _)
  obtain ⟨hl, hown⟩ := hown
  rcases hown with ⟨hv, rfl⟩ | ⟨g, cap, cur, hv, _, hh, h1, h2, h3, h4⟩
  · cases hv
    exact ⟨I, h.drop, IH.le.rfl, hl, none, 0, rfl, by omega, by simp [maxLen], fun h0 => absurd h0 (by omega)⟩
  · cases hv
    obtain ⟨ha, hb⟩ := h.freeze (r := .own (some ⟨g, 0, none⟩) c T sz k xs) (g := g) rfl hh
    refine ⟨_, ha, hb, hl, some ⟨g, 0, none⟩, c, rfl, h1, h2, fun _ => ⟨_, rfl, fun j u hu => ?_⟩⟩
    have hadd : (⟨g, 0, none⟩ : Addr).add j = ⟨g, j, none⟩ := by unfold Addr.add; split <;> simp_all
    rw [hadd]
    have hj : j < xs.length := (List.getElem?_eq_some_iff.1 hu).1
    rw [hl] at hj
    simp only [icell, IH.with_at]
    rw [← h4, List.getElem?_take, if_pos hj] at hu
    simpa using hu
theorem SyC.freezeOwn {c : Code} {A : Option Addr} {cap : Nat} {T : TypeId} {sz k : Nat} {xs : List Value} (h : ∀ I', I.le I' → RdSl I' sz (.slice A k cap) k xs → SyC P n F c Q env I' rs) :
    SyC P n F c Q env I (.own A cap T sz k xs :: rs) := ⟨fun a w hh hi =>
  let ⟨I', h1, h2, h3⟩ := hi.freezeOwn; (h I' h2 h3).run a w hh h1⟩
theorem SyL.freezeOwn {ops : Array Oper} {l : List Oper} {A : Option Addr} {cap : Nat} {T : TypeId} {sz k : Nat} {xs : List Value} (h : ∀ I', I.le I' → RdSl I' sz (.slice A k cap) k xs → SyL P n F ops l Q env I' rs) :
    SyL P n F ops l Q env I (.own A cap T sz k xs :: rs) := ⟨fun a w hh hi =>
  let ⟨I', h1, h2, h3⟩ := hi.freezeOwn; (h I' h2 h3).run a w hh h1⟩
/-- Where an owned slice begins, if it has an element. -/
theorem Mem.form {I : IH} {rs : List Row} {w : World} (h : Mem I rs w) {A : Option Addr} {c : Nat} {T : TypeId} {sz k : Nat} {xs : List Value} (hm : .own A c T sz k xs ∈ rs) (hk : 0 < k) :
    ∃ g, A = some ⟨g, 0, none⟩ := by
  have hown : w.ownsRow 0 T sz (.slice A k c) k xs := h.rows _ hm
  rcases hown.2 with ⟨hv, rfl⟩ | ⟨g, cap, cur, hv, _⟩
  · omega
  · cases hv; exact ⟨g, rfl⟩
theorem SyC.form {c : Code} {A : Option Addr} {cap : Nat} {T : TypeId} {sz k : Nat} {xs : List Value} (hm : .own A cap T sz k xs ∈ rs) (hk : 0 < k) (h : ∀ g, A = some ⟨g, 0, none⟩ → SyC P n F c Q env I rs) :
    SyC P n F c Q env I rs := ⟨fun a w hh hi => let ⟨g, e⟩ := hi.mem.form hm hk; (h g e).run a w hh hi⟩
theorem SyL.form {ops : Array Oper} {l : List Oper} {A : Option Addr} {cap : Nat} {T : TypeId} {sz k : Nat} {xs : List Value} (hm : .own A cap T sz k xs ∈ rs) (hk : 0 < k) (h : ∀ g, A = some ⟨g, 0, none⟩ → SyL P n F ops l Q env I rs) :
    SyL P n F ops l Q env I rs := ⟨fun a w hh hi => let ⟨g, e⟩ := hi.mem.form hm hk; (h g e).run a w hh hi⟩
/-- How long it is. -/
theorem Mem.ownLen {I : IH} {rs : List Row} {w : World} (h : Mem I rs w) {A : Option Addr} {c : Nat} {T : TypeId} {sz k : Nat} {xs : List Value} (hm : .own A c T sz k xs ∈ rs) : xs.length = k * sz ∧ k ≤ c ∧ c ≤ maxLen := by
  have hown : w.ownsRow 0 T sz (.slice A k c) k xs := h.rows _ hm
  refine ⟨hown.1, ?_⟩
  rcases hown.2 with ⟨hv, rfl⟩ | ⟨g, cap, cur, hv, _, _, h1, h2, _⟩
  · cases hv; simp [maxLen]
  · cases hv; exact ⟨h1, h2⟩
theorem SyC.ownLen {c : Code} {A : Option Addr} {cap : Nat} {T : TypeId} {sz k : Nat} {xs : List Value} (hm : .own A cap T sz k xs ∈ rs) (h : xs.length = k * sz → k ≤ cap → cap ≤ maxLen → SyC P n F c Q env I rs) :
    SyC P n F c Q env I rs := ⟨fun a w hh hi => let ⟨h1, h2, h3⟩ := hi.mem.ownLen hm; (h h1 h2 h3).run a w hh hi⟩

/-! ### Operations -/
/-- An operation that only computes or reads: its value, and the cells that it reads. -/
structure LV (P : Program) (env : Env) (o : Oper) (v : Value) (rq : List (Addr × Value)) : Prop where
  run : ∀ (a : Act) (w : World), (∀ x ∈ o.op.operands, ∀ u, opd env x = some u → a.eval x = u) → (∀ r ∈ rq, w.cell? r.1 = some r.2) → (execOp a.eval o).run P w = .ok (.value v) w
/-- The cells are there. -/
structure Rq (I : IH) (rs : List Row) (rq : List (Addr × Value)) : Prop where
  run : ∀ w, Mem I rs w → ∀ r ∈ rq, w.cell? r.1 = some r.2
theorem Rq.nil : Rq I rs [] := ⟨fun _ _ _ h => by cases h⟩
theorem Rq.imm {a : Addr} {v : Value} (h : icell I a = some v) : Rq I rs [(a, v)] := ⟨fun _ hm r hr => by
  simp at hr; subst hr; exact hm.cell h⟩
theorem Rq.cons {a : Addr} {v : Value} {l : List (Addr × Value)} (h : Rq I rs [(a, v)]) (h' : Rq I rs l) : Rq I rs ((a, v) :: l) := ⟨fun w hm r hr => by
  rcases List.mem_cons.1 hr with rfl | hr
  · exact h.run w hm _ (by simp)
  · exact h'.run w hm r hr⟩
theorem Rq.blk {g : Nat} {T : TypeId} {cs : List Value} {i : Nat} {v : Value} (hm : .blk g T cs ∈ rs) (h : cs[i]? = some v) : Rq I rs [(⟨g, i, none⟩, v)] := ⟨fun w hmem r hr => by
  simp at hr; subst hr
  have : w.heap[g]? = some (.cells cs.toArray T (0, 0)) := hmem.rows _ hm
  simp [World.cell?, this, h]⟩

/-- The same, for a place that is written out. -/
theorem Rq.blkL {g : Nat} {T : TypeId} {cs : List Value} {i : Nat} {v : Value} (_hl : Nat.ble i 100000 = true) (hm : .blk g T cs ∈ rs) (h : cs[i]? = some v) : Rq I rs [(⟨g, i, none⟩, v)] := Rq.blk hm h
theorem Rq.own {g c k : Nat} {T : TypeId} {sz : Nat} {xs : List Value} {i : Nat} {v : Value} (hm : .own (some ⟨g, 0, none⟩) c T sz k xs ∈ rs) (h : xs[i]? = some v) : Rq I rs [(⟨g, i, none⟩, v)] := ⟨fun w hmem r hr => by
  simp at hr; subst hr
  have hown : w.ownsRow 0 T sz (.slice (some ⟨g, 0, none⟩) k c) k xs := hmem.rows _ hm
  have hi : i < xs.length := (List.getElem?_eq_some_iff.1 h).1
  rw [hown.1] at hi
  exact (hown.cellAt i hi).trans h⟩

/-- An operation that is carried out: it is not guarded, or its guard says so. -/
inductive Wn (ops : Array Oper) (env : Env) (o : Oper) : Prop where
  | none (h : o.guard = none)
  | yes {j : Nat} {b want : Bool} {t : Nat} (h : o.guard = some (j, want)) (ht : (ops[j]?).bind (·.dst) = some t) (hl : look env t = some (.bool b)) (hb : b = want)
theorem Wn.wanted {ops : Array Oper} {o : Oper} {a : Act} (h : Wn ops env o) (hs : ∀ j want, o.guard = some (j, want) → ∀ t, (ops[j]?).bind (·.dst) = some t → ∀ v, look env t = some v → a.tmps[t]? = some v) :
    Region.wanted o (yielded ops a.tmps) = true := by
  cases h with
  | none h => simp [Region.wanted, h]
  | yes h ht hl hb =>
    have := hs _ _ h _ ht _ hl
    subst hb
    simp [Region.wanted, h, yielded, ht, this]

/-- What an operation that acts does. chg: the blocks whose cells may change. -/
structure OpT (P : Program) (F : Fr) (o : Oper) (K : Value → IH → List Row → Prop) (chg : List Nat) (env : Env) (I : IH) (rs : List Row) : Prop where
  run : ∀ (a : Act) (w : World), (∀ x ∈ o.op.operands, ∀ u, opd env x = some u → a.eval x = u) → Inv F I rs w → ∀ QX : Exit → Act → World → Prop,
    o.wp P a w (fun a' w' => ∃ v I' rs', a' = a.put o.dst v ∧ Inv F I' rs' w' ∧ (∀ ad u, ad.block ∉ chg → w.cell? ad = some u → w'.cell? ad = some u) ∧ K v I' rs') QX

variable {ops : Array Oper} {rest : List Oper} {o : Oper}
theorem SyL.nil (h : Q .normal env I rs) : SyL P n F ops [] Q env I rs := ⟨fun _ _ hh hi => ⟨_, _, _, hh, hi, h⟩⟩
theorem SyL.light {d : Nat} {v : Value} {rq : List (Addr × Value)} (h : LV P env o v rq) (hr : Rq I rs rq) (hw : Wn ops env o) (hd : o.dst = some d) (hdn : d < n)
    (k : SyL P n F ops rest Q ((d, v) :: env) I rs) : SyL P n F ops (o :: rest) Q env I rs := ⟨fun a w hh hi => by
  refine wpList_step fun K hK => ?_
  rw [if_pos (hw.wanted fun _ _ _ t _ v hv => hh.slot t v hv)]
  unfold Oper.wp
  rw [h.run a w (fun x _ u hu => hh.eval hu) (hr.run w hi.mem), Oper.upon_value, hd]
  exact hK _ _ (k.run _ _ (hh.put hdn v) hi)⟩
theorem SyL.heavy {d : Nat} {chg : List Nat} (h : OpT P F o (fun v I' rs' => SyL P n F ops rest Q ((d, v) :: env) I' rs') chg env I rs)
    (hw : Wn ops env o) (hd : o.dst = some d) (hdn : d < n) : SyL P n F ops (o :: rest) Q env I rs := ⟨fun a w hh hi => by
  refine wpList_step fun K hK => ?_
  rw [if_pos (hw.wanted fun _ _ _ t _ v hv => hh.slot t v hv)]
  refine Oper.wp_mono ?_ (h.run a w (fun x _ u hu => hh.eval hu) hi _)
  rintro a' w' ⟨v, I', rs', rfl, h1, _, h2⟩
  rw [hd]
  exact hK _ _ (h2.run _ _ (hh.put hdn v) h1)⟩
theorem SyL.heavy0 {chg : List Nat} (h : OpT P F o (fun _ I' rs' => SyL P n F ops rest Q env I' rs') chg env I rs)
    (hw : Wn ops env o) (hd : o.dst = none) : SyL P n F ops (o :: rest) Q env I rs := ⟨fun a w hh hi => by
  refine wpList_step fun K hK => ?_
  rw [if_pos (hw.wanted fun _ _ _ t _ v hv => hh.slot t v hv)]
  refine Oper.wp_mono ?_ (h.run a w (fun x _ u hu => hh.eval hu) hi _)
  rintro a' w' ⟨v, I', rs', rfl, h1, _, h2⟩
  rw [hd]
  exact hK _ _ (h2.run _ _ hh h1)⟩
/-- An operation that is passed over. -/
theorem SyL.off {d : Nat} {j t : Nat} {b want : Bool} (hg : o.guard = some (j, want)) (ht : (ops[j]?).bind (·.dst) = some t) (hl : look env t = some (.bool b)) (hb : b = !want) (hd : o.dst = some d) (hdn : d < n)
    (k : SyL P n F ops rest Q ((d, undef) :: env) I rs) : SyL P n F ops (o :: rest) Q env I rs := ⟨fun a w hh hi => by
  refine wpList_step fun K hK => ?_
  have hs := hh.slot t _ hl
  rw [if_neg (by subst hb; simp [Region.wanted, hg, yielded, ht, hs])]
  rw [hd]
  exact hK _ _ (k.run _ _ (hh.put hdn undef) hi)⟩
theorem SyL.off0 {j t : Nat} {b want : Bool} (hg : o.guard = some (j, want)) (ht : (ops[j]?).bind (·.dst) = some t) (hl : look env t = some (.bool b)) (hb : b = !want) (hd : o.dst = none)
    (k : SyL P n F ops rest Q env I rs) : SyL P n F ops (o :: rest) Q env I rs := ⟨fun a w hh hi => by
  refine wpList_step fun K hK => ?_
  have hs := hh.slot t _ hl
  rw [if_neg (by subst hb; simp [Region.wanted, hg, yielded, ht, hs])]
  rw [hd]
  exact hK _ _ (k.run _ _ hh hi)⟩
theorem SyL.offT {d : Nat} {j t : Nat} {b : Bool} (hg : o.guard = some (j, true)) (ht : (ops[j]?).bind (·.dst) = some t) (hl : look env t = some (.bool b)) (hb : b = false) (hd : o.dst = some d) (hdn : d < n)
    (k : SyL P n F ops rest Q ((d, undef) :: env) I rs) : SyL P n F ops (o :: rest) Q env I rs := SyL.off hg ht hl hb hd hdn k
theorem SyL.offF {d : Nat} {j t : Nat} {b : Bool} (hg : o.guard = some (j, false)) (ht : (ops[j]?).bind (·.dst) = some t) (hl : look env t = some (.bool b)) (hb : b = true) (hd : o.dst = some d) (hdn : d < n)
    (k : SyL P n F ops rest Q ((d, undef) :: env) I rs) : SyL P n F ops (o :: rest) Q env I rs := SyL.off hg ht hl hb hd hdn k
/-- A guard that is not known yet: both ways. -/
theorem SyL.gsplit {j t : Nat} {b want : Bool} (_hg : o.guard = some (j, want)) (_ht : (ops[j]?).bind (·.dst) = some t) (_hl : look env t = some (.bool b)) (h1 : b = true → SyL P n F ops (o :: rest) Q env I rs)
    (h2 : b = false → SyL P n F ops (o :: rest) Q env I rs) : SyL P n F ops (o :: rest) Q env I rs := by
  cases hb : b
  · exact h2 hb
  · exact h1 hb

theorem SyC.region {id : Nat} {l : List Oper} (h : SyL P n F l.toArray l Q env I rs) : SyC P n F (.region id l.toArray false) Q env I rs := ⟨fun a w hh hi =>
  wp_region_lit (h.run a w hh hi)⟩

/-! ### Contracts -/
def callable (P : Program) (f : FuncId) : Bool :=
  match P.funcs[f]? with
  | some fn => fn.body.isSome && !(fn.name == "runtime.NumGoroutine")
  | none => false
structure Fn (P : Program) (f : FuncId) (args : Array Value) (I : IH) (rs : List Row) (post : Value → IH → List Row → Prop) : Prop where
  call : callable P f = true
  run : ∀ w, Mem I rs w → Calls P f args w fun e w' => ∃ v I' rs', e = .returned v ∧ Mem I' rs' w' ∧ Fram I (blocks rs) w I' rs' w' ∧ post v I' rs'
theorem Fn.mono {f : FuncId} {args : Array Value} {post post' : Value → IH → List Row → Prop} (h : Fn P f args I rs post) (hp : ∀ v I' rs', I.le I' → post v I' rs' → post' v I' rs') : Fn P f args I rs post' :=
  ⟨h.call, fun w hm => (h.run w hm).mono fun _ _ ⟨v, I', rs', h1, h2, h3, h4⟩ => ⟨v, I', rs', h1, h2, h3, hp v I' rs' (h3.le hm) h4⟩⟩

/-- The values of some operands. -/
def opds (env : Env) : List Operand → Option (List Value)
  | [] => some []
  | x :: l => match opd env x, opds env l with
    | some v, some vs => some (v :: vs)
    | _, _ => none
theorem opds_cons {x : Operand} {l : List Operand} {vs : List Value} (h : opds env (x :: l) = some vs) : ∃ u us, opd env x = some u ∧ opds env l = some us ∧ vs = u :: us := by
  unfold opds at h
  split at h
  · rename_i u us h1 h2; cases h; exact ⟨u, us, h1, h2, rfl⟩
  · cases h
theorem opds_eval {a : Act} : ∀ (l : List Operand) (vs : List Value), (∀ x ∈ l, ∀ u, opd env x = some u → a.eval x = u) → opds env l = some vs → l.map a.eval = vs := by
  intro l
  induction l with
  | nil => intro vs _ h; cases h; rfl
  | cons x l ih =>
    intro vs hh h
    obtain ⟨u, us, h1, h2, rfl⟩ := opds_cons h
    rw [List.map_cons, hh x (.head _) u h1, ih us (fun y hy => hh y (.tail _ hy)) h2]
/-- The values of a function's results. -/
inductive RV (P : Program) (env : Env) (I : IH) (rs : List Row) : ResultVar → Value → Prop where
  | tmp {t : Nat} {v : Value} (h : look env t = some v) : RV P env I rs (.tmp t) v
  | cell {t ty : Nat} {g : Nat} {T : TypeId} {cs : List Value} (h : look env t = some (.pointer (some ⟨g, 0, none⟩))) (hr : .blk g T cs ∈ rs)
      (ha : (match P.underlying ty with | some (.struct _) | some (.array _ _) => true | _ => false) = true) (hs : (P.info? ty).map (·.size) = some cs.length) : RV P env I rs (.cell t ty) (.agg cs.toArray)

theorem run_loadCellsFrom_blk (w : World) (g : Nat) (cs : List Value) (h : ∀ j u, cs[j]? = some u → w.cell? ⟨g, j, none⟩ = some u) : ∀ (k i : Nat) (acc : Array Value), i + k ≤ cs.length →
    (loadCellsFrom ⟨g, 0, none⟩ i k acc).run P w = .ok (acc ++ ((cs.drop i).take k).toArray) w := by
  intro k
  induction k with
  | zero => intro i acc _; simp [loadCellsFrom]
  | succ k ih =>
    intro i acc hl
    have hadd : (⟨g, 0, none⟩ : Addr).add i = ⟨g, i, none⟩ := by unfold Addr.add; split <;> simp_all
    have hi : i < cs.length := by omega
    have hc : w.cell? ⟨g, i, none⟩ = some cs[i] := h i _ (List.getElem?_eq_getElem hi)
    simp only [loadCellsFrom, Sem.run_bind, run_load, hadd, hc, Result.andThen_ok]
    rw [ih (i + 1) _ (by omega)]
    congr 1
    rw [List.drop_eq_getElem_cons hi, List.take_succ_cons]
    simp

theorem run_loadVar_blk (w : World) (g ty : Nat) (cs : List Value) (h : ∀ j u, cs[j]? = some u → w.cell? ⟨g, j, none⟩ = some u)
    (ha : (match P.underlying ty with | some (.struct _) | some (.array _ _) => true | _ => false) = true) (hs : (P.info? ty).map (·.size) = some cs.length) :
    (loadVar ty ⟨g, 0, none⟩).run P w = .ok (.agg cs.toArray) w := by
  have hagg : (isAgg ty).run P w = .ok true w := by
    unfold isAgg underlying
    cases hu : P.underlying ty with
    | none => rw [hu] at ha; cases ha
    | some d =>
      rw [hu] at ha
      cases d <;> simp_all
  cases hi : P.info? ty with
  | none => rw [hi] at hs; cases hs
  | some i =>
    rw [hi] at hs
    simp at hs
    have := run_loadCellsFrom_blk (P := P) w g cs h cs.length 0 #[] (by omega)
    simp only [loadVar, Sem.run_bind, hagg, Result.andThen_ok, if_true, sizeOf, typeInfo, run_program, hi, Sem.run_pure, hs, loadCells, this]
    simp

inductive RVs (P : Program) (env : Env) (I : IH) (rs : List Row) : List ResultVar → List Value → Prop where
  | nil : RVs P env I rs [] []
  | cons {r : ResultVar} {v : Value} {l : List ResultVar} {vs : List Value} (h : RV P env I rs r v) (h' : RVs P env I rs l vs) : RVs P env I rs (r :: l) (v :: vs)
def resVal (vs : List Value) : Value := if h : vs.length = 1 then vs[0]'(by omega) else .tuple vs.toArray
/-- What a function's body comes to. -/
structure Ret (P : Program) (fn : Func) (post : Value → IH → List Row → Prop) (e : Exit) (env : Env) (I : IH) (rs : List Row) : Prop where
  run : (e = .ret ∨ e = .normal) ∧ ∃ vs rs', rs'.Sublist rs ∧ RVs P env I rs fn.results.toList vs ∧ post (resVal vs) I rs'

def resOne (a : Act) : ResultVar → Sem Value
  | .tmp t => pure (a.tmps.getD t undef)
  | .cell p t => do loadVar t (← asAddr (a.tmps.getD p undef))
theorem run_mapM_results {a : Act} {w : World} (hh : Has n env a) (hi : Inv F I rs w) : ∀ (l : List ResultVar) (vs : List Value), RVs P env I rs l vs →
    (l.mapM (resOne a)).run P w = .ok vs w := by
  intro l
  induction l with
  | nil => intro vs h; cases h; rfl
  | cons r l ih =>
    intro vs h
    cases h with
    | cons h1 h2 =>
      rename_i v vs
      rw [List.mapM_cons]
      have hv : (resOne a r).run P w = .ok v w := by
        cases h1 with
        | tmp h =>
          have := hh.slot _ _ h
          simp [resOne, this]
        | cell h hr ha hs =>
          rename_i g T cs
          have hs1 := hh.slot _ _ h
          have hb : w.heap[g]? = some (.cells cs.toArray T (0, 0)) := hi.mem.rows _ hr
          have hl := run_loadVar_blk (P := P) w g _ cs (fun j u hu => by simp [World.cell?, hb, hu]) ha hs
          simp [resOne, hs1, asAddr, hl]
      simp only [Sem.run_bind, hv, Result.andThen_ok, ih _ h2, Sem.run_pure]

theorem run_results {fn : Func} {a : Act} {w : World} {vs : List Value} (hh : Has n env a) (hi : Inv F I rs w) (h : RVs P env I rs fn.results.toList vs) :
    (results fn a.tmps).run P w = .ok (resVal vs) w := by
  have := run_mapM_results hh hi _ _ h
  have h2 : results fn a.tmps = (do let vs ← fn.results.mapM (resOne a); pure (if h : vs.size = 1 then vs[0] else .tuple vs)) := by
    unfold results
    congr 1
  rw [h2, Array.mapM_eq_mapM_toList, Sem.run_bind, Sem.run_map, this]
  simp only [Result.andThen_ok, Sem.run_pure, resVal, List.size_toArray, List.getElem_toArray]

theorem Ret.zero {fn : Func} {post : Value → IH → List Row → Prop} {e : Exit} (he : e = .ret ∨ e = .normal) (hr : fn.results = #[]) (h : post (.tuple #[]) I rs) : Ret P fn post e env I rs :=
  ⟨he, [], _, List.Sublist.refl _, by rw [hr]; exact .nil, h⟩
theorem Ret.zeroP {fn : Func} {post : Value → IH → List Row → Prop} {e : Exit} (he : e = .ret ∨ e = .normal) (hr : fn.results = #[]) (h : post (.tuple #[]) I []) : Ret P fn post e env I rs :=
  ⟨he, [], _, List.nil_sublist _, by rw [hr]; exact .nil, h⟩
theorem Ret.zeroK (k : Nat) {fn : Func} {post : Value → IH → List Row → Prop} {e : Exit} (he : e = .ret ∨ e = .normal) (hr : fn.results = #[]) (h : post (.tuple #[]) I (rs.take k)) : Ret P fn post e env I rs :=
  ⟨he, [], _, List.take_sublist _ _, by rw [hr]; exact .nil, h⟩
theorem Ret.one {fn : Func} {post : Value → IH → List Row → Prop} {e : Exit} {r : ResultVar} {v : Value} (he : e = .ret ∨ e = .normal) (hr : fn.results = #[r]) (hv : RV P env I rs r v) (h : post v I rs) : Ret P fn post e env I rs :=
  ⟨he, [v], _, List.Sublist.refl _, by rw [hr]; exact (.cons hv .nil), h⟩
theorem Ret.oneP {fn : Func} {post : Value → IH → List Row → Prop} {e : Exit} {r : ResultVar} {v : Value} (he : e = .ret ∨ e = .normal) (hr : fn.results = #[r]) (hv : RV P env I rs r v) (h : post v I []) : Ret P fn post e env I rs :=
  ⟨he, [v], _, List.nil_sublist _, by rw [hr]; exact (.cons hv .nil), h⟩
theorem Ret.oneK (k : Nat) {fn : Func} {post : Value → IH → List Row → Prop} {e : Exit} {r : ResultVar} {v : Value} (he : e = .ret ∨ e = .normal) (hr : fn.results = #[r]) (hv : RV P env I rs r v) (h : post v I (rs.take k)) : Ret P fn post e env I rs :=
  ⟨he, [v], _, List.take_sublist _ _, by rw [hr]; exact (.cons hv .nil), h⟩
theorem Ret.two {fn : Func} {post : Value → IH → List Row → Prop} {e : Exit} {r : ResultVar} {v : Value} {r' : ResultVar} {v' : Value} (he : e = .ret ∨ e = .normal) (hr : fn.results = #[r, r']) (hv : RV P env I rs r v) (hv' : RV P env I rs r' v') (h : post (.tuple #[v, v']) I rs) : Ret P fn post e env I rs :=
  ⟨he, [v, v'], _, List.Sublist.refl _, by rw [hr]; exact (.cons hv (.cons hv' .nil)), h⟩
theorem Ret.twoP {fn : Func} {post : Value → IH → List Row → Prop} {e : Exit} {r : ResultVar} {v : Value} {r' : ResultVar} {v' : Value} (he : e = .ret ∨ e = .normal) (hr : fn.results = #[r, r']) (hv : RV P env I rs r v) (hv' : RV P env I rs r' v') (h : post (.tuple #[v, v']) I []) : Ret P fn post e env I rs :=
  ⟨he, [v, v'], _, List.nil_sublist _, by rw [hr]; exact (.cons hv (.cons hv' .nil)), h⟩
theorem Ret.twoK (k : Nat) {fn : Func} {post : Value → IH → List Row → Prop} {e : Exit} {r : ResultVar} {v : Value} {r' : ResultVar} {v' : Value} (he : e = .ret ∨ e = .normal) (hr : fn.results = #[r, r']) (hv : RV P env I rs r v) (hv' : RV P env I rs r' v') (h : post (.tuple #[v, v']) I (rs.take k)) : Ret P fn post e env I rs :=
  ⟨he, [v, v'], _, List.take_sublist _ _, by rw [hr]; exact (.cons hv (.cons hv' .nil)), h⟩
theorem Ret.three {fn : Func} {post : Value → IH → List Row → Prop} {e : Exit} {r : ResultVar} {v : Value} {r' : ResultVar} {v' : Value} {r'' : ResultVar} {v'' : Value} (he : e = .ret ∨ e = .normal) (hr : fn.results = #[r, r', r'']) (hv : RV P env I rs r v) (hv' : RV P env I rs r' v') (hv'' : RV P env I rs r'' v'') (h : post (.tuple #[v, v', v'']) I rs) : Ret P fn post e env I rs :=
  ⟨he, [v, v', v''], _, List.Sublist.refl _, by rw [hr]; exact (.cons hv (.cons hv' (.cons hv'' .nil))), h⟩
theorem Ret.threeP {fn : Func} {post : Value → IH → List Row → Prop} {e : Exit} {r : ResultVar} {v : Value} {r' : ResultVar} {v' : Value} {r'' : ResultVar} {v'' : Value} (he : e = .ret ∨ e = .normal) (hr : fn.results = #[r, r', r'']) (hv : RV P env I rs r v) (hv' : RV P env I rs r' v') (hv'' : RV P env I rs r'' v'') (h : post (.tuple #[v, v', v'']) I []) : Ret P fn post e env I rs :=
  ⟨he, [v, v', v''], _, List.nil_sublist _, by rw [hr]; exact (.cons hv (.cons hv' (.cons hv'' .nil))), h⟩
theorem Ret.threeK (k : Nat) {fn : Func} {post : Value → IH → List Row → Prop} {e : Exit} {r : ResultVar} {v : Value} {r' : ResultVar} {v' : Value} {r'' : ResultVar} {v'' : Value} (he : e = .ret ∨ e = .normal) (hr : fn.results = #[r, r', r'']) (hv : RV P env I rs r v) (hv' : RV P env I rs r' v') (hv'' : RV P env I rs r'' v'') (h : post (.tuple #[v, v', v'']) I (rs.take k)) : Ret P fn post e env I rs :=
  ⟨he, [v, v', v''], _, List.take_sublist _ _, by rw [hr]; exact (.cons hv (.cons hv' (.cons hv'' .nil))), h⟩

def argEnv : Nat → List Value → Env
  | _, [] => []
  | k, v :: r => (k, v) :: argEnv (k + 1) r
theorem look_argEnv (args : List Value) : ∀ k t v, look (argEnv k args) t = some v → k ≤ t ∧ args[t - k]? = some v := by
  induction args with
  | nil => intro k t v h; simp [argEnv, look] at h
  | cons x xs ih =>
    intro k t v h
    simp only [argEnv, look_cons] at h
    by_cases e : k = t
    · subst e; rw [if_pos rfl] at h; simpa using h
    · rw [if_neg e] at h
      obtain ⟨h1, h2⟩ := ih (k + 1) t v h
      refine ⟨by omega, ?_⟩
      rw [show t - k = (t - (k + 1)) + 1 from by omega]
      simpa using h2

theorem Fn.intro {f : FuncId} {fn : Func} {c : Code} {args : List Value} {post : Value → IH → List Row → Prop} (hc : callable P f = true) (hf : P.funcs[f]? = some fn) (hb : fn.body = some c)
    (hn : fn.ntmps = n) (hle : args.length ≤ n) (env0 : Env) (he : argEnv 0 args = env0) (h : ∀ w0, SyC P n ⟨w0, I, blocks rs⟩ c (Ret P fn post) env0 I rs) : Fn P f args.toArray I rs post := by
  subst he
  refine ⟨hc, fun w hm => calls_of_wp hf hb ?_⟩
  have hh : Has n (argEnv 0 args) { tmps := args.toArray ++ Array.replicate (fn.ntmps - args.toArray.size) undef, defers := [] } := by
    refine ⟨rfl, by simp [hn]; omega, fun t v hv => ?_⟩
    have := (look_argEnv args 0 t v hv).2
    simp only [Nat.sub_zero] at this
    have hlt : t < args.length := (List.getElem?_eq_some_iff.1 this).1
    rw [Array.getElem?_append_left (by simpa using hlt)]
    simpa using this
  refine Code.wp_mono ?_ ((h w).run _ w hh ⟨hm, Fram.refl⟩)
  rintro e a' w' ⟨env, I', rs1, h1, h2, ⟨h3, vs, rs', hsub, h4, h5⟩⟩
  have hr := run_results (P := P) h1 h2 h4
  have h2' := h2.sublist hsub
  rcases h3 with rfl | rfl <;> exact ⟨h1.defers, _, hr, _, I', rs', rfl, h2'.mem, h2'.fram, h5⟩

end
end Go.Sx
