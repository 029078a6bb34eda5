import Derived.Test.YteeienbhmkiloaaGreatDoorLD
set_option linter.unusedSimpArgs false
set_option linter.unusedVariables false
namespace Go.Lx

section
variable {ro : Option Nat} {P : Program} {n : Nat} {E : Env} {h : Hp} {Q : Post} {ty : TypeId}

theorem x_loope {σ : Type} {c : Code} (I : σ → Env → Env) (E0 : Env) (J : σ → Hp → Prop) (μ : σ → Nat) (s0 : σ) (hs : Sub E (I s0 E0)) (hj : J s0 h)
    (round : ∀ s h, J s h → X ro P n c (I s E0) h (Th (fun E' h' => ∃ s', Sub E' (I s' E0) ∧ J s' h' ∧ μ s' < μ s) Q)) : X ro P n (.loop c) E h Q :=
  x_loop (fun s => I s E0) J μ s0 hs hj round

theorem x_cute {σ : Type} {c d : Code} (I : σ → Env → Env) (E0 : Env) (J : σ → Hp → Prop) (x : X ro P n c E h (Th (fun E' h' => ∃ s, Sub E' (I s E0) ∧ J s h') Q))
    (rest : ∀ s h, J s h → X ro P n d (I s E0) h Q) : X ro P n (.seq c d) E h Q := x_cut (fun s => I s E0) J x rest

theorem p_pickt {c x y : Operand} {b : Bool} {u v : Value} (hb : b = true) (hc : ev E c = some (.bool b)) (hx : ev E x = some u) (hy : ev E y = some v) : SP P (.pick c x y) ty E h u := by
  subst hb; exact p_pick hc hx hy
theorem p_pickf {c x y : Operand} {b : Bool} {u v : Value} (hb : b = false) (hc : ev E c = some (.bool b)) (hx : ev E x = some u) (hy : ev E y = some v) : SP P (.pick c x y) ty E h v := by
  subst hb; exact p_pick hc hx hy

theorem Bl.get {h : Hp} {b o : Nat} {cs : List Value} {T : TypeId} {v : Value} (l : Bl h b cs T) (hg : cs[o]? = some v) : Lx.cel h b o = some v := (l.cel o).trans hg
theorem Bl.gets {h : Hp} {b : Nat} {cs vs : List Value} {T : TypeId} (l : Bl h b cs T) (hg : cs = vs) : ∀ (j : Nat) (v : Value), vs[j]? = some v → Lx.cel h b (0 + j) = some v := by
  subst hg; intro j v hv; rw [Nat.zero_add]; exact l.get hv

theorem New.ge {S : Nat → Prop} {h0 h h' : Hp} {b : Nat} {o : Obj} (n : New h h' b o) (x : Kp S h0 h) : h0.size ≤ b := by rw [n.at_]; exact x.size
theorem New.ne {h h' : Hp} {b j : Nat} {o : Obj} {cs : List Value} {T : TypeId} (n : New h h' b o) (l : Bl h j cs T) : b ≠ j := by have := l.lt; have := n.at_; omega
theorem Kp.upd {S : Nat → Prop} {h0 h h' : Hp} {b : Nat} {cs : List Value} {T : TypeId} (x : Kp S h0 h) (u : Upd h h' b cs T) (g : h0.size ≤ b) : Kp S h0 h' :=
  x.own u.kp fun k hk e => by omega

theorem s_sto {K : Value → Hp → Prop} {t : TypeId} {x y : Operand} {b d : Nat} {v : Value} {cs : List Value} {T : TypeId} (hz : ∀ w, (sizeOf t).run P w = .ok 1 w) (hx : ev E x = some (.pointer (some ⟨b, d, none⟩))) (hy : ev E y = some v) (hv : v.oneCell' = true)
    (hb : Bl h b cs T) (hd : Nat.blt d cs.length = true) (q : ∀ h', Upd h h' b (cs.set d v) T → K undef h') : S P (.store t x y) ty E h K :=
  s_st hz hx hy hv hb (by simpa using hd) q

theorem p_min2 {x y : Operand} {k : IntKind} {m n : Int} {ts : Array TypeId} (hx : ev E x = some (.int k m)) (hy : ev E y = some (.int k n)) : SP P (.call ⟨.builtin .min, #[x, y], ts⟩) ty E h (.int k (min m n)) :=
  ⟨fun n' a w o ho ht f hw => by
    have e : (if n < m then n else m) = min m n := by split <;> omega
    simp [execOp, ho, resolve, invoke, builtin, Builtin.min_, Builtin.min2, f.ev hx, f.ev hy, e]⟩
theorem p_max2 {x y : Operand} {k : IntKind} {m n : Int} {ts : Array TypeId} (hx : ev E x = some (.int k m)) (hy : ev E y = some (.int k n)) : SP P (.call ⟨.builtin .max, #[x, y], ts⟩) ty E h (.int k (max m n)) :=
  ⟨fun n' a w o ho ht f hw => by
    have e : (if n > m then n else m) = max m n := by split <;> omega
    simp [execOp, ho, resolve, invoke, builtin, Builtin.max_, Builtin.max2, f.ev hx, f.ev hy, e]⟩
end
end Go.Lx
