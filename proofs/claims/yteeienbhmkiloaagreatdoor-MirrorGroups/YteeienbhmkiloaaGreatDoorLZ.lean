import Derived.Test.YteeienbhmkiloaaGreatDoorLY
set_option linter.unusedSimpArgs false
set_option linter.unusedVariables false
namespace Go.Lx
/-- A kind of object: data in memory that may be written. At R x M h: it lies at h as x, and R are its blocks. -/
structure Oj (α : Type) where
  At : (Nat → Prop) → α → (Nat → Prop) → Hp → Prop
  stab : ∀ {R M M' W : Nat → Prop} {x : α} {h h' : Hp}, At R x M h → Gr M h M' h' → (∀ b, M b → M' b) → Kp W h h' → (∀ b, R b → ¬ W b) → At R x M' h'
  lt : ∀ {R M : Nat → Prop} {x : α} {h : Hp}, At R x M h → ∀ b, R b → b < h.size
  mem : ∀ {R M : Nat → Prop} {x : α} {h : Hp}, At R x M h → ∀ b, R b → M b
  sh : ∀ {R M M' : Nat → Prop} {x : α} {h : Hp}, At R x M h → (∀ b, M' b → M b) → (∀ b, R b → M' b) → At R x M' h
section
variable {α : Type} {o : Oj α} {R M M' W : Nat → Prop} {x : α} {h h' : Hp}
theorem Oj.ext (q : o.At R x M h) (e : Ext h h') : o.At R x M h' := o.stab q (.ext e) (fun _ h => h) e fun _ _ h => h
theorem Oj.gx (q : o.At R x M h) (g : Gr M h M' h') (s : ∀ b, M b → M' b) (e : Ext h h') : o.At R x M' h' := o.stab q g s e fun _ _ h => h
theorem Oj.upd {b : Nat} {cs : List Value} {T : TypeId} (q : o.At R x M h) (u : Upd h h' b cs T) (hm : M b) (hn : ¬ R b) : o.At R x M h' :=
  o.stab q (.upd u hm) (fun _ h => h) u.kp fun c hc e => hn (e ▸ hc)
theorem Oj.fz {a : Option Addr} {cap : Nat} (q : o.At R x M h) (f : Fz M a cap M') (hn : ∀ b, R b → ¬ Ob a cap b) : o.At R x M' h :=
  o.sh q f.sub fun b hb => f.keep b (o.mem q b hb) (hn b hb)
theorem Oj.gm {S : Nat → Prop} (q : o.At R x M h) (g : Gm S M h M' h') (hn : ∀ b, R b → ¬ S b) : o.At R x M' h' := o.stab q g.gr g.sub g.kp hn
/-- What a call hands out. -/
theorem Oj.ret {N S : Nat → Prop} {h0 : Hp} (q : o.At R x M h) (s : St N h0 S M h) : o.At R x (fun b => N b ∨ R b) h :=
  o.sh q (fun b hb => hb.elim (s.sub b) (o.mem q b)) fun b hb => .inr hb
/-- An object that a call has made. -/
theorem St.ob {N S : Nat → Prop} {h0 : Hp} (s : St N h0 S M h) (e : Ext h h') (q : o.At R x (fun b => M b ∨ R b) h') (hge : ∀ b, R b → h.size ≤ b) :
    ∃ M', Ab M h R M' ∧ o.At R x M' h' ∧ St N h0 S M' h' := by
  obtain ⟨M', a, q'⟩ := ab q hge
  exact ⟨M', a, q', s.obj e a (o.lt q')⟩
end
theorem Gm.ext {S N : Nat → Prop} {h h' : Hp} (e : Ext h h') (hS : ∀ b, S b → N b) (hN : ∀ b, N b → b < h.size) : Gm S N h N h' :=
  ⟨e.mono fun _ _ => False.elim, hS, fun _ h => h, fun _ _ h => h, fun b hb => Nat.lt_of_lt_of_le (hN b hb) e.size⟩
theorem Gm.mono {S S' N N' : Nat → Prop} {h h' : Hp} (g : Gm S N h N' h') (hS : ∀ b, S b → S' b) (hN : ∀ b, S' b → N b) : Gm S' N h N' h' :=
  ⟨g.kp.mono fun _ _ h => hS _ h, hN, g.sub, g.old, g.lt⟩

/-- A slice's three numbers as data. -/
structure Ph where
  a : Option Addr
  n : Nat
  c : Nat
  deriving Inhabited
def rPh : Rp Ph where
  k := 1
  R := fun _ _ p cs => cs = [.slice p.a p.n p.c]
  len := fun h => by rw [h]; rfl
  one := fun h v hv => by rw [h] at hv; simp at hv; subst hv; rfl
  gr := fun h _ => h

theorem od_pw {n : Nat} {R R' : Nat → Prop} (h : ∀ b, b < n → R' b → R b) : ∀ b, R' b → n ≤ b ∨ R b := fun b hb => if hl : b < n then .inr (h b hl hb) else .inl (by omega)
theorem nob {a : Option Addr} (b : Nat) : ¬ Ob a 0 b := fun h => by have := h.1; omega
section
variable {α : Type} {r : Rp α} {B : Nat} {T : TypeId} {M : Nat → Prop} {h h' : Hp} {a : Option Addr} {cap : Nat} {l : List α}
theorem Ow.obi (o : Ow B T r M h a cap l) {i : Int} (hi : 0 ≤ i ∧ i < l.length) : Ob a cap (bk a) := by
  rcases o with ⟨rfl, rfl⟩ | ⟨b, cs, rfl, hB, hb, hc, hl, h1, h2, h3, h4⟩
  · simp at hi; omega
  · exact ⟨hc, rfl⟩
theorem Sl.roi (o : Sl r M h a cap l) {i : Int} (hi : 0 ≤ i ∧ i < l.length) : ¬ M (bk a) := o.ro (by intro e; rw [e] at hi; simp at hi; omega)
/-- An element of a slice that may be written. -/
theorem Ow.put (o : Ow B T r M h a cap l) (i : Int) (hi : 0 ≤ i ∧ i < l.length) (hk : r.k = 1) :
    ∃ cs, Ob a cap (bk a) ∧ Bl h (bk a) cs T ∧ of a + i.toNat * r.k < cs.length ∧ ∀ (v : Value) (x : α) (h' : Hp), Upd h h' (bk a) (cs.set (of a + i.toNat * r.k) v) T → r.R M h x [v] → Ow B T r M h' a cap (l.set i.toNat x) := by
  rcases o with ⟨rfl, rfl⟩ | ⟨b, cs, rfl, hB, hb, hc, hl, h1, h2, h3, h4⟩
  · simp at hi; omega
  · have e0 : of (some ⟨b, 0, none⟩) + i.toNat * r.k = i.toNat := by rw [hk, Nat.mul_one]; exact Nat.zero_add _
    rw [e0]
    refine ⟨cs, ⟨hc, rfl⟩, hl, by rw [h1, hk]; omega, fun v x h' u hx => .inr ⟨b, cs.set i.toNat v, rfl, hB, hb, hc, u.bl, by simpa using h1, by simpa using h2, by simpa using h3, fun j y hj => ?_⟩⟩
    rw [List.getElem?_set] at hj
    split at hj
    · rename_i e
      split at hj
      · obtain rfl := Option.some.inj hj
        refine ⟨[v], r.gr hx (.upd u hb), fun q w hw => ?_⟩
        have hq : q = 0 := by cases q with | zero => rfl | succ q => simp at hw
        subst hq
        rw [hk, Nat.mul_one, Nat.add_zero, ← e, List.getElem?_set_self (by rw [h1, hk]; omega)]
        simpa using hw
      · cases hj
    · rename_i e
      obtain ⟨xs, e1, e2⟩ := h4 j y hj
      refine ⟨xs, r.gr e1 (.upd u hb), fun q w hw => ?_⟩
      have hxs := r.len e1
      have hq : q = 0 := by
        have := (List.getElem?_eq_some_iff.1 hw).1
        omega
      subst hq
      have := e2 0 w hw
      rw [hk, Nat.mul_one, Nat.add_zero] at this ⊢
      rw [List.getElem?_set_ne e]
      exact this
/-- Data in which no slice is. -/
def Fl {α : Type} (r : Rp α) : Prop := ∀ {M M' : Nat → Prop} {h h' : Hp} {x : α} {cs : List Value}, r.R M h x cs → r.R M' h' x cs
theorem Ow.fl (hr : Fl r) {M' : Nat → Prop} (o : Ow B T r M' h a cap l) (hm : ∀ b, Ob a cap b → M b) : Ow B T r M h a cap l := by
  rcases o with h | ⟨b, cs, rfl, hB, hb, hc, hl, h1, h2, h3, h4⟩
  · exact .inl h
  · exact .inr ⟨b, cs, rfl, hB, hm b ⟨hc, rfl⟩, hc, hl, h1, h2, h3, fun i x hx => by obtain ⟨xs, e1, e2⟩ := h4 i x hx; exact ⟨xs, hr e1, e2⟩⟩
/-- A slice that may be written, read by a call that does not. -/
theorem Ow.tf (o : Ow B T r M h a cap l) : Sl r (fun b => M b ∧ ¬ Ob a cap b) h a cap l := o.sl (fun _ h => h.1) fun _ hb h => h.2 hb
theorem Sl.tf {W : Nat → Prop} (o : Sl r M h a cap l) : Sl r (fun b => M b ∧ ¬ W b) h a cap l := o.mono fun _ h => h.1
theorem Oj.tf {α : Type} {o : Oj α} {R W : Nat → Prop} {x : α} (q : o.At R x M h) (hn : ∀ b, R b → ¬ W b) : o.At R x (fun b => M b ∧ ¬ W b) h := o.sh q (fun _ h => h.1) fun b hb => ⟨o.mem q b hb, hn b hb⟩
theorem Upd.gm {cs : List Value} {N S : Nat → Prop} {h0 : Hp} (u : Upd h h' (bk a) cs T) (e : Ob a cap (bk a)) (hm : ∀ b, Ob a cap b → M b) (s : St N h0 S M h) : Gm (Ob a cap) M h M h' :=
  ⟨u.kp.mono fun _ _ q => q ▸ e, hm, fun _ h => h, fun _ _ h => h, fun b hb => by rw [u.size]; exact s.lt b hb⟩
end
end Go.Lx
