import Derived.Test.YteeienbhmkiloaaGreatDoorLV
set_option linter.unusedSimpArgs false
set_option linter.unusedVariables false
namespace Go.Lx
/-- An error's number: 0 for none. -/
def Ev (e : Value) (n : Int) : Prop := (n = 0 ∧ e = .nilIface) ∨ (n ≠ 0 ∧ ∃ t x, e = .iface t x)
theorem Ev.nil : Ev .nilIface 0 := .inl ⟨rfl, rfl⟩
theorem Ev.mk {t : TypeId} {x : Value} {n : Int} (h : n ≠ 0) : Ev (.iface t x) n := .inr ⟨h, t, x, rfl⟩
section
variable {P : Program} {E : Env} {h : Hp} {ty : TypeId}
theorem run_eqif_d (d : Nat) {t : TypeId} {ms : Array (String × TypeId)} {w : World} {e : Value} {n : Int} (ev : Ev e n) (hu : (underlying t).run P w = .ok (.interface ms) w) : (Op.equalIn (d + 1) t e .nilIface).run P w = .ok (decide (n = 0)) w := by
  rcases ev with ⟨rfl, rfl⟩ | ⟨hn, t', x, rfl⟩
  · simp [Op.equalIn, hu]
  · simp [Op.equalIn, hu, hn]
theorem run_eqif {t : TypeId} {ms : Array (String × TypeId)} {w : World} {e : Value} {n : Int} (ev : Ev e n) (hu : (underlying t).run P w = .ok (.interface ms) w) : (Op.equal t e .nilIface).run P w = .ok (decide (n = 0)) w :=
  run_eqif_d 9999 ev hu
theorem p_eqlif {t t' : TypeId} {x : Operand} {ms : Array (String × TypeId)} {e : Value} {n : Int} (hu : ∀ w, (underlying t).run P w = .ok (.interface ms) w) (hx : Lx.ev E x = some e) (hv : Ev e n) : SP P (.binOp .eql t x (.const .nilIface) t') ty E h (.bool (decide (n = 0))) :=
  ⟨fun n' a w o ho ht f hw => by
    have e1 := run_eqif (P := P) hv (hu w)
    have ex : a.eval x = e := f.ev hx
    have ey : a.eval (.const .nilIface) = .nilIface := rfl
    rcases hv with ⟨rfl, rfl⟩ | ⟨hn, t'', x', rfl⟩
    · simp [execOp, ho, ex, ey, eqGuard, binOp, e1]
    · simp [execOp, ho, ex, ey, eqGuard, binOp, e1]⟩
theorem p_neqif {t t' : TypeId} {x : Operand} {ms : Array (String × TypeId)} {e : Value} {n : Int} (hu : ∀ w, (underlying t).run P w = .ok (.interface ms) w) (hx : Lx.ev E x = some e) (hv : Ev e n) : SP P (.binOp .neq t x (.const .nilIface) t') ty E h (.bool (decide (¬ n = 0))) :=
  ⟨fun n' a w o ho ht f hw => by
    have e1 := run_eqif (P := P) hv (hu w)
    have ex : a.eval x = e := f.ev hx
    have ey : a.eval (.const .nilIface) = .nilIface := rfl
    rcases hv with ⟨rfl, rfl⟩ | ⟨hn, t'', x', rfl⟩
    · simp [execOp, ho, ex, ey, eqGuard, binOp, e1]
    · simp [execOp, ho, ex, ey, eqGuard, binOp, e1]⟩
end
/-- What a call that writes objects does to memory. -/
structure Gm (S N : Nat → Prop) (h : Hp) (N' : Nat → Prop) (h' : Hp) : Prop where
  kp : Kp S h h'
  sN : ∀ b, S b → N b
  sub : ∀ b, N b → N' b
  old : ∀ b, b < h.size → N' b → N b
  lt : ∀ b, N' b → b < h'.size
theorem Gm.gr {S N N' : Nat → Prop} {h h' : Hp} (g : Gm S N h N' h') : Gr N h N' h' := ⟨g.kp.mono fun _ _ => g.sN _, g.old⟩
theorem St.gm {N S M S' M' : Nat → Prop} {h0 h h' : Hp} (s : St N h0 S M h) (g : Gm S' M h M' h') (hS : ∀ b, S' b → h0.size ≤ b ∨ S b) : St N h0 S M' h' :=
  ⟨s.kp.own g.kp fun c hc hw => by rcases hS c hw with h | h; · omega
                                   · exact h,
    fun c hc hm => s.inp c hc (g.old c (Nat.lt_of_lt_of_le hc s.kp.size) hm), fun c hc => g.sub c (s.sub c hc), g.lt, s.sN⟩
theorem St.out {N S M : Nat → Prop} {h0 h : Hp} (s : St N h0 S M h) : Gm S N h0 M h := ⟨s.kp, s.sN, s.sub, s.inp, s.lt⟩
theorem Ow.gm {α : Type} {r : Rp α} {B : Nat} {T : TypeId} {S M M' : Nat → Prop} {h h' : Hp} {a : Option Addr} {cap : Nat} {l : List α} (o : Ow B T r M h a cap l) (g : Gm S M h M' h') (hn : ∀ b, Ob a cap b → ¬ S b) : Ow B T r M' h' a cap l :=
  o.kp g.gr g.sub g.kp hn
end Go.Lx
namespace Go.Lx
/-- The error that a package-level variable holds. -/
def gerr (h : Hp) (g : Nat) : Value := (cel h g 0).getD .nilIface
/-- The package-level variables G hold errors, and nobody writes them. -/
structure Gl (G : List Nat) (N : Nat → Prop) (h : Hp) : Prop where
  is : ∀ g ∈ G, ∃ t x, cel h g 0 = some (.iface t x)
  ro : ∀ g ∈ G, ¬ N g
theorem Gl.gr {G : List Nat} {N N' : Nat → Prop} {h h' : Hp} (l : Gl G N h) (g : Gr N h N' h') : Gl G N' h' :=
  ⟨fun i hi => by obtain ⟨t, x, e⟩ := l.is i hi; exact ⟨t, x, g.kp.cel (l.ro i hi) e⟩,
   fun i hi hn => by obtain ⟨t, x, e⟩ := l.is i hi; exact l.ro i hi (g.old i (cel_lt e) hn)⟩
theorem Gl.at_ {G : List Nat} {N : Nat → Prop} {h : Hp} (l : Gl G N h) (g : Nat) (hg : g ∈ G) : cel h g 0 = some (gerr h g) := by
  obtain ⟨t, x, e⟩ := l.is g hg
  unfold gerr; rw [e]; rfl
theorem Gl.ev {G : List Nat} {N : Nat → Prop} {h : Hp} (l : Gl G N h) (g : Nat) (hg : g ∈ G) {n : Int} (hn : n ≠ 0) : Ev (gerr h g) n := by
  obtain ⟨t, x, e⟩ := l.is g hg
  unfold gerr; rw [e]; exact .mk hn
end Go.Lx
