import Derived.Test.YteeienbhmkiloaaGreatDoorLX
set_option linter.unusedSimpArgs false
set_option linter.unusedVariables false
namespace Go.Lx
/-! ### Objects: data in memory that may be written. Q: what is said of one; B: its blocks -/
structure Obj' (B : Nat → Prop) (Q : (Nat → Prop) → Hp → Prop) : Prop where
  stab : ∀ {M M' W : Nat → Prop} {h h' : Hp}, Q M h → Gr M h M' h' → (∀ b, M b → M' b) → Kp W h h' → (∀ b, B b → ¬ W b) → Q M' h'
  lt : ∀ {M : Nat → Prop} {h : Hp}, Q M h → ∀ b, B b → b < h.size
  mem : ∀ {M : Nat → Prop} {h : Hp}, Q M h → ∀ b, B b → M b
theorem Obj'.ext {B : Nat → Prop} {Q : (Nat → Prop) → Hp → Prop} (o : Obj' B Q) {M : Nat → Prop} {h h' : Hp} (q : Q M h) (x : Ext h h') : Q M h' := o.stab q (.ext x) (fun _ h => h) x fun _ _ h => h
theorem Obj'.upd {B : Nat → Prop} {Q : (Nat → Prop) → Hp → Prop} (o : Obj' B Q) {M : Nat → Prop} {h h' : Hp} {b : Nat} {cs : List Value} {T : TypeId} (q : Q M h) (u : Upd h h' b cs T) (hm : M b) (hn : ¬ B b) : Q M h' :=
  o.stab q (.upd u hm) (fun _ h => h) u.kp fun c hc e => hn (e ▸ hc)
/-- M with some blocks more. -/
structure Ab (M : Nat → Prop) (h : Hp) (B : Nat → Prop) (M' : Nat → Prop) : Prop where
  sub : ∀ c, M c → M' c
  old : ∀ c, c < h.size → M' c → M c
  mem : ∀ b, B b → M' b
  only : ∀ c, M' c → M c ∨ B c
theorem ab {M B : Nat → Prop} {h : Hp} {Q : (Nat → Prop) → Hp → Prop} {h' : Hp} (q : Q (fun b => M b ∨ B b) h') (hge : ∀ b, B b → h.size ≤ b) : ∃ M', Ab M h B M' ∧ Q M' h' :=
  ⟨fun b => M b ∨ B b, ⟨fun _ h => .inl h, fun c hc hh => hh.elim id fun e => by have := hge c e; omega, fun b h => .inr h, fun _ h => h⟩, q⟩
theorem Ab.gx {M M' B : Nat → Prop} {h h' : Hp} (a : Ab M h B M') (x : Ext h h') : Gr M h M' h' := ⟨Kp.of_ext x, a.old⟩
theorem St.obj {N S M M' B : Nat → Prop} {h0 h h' : Hp} (s : St N h0 S M h) (x : Ext h h') (a : Ab M h B M') (hlt : ∀ b, B b → b < h'.size) : St N h0 S M' h' :=
  ⟨s.kp.tr x, fun c hc hm => s.inp c hc (a.old c (Nat.lt_of_lt_of_le hc s.kp.size) hm), fun c hc => a.sub c (s.sub c hc),
    fun c hc => (a.only c hc).elim (fun h => Nat.lt_of_lt_of_le (s.lt c h) x.size) (fun h => hlt c h), s.sN⟩
/-- What M' must hold of an object that a call hands out. -/
theorem Obj'.out {B : Nat → Prop} {Q : (Nat → Prop) → Hp → Prop} (o : Obj' B Q) {N S M : Nat → Prop} {h0 h : Hp} (q : Q M h) (s : St N h0 S M h) (hs : ∀ {M M' : Nat → Prop} {h : Hp}, Q M h → (∀ b, M' b → M b) → (∀ b, B b → M' b) → Q M' h) : Q (fun b => N b ∨ B b) h :=
  hs q (fun b hb => hb.elim (s.sub b) (o.mem q b)) fun b hb => .inr hb

/-- Pointers as data. -/
def rPt : Rp Nat where
  k := 1
  R := fun _ _ p cs => cs = [.pointer (some ⟨p, 0, none⟩)]
  len := fun h => by rw [h]; rfl
  one := fun h v hv => by rw [h] at hv; simp at hv; subst hv; rfl
  gr := fun h _ => h
theorem Ow.shrink {α : Type} {r : Rp α} {B : Nat} {T : TypeId} {M M' : Nat → Prop} {h : Hp} {a : Option Addr} {cap : Nat} {l : List α} (o : Ow B T r M h a cap l) (hs : ∀ b, M' b → M b) (hm : ∀ b, Ob a cap b → M' b) : Ow B T r M' h a cap l :=
  o.gr ⟨Kp.refl _ _, fun b _ h => hs b h⟩ hm fun _ _ => rfl
theorem Ow.stab {α : Type} {r : Rp α} {B : Nat} {T : TypeId} {M M' W : Nat → Prop} {h h' : Hp} {a : Option Addr} {cap : Nat} {l : List α} (o : Ow B T r M h a cap l) (g : Gr M h M' h') (hs : ∀ b, M b → M' b) (k : Kp W h h') (hW : ∀ b, Ob a cap b → ¬ W b) : Ow B T r M' h' a cap l := o.kp g hs k hW
end Go.Lx
