import Derived.Test.YtpnbdejdkllflaaG4
set_option linter.unusedVariables false
namespace Go.Lx
/-- Of two slices of the call's own, over blocks of unlike kinds, one is written: the other stays. -/
theorem Ow.keepT {α β : Type} {B B' : Nat} {T T' : TypeId} {k k' : Nat} {enc : α → List Value} {enc' : β → List Value} {h h' : Hp} {a a' : Option Addr} {cap cap' : Nat} {l : List α} {l' : List β} (w' : Ow B' T' k' enc' h a' cap' l') (w : Ow B T k enc h a cap l) (x : Kp (At a) h h') (hT : T ≠ T') : Ow B' T' k' enc' h' a' cap' l' := by
  refine w'.kp x fun hn => ?_
  rcases w' with ⟨rfl, _⟩ | ⟨g, rest, rfl, _, hg, _⟩
  · exact absurd rfl hn
  · exact w.natT hg hT
theorem Ow.kpAt {α : Type} {S : Nat → Prop} {T : TypeId} {k : Nat} {enc : α → List Value} {h0 h h' : Hp} {a : Option Addr} {cap : Nat} {l : List α} (x : Kp S h0 h) (w : Ow h0.size T k enc h a cap l) (y : Kp (At a) h h') : Kp S h0 h' := x.at_ y fun hn => w.ge hn
/-- What a slice's place is behind an append: as before, or new. -/
theorem nw_ne {h : Hp} {a a' : Option Addr} {b : Nat} (j : ∀ b, b < h.size → At a' b → At a b) (hb : b < h.size) (hne : a ≠ none → bk a ≠ b) : a' ≠ none → bk a' ≠ b := fun hn e => by
  have := j b hb ⟨hn, e.symm⟩
  exact hne this.1 this.2.symm
theorem ne_at {a : Option Addr} {b : Nat} (hne : a ≠ none → bk a ≠ b) : ¬ At a b := fun hat => hne hat.1 hat.2.symm
/-- A slice that lay there ahead of all that is the call's own. -/
theorem Ow.old {α : Type} {B : Nat} {T : TypeId} {k : Nat} {enc : α → List Value} {h : Hp} {a a' : Option Addr} {cap : Nat} {l : List α} (w : Ow B T k enc h a cap l) (ho : a' ≠ none → bk a' < B) : a' ≠ none → ¬ At a (bk a') := fun hn hat => by
  have h1 := ho hn; have h2 := w.ge hat.1; have := hat.2; omega
theorem Ow.old' {α : Type} {B : Nat} {T : TypeId} {k : Nat} {enc : α → List Value} {h : Hp} {a a' : Option Addr} {cap : Nat} {l : List α} (w : Ow B T k enc h a cap l) (ho : a' ≠ none → bk a' < B) : a ≠ none → ¬ At a' (bk a) := fun hn hat => by
  have h1 := ho hat.1; have h2 := w.ge hn; have := hat.2; omega
theorem old_ne {B b : Nat} {a' : Option Addr} (ho : a' ≠ none → bk a' < B) (hb : B ≤ b) : ¬ At a' b := fun hat => by
  have h1 := ho hat.1; have := hat.2; omega
section
variable {P : Program} {E : Env} {h : Hp} {K : Value → Hp → Prop} {ty : TypeId}
theorem p_slfromn {t e : TypeId} {k n : Nat} {x lo : Operand} {a : Option Addr} {len cap : Nat} {m : Nat} {kd : IntKind} (hu : ∀ w, (underlying t).run P w = .ok (.slice e) w) (hz : ∀ w, (sizeOf e).run P w = .ok k w)
    (hx : ev E x = some (.slice a len cap)) (hlo : ev E lo = some (.int kd (m : Int))) (hm : m ≤ len) (hc : len ≤ cap) (hn : n = len - m) : SP P (.slice t x (some lo) none none) ty E h (.slice (slf a cap m k) n (cap - m)) := by
  subst hn
  exact p_slfrom hu hz hx hlo hm hc
end
end Go.Lx
