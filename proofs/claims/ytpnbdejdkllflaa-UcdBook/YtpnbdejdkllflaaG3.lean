import Derived.Test.YtpnbdejdkllflaaG2
set_option linter.unusedVariables false
namespace Go.Lx

theorem fl_split {α : Type} (enc : α → List Value) (l : List α) (i : Nat) (hi : i < l.length) : fl enc l = fl enc (l.take i) ++ (enc l[i] ++ fl enc (l.drop (i + 1))) := by
  have e : l = l.take i ++ l[i] :: l.drop (i + 1) := by simp
  have e2 : fl enc l = fl enc (l.take i ++ l[i] :: l.drop (i + 1)) := by rw [← e]
  rw [e2, fl_append]
  rfl

theorem fl_set {α : Type} {enc : α → List Value} {k : Nat} (hk : ∀ x, (enc x).length = k) (l : List α) (i : Nat) (hi : i < l.length) (j : Nat) (hj : j < k) (v : Value) (x' : α) (hx : enc x' = (enc l[i]).set j v) :
    (fl enc l).set (i * k + j) v = fl enc (l.set i x') := by
  have h1 := fl_split enc l i hi
  have hi' : i < (l.set i x').length := by simpa using hi
  have h2 := fl_split enc (l.set i x') i hi'
  have e1 : (l.set i x').take i = l.take i := by rw [List.take_set]; exact List.set_eq_of_length_le (by rw [List.length_take]; omega)
  have e2 : (l.set i x').drop (i + 1) = l.drop (i + 1) := by rw [List.drop_set, if_pos (by omega)]
  have e3 : (l.set i x')[i] = x' := by simp
  rw [e1, e2, e3, hx] at h2
  rw [h1, h2]
  have hl : (fl enc (l.take i)).length = i * k := by rw [fl_length hk, List.length_take, Nat.min_eq_left (by omega)]
  rw [List.set_append_right _ _ (by omega), hl]
  rw [List.set_append_left _ _ (by rw [hk]; omega)]
  congr 3
  omega

section
variable {P : Program} {E : Env} {h : Hp} {K : Value → Hp → Prop} {ty : TypeId}
/-- A value of one cell stored into an element of a slice of the call's own. -/
theorem s_stow {α : Type} {B : Nat} {T : TypeId} {k : Nat} {enc : α → List Value} {t : TypeId} {x y : Operand} {a : Option Addr} {cap : Nat} {l : List α} {v : Value} {i j : Nat} (hz : ∀ w, (sizeOf t).run P w = .ok 1 w)
    (hx : ev E x = some (.pointer (some ⟨bk a, of a + i * k + j, none⟩))) (hy : ev E y = some v) (hv : v.oneCell' = true) (ow : Ow B T k enc h a cap l) (hi : i < l.length) (hj : j < k) (x' : α) (hx' : enc x' = (enc l[i]).set j v) (hk : ∀ x, (enc x).length = k)
    (q : ∀ h', Ow B T k enc h' a cap (l.set i x') → Kp (At a) h h' → K undef h') : S P (.store t x y) ty E h K := by
  rcases ow with ⟨rfl, _, rfl⟩ | ⟨b, rest, rfl, hB, hb, h1, h2⟩
  · simp at hi
  · have hlen : i * k + j < (fl enc l).length := by
      rw [fl_length hk]
      have : (i + 1) * k ≤ l.length * k := Nat.mul_le_mul_right _ hi
      rw [Nat.add_mul] at this; omega
    refine s_st (T := T) (cs := fl enc l ++ rest) (d := i * k + j) hz ?_ hy hv hb (by rw [List.length_append]; omega) fun h' u => q h' ?_ ?_
    · rw [hx]; show some (Value.pointer (some ⟨b, 0 + i * k + j, none⟩)) = _; rw [Nat.zero_add]
    · have hu := u.bl
      rw [List.set_append_left _ _ hlen, fl_set hk l i hi j hj v x' hx'] at hu
      exact .inr ⟨b, rest, rfl, hB, hu, by simpa using h1, by rw [fl_length hk] at h2 ⊢; simpa using h2⟩
    · exact u.kp.mono fun k' _ e => ⟨by simp, e⟩

/-- A part of a slice, from lo on. -/
theorem p_slfrom {t e : TypeId} {k : Nat} {x lo : Operand} {a : Option Addr} {len cap : Nat} {m : Nat} {kd : IntKind} (hu : ∀ w, (underlying t).run P w = .ok (.slice e) w) (hz : ∀ w, (sizeOf e).run P w = .ok k w)
    (hx : ev E x = some (.slice a len cap)) (hlo : ev E lo = some (.int kd (m : Int))) (hm : m ≤ len) (hc : len ≤ cap) : SP P (.slice t x (some lo) none none) ty E h (.slice (if cap = m then a else a.map (·.add (m * k))) (len - m) (cap - m)) :=
  ⟨fun n a' w o ho ht f hw => by
    simp [execOp, ho, f.ev hx, f.ev hlo, Instr.sliceAt, hu, Instr.slice, Instr.sliceBounds, Instr.sliceBound, asIntOf, hm, hz]⟩
/-- A part of a slice, up to hi. -/
theorem p_slto {t e : TypeId} {k : Nat} {x hi : Operand} {a : Option Addr} {len cap : Nat} {m : Nat} {kd : IntKind} (hu : ∀ w, (underlying t).run P w = .ok (.slice e) w) (hz : ∀ w, (sizeOf e).run P w = .ok k w)
    (hx : ev E x = some (.slice a len cap)) (hlo : ev E hi = some (.int kd (m : Int))) (hm : m ≤ cap) : SP P (.slice t x none (some hi) none) ty E h (.slice a m cap) :=
  ⟨fun n a' w o ho ht f hw => by
    have e : (if cap = 0 then a else a.map (·.add (0 * k))) = a := by
      split
      · rfl
      · cases a with
        | none => rfl
        | some p => simp [Addr.add]
    simp [execOp, ho, f.ev hx, f.ev hlo, Instr.sliceAt, hu, Instr.slice, Instr.sliceBounds, Instr.sliceBound, asIntOf, hm, hz]
    cases a <;> simp [Addr.add]⟩
end

theorem Ow.neT {α : Type} {B : Nat} {T T' : TypeId} {k : Nat} {enc : α → List Value} {h : Hp} {a : Option Addr} {cap : Nat} {l : List α} {b : Nat} {cs : List Value} (w : Ow B T k enc h a cap l) (hb : Bl h b cs T') (hT : T ≠ T') (hn : a ≠ none) : bk a ≠ b := by
  rcases w with ⟨rfl, _⟩ | ⟨g, rest, rfl, _, hg, _⟩
  · exact absurd rfl hn
  · intro e
    have e : g = b := e
    subst e
    have h1 : h[g]? = _ := hg
    have h2 : h[g]? = _ := hb
    rw [h1] at h2
    simp only [Option.some.injEq, Obj.cells.injEq] at h2
    exact hT h2.2.1
theorem Ow.natT {α : Type} {B : Nat} {T T' : TypeId} {k : Nat} {enc : α → List Value} {h : Hp} {a : Option Addr} {cap : Nat} {l : List α} {b : Nat} {cs : List Value} (w : Ow B T k enc h a cap l) (hb : Bl h b cs T') (hT : T ≠ T') : ¬ At a b :=
  fun hh => w.neT hb hT hh.1 hh.2.symm
/-- Nothing below B turns. -/
abbrev Fr (B : Nat) (h h' : Hp) : Prop := Kp (fun k => B ≤ k) h h'
theorem Fr.ext {B : Nat} {h h' h'' : Hp} (x : Fr B h h') (y : Ext h' h'') : Fr B h h'' := x.trans (Kp.of_ext y)
theorem Fr.app {α : Type} {B : Nat} {T : TypeId} {k : Nat} {enc : α → List Value} {h h' h'' : Hp} {a : Option Addr} {cap : Nat} {l : List α} (x : Fr B h h') (y : Kp (At a) h' h'') (w : Ow B T k enc h' a cap l) : Fr B h h'' :=
  x.trans (y.mono fun k _ hh => by have := w.ge hh.1; have := hh.2; omega)
theorem Fr.upd {B : Nat} {h h' h'' : Hp} {b : Nat} {cs : List Value} {T : TypeId} (x : Fr B h h') (u : Upd h' h'' b cs T) (hb : B ≤ b) : Fr B h h'' := x.trans (u.kp.mono fun k _ e => by omega)
theorem Kp.fr {B : Nat} {h0 h h' : Hp} (x : Ext h0 h) (y : Fr B h h') (hB : h0.size ≤ B) : Ext h0 h' := x.own y fun k hk hh => by omega

/-- Where a part of a slice stands. -/
def slf (a : Option Addr) (cap m k : Nat) : Option Addr := if cap = m then a else a.map (·.add (m * k))
theorem Rd.from_ {α : Type} {k : Nat} {enc : α → List Value} {h : Hp} {a : Option Addr} {l : List α} (r : Rd k enc h a l) (cap m : Nat) (hc : l.length ≤ cap) : Rd k enc h (slf a cap m k) (l.drop m) := by
  by_cases e : m < l.length
  · have hn : l ≠ [] := by intro h; rw [h] at e; simp at e
    have hi := r.is hn
    have e2 : slf a cap m k = some ⟨bk a, of a + m * k, none⟩ := by
      unfold slf
      rw [if_neg (by omega)]
      have : a = some ⟨bk a, of a, none⟩ := hi
      rw [this]
      show some ((Addr.mk (bk a) (of a) none).add (m * k)) = _
      rw [add_eq]
      rw [← this]
    rw [e2]
    refine ⟨fun _ => rfl, fun _ => r.lt hn, fun i x hx j v hv => ?_⟩
    rw [List.getElem?_drop] at hx
    have := r.cel (m + i) x hx j v hv
    show Lx.cel h (bk a) (of a + m * k + i * k + j) = some v
    rw [show of a + m * k + i * k + j = of a + (m + i) * k + j by rw [Nat.add_mul]; omega]
    exact this
  · rw [List.drop_of_length_le (by omega)]
    exact Rd.nil
end Go.Lx
