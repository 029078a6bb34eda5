import Derived.Test.YteeienbhmkiloaaGreatDoorLT
import Derived.Laws.StructEq
set_option linter.unusedSimpArgs false
set_option linter.unusedVariables false
namespace Go.Lx

/-- The cells of a row of data. -/
inductive Els {α : Type} (r : Rp α) (M : Nat → Prop) (h : Hp) : List α → List Value → Prop where
  | nil : Els r M h [] []
  | cons {x : α} {l : List α} {xs ws : List Value} (hx : r.R M h x xs) (e : Els r M h l ws) : Els r M h (x :: l) (xs ++ ws)
section
variable {α : Type} {r : Rp α} {M M' : Nat → Prop} {h h' : Hp}
theorem els_nil : Els r M h [] [] := .nil
theorem els_cons {x : α} {l : List α} {xs ws : List Value} (hx : r.R M h x xs) (e : Els r M h l ws) : Els r M h (x :: l) (xs ++ ws) := .cons hx e
theorem Els.gr {l : List α} {ws : List Value} (e : Els r M h l ws) (g : Gr M h M' h') : Els r M' h' l ws := by
  induction e with
  | nil => exact .nil
  | cons hx _ ih => exact .cons (r.gr hx g) ih
theorem Els.len {l : List α} {ws : List Value} (e : Els r M h l ws) : ws.length = l.length * r.k := by
  induction e with
  | nil => simp
  | cons hx _ ih => rw [List.length_append, r.len hx, ih, List.length_cons, Nat.add_mul]; omega
theorem Els.at_ {l : List α} {ws : List Value} (e : Els r M h l ws) : ∀ i x, l[i]? = some x → ∃ xs, r.R M h x xs ∧ Pt ws (i * r.k) xs := by
  induction e with
  | nil => intro i x hx; simp at hx
  | cons hx e ih =>
    rename_i y l xs ws
    intro i x hi
    cases i with
    | zero =>
      simp only [List.getElem?_cons_zero, Option.some.injEq] at hi
      subst hi
      refine ⟨xs, hx, fun j v hv => ?_⟩
      rw [Nat.zero_mul, Nat.zero_add, List.getElem?_append_left (List.getElem?_eq_some_iff.1 hv).1]
      exact hv
    | succ i =>
      obtain ⟨zs, g1, g2⟩ := ih i x (by simpa using hi)
      refine ⟨zs, g1, fun j v hv => ?_⟩
      have hl := r.len hx
      rw [List.getElem?_append_right (by rw [hl, Nat.add_mul]; omega), hl, show (i + 1) * r.k + j - r.k = i * r.k + j by rw [Nat.add_mul]; omega]
      exact g2 j v hv
theorem Els.rep {z : α} {zs : List Value} (hz : r.R M h z zs) : ∀ n, Els r M h (List.replicate n z) (List.replicate n zs).flatten
  | 0 => .nil
  | n + 1 => by rw [List.replicate_succ, List.replicate_succ, List.flatten_cons]; exact .cons hz (Els.rep hz n)

theorem New.sl {b m : Nat} {T : TypeId} {ws ws' : List Value} {l : List α} (n : New h h' b (.cells ws.toArray T)) (hn : ¬ M b) (hm : l.length = m) (e : Els r M h' l ws') (hw : ws = ws' := by rfl) (hl : Nat.ble m 1000000000 = true := by rfl) : Sl r M h' (some ⟨b, 0, none⟩) m l := by
  subst hw
  have hl := Nat.le_of_ble_eq_true hl
  refine ⟨fun _ => rfl, fun _ => n.bl.lt, fun _ => hn, by omega, by omega, by omega, fun i x hx => ?_⟩
  obtain ⟨xs, e1, e2⟩ := e.at_ i x hx
  refine ⟨xs, e1, ?_⟩
  have := n.bl.ck e2
  rwa [show of (some ⟨b, 0, none⟩) + i * r.k = i * r.k from Nat.zero_add _]
theorem New.ow {B b m : Nat} {T : TypeId} {ws ws' : List Value} {l : List α} (n : New h h' b (.cells ws.toArray T)) (nm : Nm M h b M') (hB : B ≤ b) (hm : l.length = m) (e : Els r M h l ws') (hw : ws = ws' := by rfl) (hl : Nat.ble m 1000000000 = true := by rfl) : Ow B T r M' h' (some ⟨b, 0, none⟩) m l := by
  subst hw
  have hl := Nat.le_of_ble_eq_true hl
  by_cases h0 : m = 0
  · have : l = [] := List.length_eq_zero_iff.1 (by omega)
    exact .inl ⟨h0, this⟩
  · refine .inr ⟨b, ws, rfl, hB, nm.mem, by omega, n.bl, by rw [e.len, hm], by omega, by omega, (e.gr (nm.gr n)).at_⟩
theorem New.owMk {B b n' c' : Nat} {T : TypeId} {zs : List Value} {z : α} (n : New h h' b (.cells ((List.replicate c' zs).flatten).toArray T)) (nm : Nm M h b M') (hB : B ≤ b) (hz : r.R M h z zs) (hnc : n' ≤ c') (hc : c' ≤ 1000000000) : Ow B T r M' h' (some ⟨b, 0, none⟩) c' (List.replicate n' z) := by
  by_cases h0 : c' = 0
  · exact .inl ⟨h0, by rw [show n' = 0 by omega]; rfl⟩
  · have e := (Els.rep hz c').gr (nm.gr n)
    refine .inr ⟨b, _, rfl, hB, nm.mem, by omega, n.bl, by rw [e.len, List.length_replicate], by simpa using hnc, by simp; omega, fun i x hx => ?_⟩
    refine e.at_ i x ?_
    rw [List.getElem?_replicate] at hx ⊢
    split at hx
    · rw [if_pos (by omega)]; exact hx
    · cases hx
end
theorem Bl.getp {h : Hp} {b d : Nat} {cs vs : List Value} {T : TypeId} (l : Bl h b cs T) (n : Nat) (hv : (cs.drop d).take n = vs) : ∀ j v, vs[j]? = some v → Lx.cel h b (d + j) = some v := by
  subst hv
  intro j v hj
  rw [l.cel]
  rw [List.getElem?_take] at hj
  split at hj
  · rw [List.getElem?_drop] at hj; exact hj
  · cases hj

/-- What is the call's own is not written any more. -/
structure Fz (M : Nat → Prop) (a : Option Addr) (cap : Nat) (M' : Nat → Prop) : Prop where
  sub : ∀ b, M' b → M b
  keep : ∀ b, M b → ¬ Ob a cap b → M' b
theorem Ow.fz {α : Type} {r : Rp α} {T : TypeId} {N S M : Nat → Prop} {h0 h : Hp} {a : Option Addr} {cap : Nat} {l : List α} (o : Ow h0.size T r M h a cap l) (s : St N h0 S M h) (hN : ∀ b, N b → b < h0.size) :
    ∃ M', Fz M a cap M' ∧ St N h0 S M' h ∧ Sl r M' h a cap l :=
  ⟨fun b => M b ∧ ¬ Ob a cap b, ⟨fun b h => h.1, fun b h1 h2 => ⟨h1, h2⟩⟩, ⟨s.kp, fun b hb h => s.inp b hb h.1, fun b hb => ⟨s.sub b hb, fun hh => by have := o.ge b hh; have := hN b hb; omega⟩, fun b h => s.lt b h.1, s.sN⟩,
    o.sl (fun b h => h.1) (fun b hb h => h.2 hb)⟩
theorem Ow.fzo {α : Type} {r : Rp α} {T : TypeId} {B : Nat} {M M' : Nat → Prop} {h : Hp} {a a' : Option Addr} {cap cap' : Nat} {l : List α} (o : Ow B T r M h a cap l) (f : Fz M a' cap' M') (hn : ∀ b, Ob a cap b → ¬ Ob a' cap' b) : Ow B T r M' h a cap l :=
  o.gr ⟨Kp.refl _ _, fun b _ h => f.sub b h⟩ (fun b hb => f.keep b (o.mem b hb) (hn b hb)) fun _ _ => rfl

section
variable {P : Program} {E : Env} {h : Hp} {K : Value → Hp → Prop} {ty : TypeId}
theorem p_addw {t t' : TypeId} {x y : Operand} {k : IntKind} {m n : Int} (hx : ev E x = some (.int k m)) (hy : ev E y = some (.int k n)) (hw : k.wrap (m + n) = m + n) : SP P (.binOp .add t x y t') ty E h (.int k (m + n)) := by
  have := p_add (P := P) (ty := ty) (h := h) (t := t) (t' := t') hx hy; rw [hw] at this; exact this
theorem p_subw {t t' : TypeId} {x y : Operand} {k : IntKind} {m n : Int} (hx : ev E x = some (.int k m)) (hy : ev E y = some (.int k n)) (hw : k.wrap (m - n) = m - n) : SP P (.binOp .sub t x y t') ty E h (.int k (m - n)) := by
  have := p_sub (P := P) (ty := ty) (h := h) (t := t) (t' := t') hx hy; rw [hw] at this; exact this
theorem run_eqb (d : Nat) {t : TypeId} {w : World} (m n : Bool) (hu : (underlying t).run P w = .ok .bool w) : (Op.equalIn (d + 1) t (.bool m) (.bool n)).run P w = .ok (m == n) w := by simp [Op.equalIn, hu]
theorem p_eqlb {t t' : TypeId} {x y : Operand} {m n : Bool} (hu : ∀ w, (underlying t).run P w = .ok .bool w) (hx : ev E x = some (.bool m)) (hy : ev E y = some (.bool n)) : SP P (.binOp .eql t x y t') ty E h (.bool (m == n)) :=
  ⟨fun n' a w o ho ht f hw => by
    have := run_eqb (P := P) 9999 m n (hu w)
    have e : (Op.equal t (.bool m) (.bool n)).run P w = .ok (m == n) w := this
    simp [execOp, ho, f.ev hx, f.ev hy, eqGuard_at_bool, binOp, e]⟩
theorem p_neqb {t t' : TypeId} {x y : Operand} {m n : Bool} (hu : ∀ w, (underlying t).run P w = .ok .bool w) (hx : ev E x = some (.bool m)) (hy : ev E y = some (.bool n)) : SP P (.binOp .neq t x y t') ty E h (.bool (m != n)) :=
  ⟨fun n' a w o ho ht f hw => by
    have := run_eqb (P := P) 9999 m n (hu w)
    have e : (Op.equal t (.bool m) (.bool n)).run P w = .ok (m == n) w := this
    simp [execOp, ho, f.ev hx, f.ev hy, eqGuard_at_bool, binOp, e]
    cases m <;> cases n <;> rfl⟩
theorem run_eqsn (d : Nat) {t e : TypeId} {w : World} (a : Option Addr) (n c : Nat) (hu : (underlying t).run P w = .ok (.slice e) w) : (Op.equalIn (d + 1) t (.slice a n c) (.slice none 0 0)).run P w = .ok a.isNone w := by
  cases a <;> simp [Op.equalIn, hu]
theorem p_eqlssn {t e t' : TypeId} {x y : Operand} {a : Option Addr} {n c : Nat} (hu : ∀ w, (underlying t).run P w = .ok (.slice e) w) (hx : ev E x = some (.slice a n c)) (hy : ev E y = some (.slice none 0 0)) : SP P (.binOp .eql t x y t') ty E h (.bool a.isNone) :=
  ⟨fun n' a' w o ho ht f hw => by
    have e : (Op.equal t (.slice a n c) (.slice none 0 0)).run P w = .ok a.isNone w := run_eqsn 9999 a n c (hu w)
    simp [execOp, ho, f.ev hx, f.ev hy, eqGuard_at_slice, binOp, e]⟩
theorem p_neqssn {t e t' : TypeId} {x y : Operand} {a : Option Addr} {n c : Nat} (hu : ∀ w, (underlying t).run P w = .ok (.slice e) w) (hx : ev E x = some (.slice a n c)) (hy : ev E y = some (.slice none 0 0)) : SP P (.binOp .neq t x y t') ty E h (.bool a.isSome) :=
  ⟨fun n' a' w o ho ht f hw => by
    have e : (Op.equal t (.slice a n c) (.slice none 0 0)).run P w = .ok a.isNone w := run_eqsn 9999 a n c (hu w)
    cases a <;> simp [execOp, ho, f.ev hx, f.ev hy, eqGuard_at_slice, binOp, e]⟩
theorem run_eqp_d (d : Nat) {t e : TypeId} {w : World} (p : Option Addr) (hu : (underlying t).run P w = .ok (.pointer e) w) : (Op.equalIn (d + 1) t (.pointer p) (.pointer none)).run P w = .ok p.isNone w := by
  cases p with
  | none => simp [Op.equalIn, hu]
  | some a => simp [Op.equalIn, hu]
theorem run_eqp {t e : TypeId} {w : World} (p : Option Addr) (hu : (underlying t).run P w = .ok (.pointer e) w) : (Op.equal t (.pointer p) (.pointer none)).run P w = .ok p.isNone w :=
  run_eqp_d 9999 p hu
theorem p_eqlp {t e t' : TypeId} {x y : Operand} {p : Option Addr} (hu : ∀ w, (underlying t).run P w = .ok (.pointer e) w) (hx : ev E x = some (.pointer p)) (hy : ev E y = some (.pointer none)) : SP P (.binOp .eql t x y t') ty E h (.bool p.isNone) :=
  ⟨fun n a w o ho ht f hw => by simp [execOp, ho, f.ev hx, f.ev hy, eqGuard_at_pointer, binOp, run_eqp p (hu w)]⟩
theorem p_neqp {t e t' : TypeId} {x y : Operand} {p : Option Addr} (hu : ∀ w, (underlying t).run P w = .ok (.pointer e) w) (hx : ev E x = some (.pointer p)) (hy : ev E y = some (.pointer none)) : SP P (.binOp .neq t x y t') ty E h (.bool p.isSome) :=
  ⟨fun n a w o ho ht f hw => by cases p <;> simp [execOp, ho, f.ev hx, f.ev hy, eqGuard_at_pointer, binOp, run_eqp _ (hu w)]⟩
end
end Go.Lx
