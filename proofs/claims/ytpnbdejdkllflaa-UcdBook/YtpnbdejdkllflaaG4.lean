import Derived.Test.YtpnbdejdkllflaaG3
set_option linter.unusedVariables false
namespace Go.Lx
section
variable {P : Program} {E : Env} {h : Hp} {K : Value → Hp → Prop} {ty : TypeId}

theorem rep_get (zs : List Value) : ∀ (n i : Nat), i < n * zs.length → (List.replicate n zs).flatten[i]? = some (zs[i % zs.length]?.getD default)
  | 0, i, h => by simp at h
  | n + 1, i, h => by
    rw [List.replicate_succ, List.flatten_cons]
    rcases Nat.lt_or_ge i zs.length with hlt | hge
    · rw [List.getElem?_append_left hlt, Nat.mod_eq_of_lt hlt]; simp [hlt]
    · rw [List.getElem?_append_right hge, rep_get zs n _ (by rw [Nat.add_mul] at h; omega)]
      have : (i - zs.length) % zs.length = i % zs.length := by
        conv => rhs; rw [show i = i - zs.length + zs.length by omega]
        simp
      rw [this]
theorem zeroCells_eq {zs : List Value} {n : Nat} (h0 : 0 < zs.length) : (Builtin.zeroCells zs.toArray n).toList = (List.replicate n zs).flatten := by
  apply List.ext_getElem?
  intro i
  by_cases hi : i < n * zs.length
  · rw [rep_get zs n i hi]
    simp [Builtin.zeroCells, hi]
  · have hl : (List.replicate n zs).flatten.length = n * zs.length := by simp
    have h2 : (Builtin.zeroCells zs.toArray n).toList.length = n * zs.length := by simp [Builtin.zeroCells]
    rw [List.getElem?_eq_none (by omega), List.getElem?_eq_none (by omega)]

theorem fl_replicate {α : Type} (enc : α → List Value) (x : α) : ∀ n, fl enc (List.replicate n x) = (List.replicate n (enc x)).flatten
  | 0 => rfl
  | n + 1 => by rw [List.replicate_succ, List.replicate_succ, List.flatten_cons, fl, fl_replicate enc x n]

/-- clear of the end of a slice of the call's own. -/
theorem s_clr {α : Type} {B : Nat} {t e : TypeId} {k : Nat} {enc : α → List Value} {x : Operand} {a : Option Addr} {cap m : Nat} {l : List α} {z : Value} (x0 : α) (hu : ∀ w, (underlying t).run P w = .ok (.slice e) w) (hz : ∀ w, (zeroValue e).run P w = .ok z w)
    (hzs : z.cells = (enc x0).toArray) (hk : ∀ x, (enc x).length = k) (hk0 : 0 < k) (hone : ∀ x, ∀ v ∈ enc x, v.oneCell' = true) (hx : ev E x = some (.slice (slf a cap m k) (l.length - m) (cap - m))) (hm : m ≤ l.length) (ow : Ow B e k enc h a cap l)
    (q : ∀ h', Ow B e k enc h' a cap (l.take m ++ List.replicate (l.length - m) x0) → Kp (At a) h h' → K (.tuple #[]) h') : S P (.call ⟨.builtin .clear, #[x], #[t]⟩) ty E h K :=
  S.val fun n a' w o ho ht f hw => by
    subst hw
    rcases ow with ⟨rfl, rfl, rfl⟩ | ⟨b, rest, rfl, hB, hb, h1, h2⟩
    · refine ⟨.tuple #[], w, ?_, Io.refl w, ?_⟩
      · have e1 : slf none 0 m k = none := by unfold slf; split <;> rfl
        rw [e1] at hx
        simp [execOp, ho, resolve, invoke, builtin, Builtin.clear_, f.ev hx, hu]
      · have := q w.heap (by simpa using Ow.nil) (Kp.refl _ _)
        exact this
    · by_cases hml : m = l.length
      · refine ⟨.tuple #[], w, ?_, Io.refl w, ?_⟩
        · have e0 : l.length - m = 0 := by omega
          rw [e0] at hx
          generalize slf (some ⟨b, 0, none⟩) cap m k = aa at hx
          cases aa with
          | none => simp [execOp, ho, resolve, invoke, builtin, Builtin.clear_, f.ev hx, hu]
          | some p => simp [execOp, ho, resolve, invoke, builtin, Builtin.clear_, f.ev hx, hu]
        · have := q w.heap (by subst hml; rw [List.take_length, Nat.sub_self]; simp; exact .inr ⟨b, rest, rfl, hB, hb, h1, h2⟩) (Kp.refl _ _)
          exact this
      · have e1 : slf (some ⟨b, 0, none⟩) cap m k = some ⟨b, m * k, none⟩ := by
          unfold slf
          rw [if_neg (by omega)]
          simp [add_eq]
        rw [e1] at hx
        have hl := fl_length hk l
        have hzc : (Builtin.zeroCells (enc x0).toArray (l.length - m)).toList = fl enc (List.replicate (l.length - m) x0) := by
          rw [zeroCells_eq (by rw [hk]; exact hk0), fl_replicate]
        have hrl := fl_length hk (List.replicate (l.length - m) x0)
        rw [List.length_replicate] at hrl
        have hmul : m * k + (l.length - m) * k = l.length * k := by rw [← Nat.add_mul]; congr 1; omega
        obtain ⟨w', hr, hi, hu'⟩ := run_storeCells (P := P) (fl enc (List.replicate (l.length - m) x0)) 0 (m * k) (fl enc l ++ rest) w hb (by
          intro v hv
          have : ∀ (m : List α), v ∈ fl enc m → v.oneCell' = true := by
            intro m
            induction m with
            | nil => intro h; simp [fl] at h
            | cons x r ih => intro h; simp only [fl, List.mem_append] at h; rcases h with h | h; exact hone x v h; exact ih h
          exact this _ hv) (by rw [List.length_append]; omega)
        refine ⟨.tuple #[], w', ?_, hi, ?_⟩
        · obtain ⟨q', hq'⟩ : ∃ q', l.length - m = q' + 1 := ⟨l.length - m - 1, by omega⟩
          rw [hq'] at hx hzc hr
          simp [execOp, ho, resolve, invoke, builtin, Builtin.clear_, f.ev hx, hu, hz, hzs, hzc, hr]
        · have hcs : (fl enc l ++ rest).take (m * k + 0) ++ fl enc (List.replicate (l.length - m) x0) ++ (fl enc l ++ rest).drop (m * k + 0 + (fl enc (List.replicate (l.length - m) x0)).length) = fl enc (l.take m ++ List.replicate (l.length - m) x0) ++ rest := by
            rw [Nat.add_zero, hrl, hmul, ← hl, List.drop_left]
            have hsp : fl enc l = fl enc (l.take m) ++ fl enc (l.drop m) := by rw [← fl_append, List.take_append_drop]
            have hlm : (fl enc (l.take m)).length = m * k := by rw [fl_length hk, List.length_take, Nat.min_eq_left hm]
            rw [fl_append]
            congr 2
            rw [List.take_append_of_le_length (by omega), hsp, ← hlm, List.take_left]
          rw [hcs] at hu'
          exact q w'.heap (.inr ⟨b, rest, rfl, hB, hu'.bl, by simp; omega, by rw [fl_length hk]; simp; rw [Nat.min_eq_left hm]; rw [hl] at h2; rw [show m + (l.length - m) = l.length by omega]; exact h2⟩)
            (hu'.kp.mono fun k' _ e => ⟨by simp, e⟩)
end
/-- A slice's beginning is the call's own too. -/
theorem Ow.to {α : Type} {B : Nat} {T : TypeId} {k : Nat} {enc : α → List Value} {h : Hp} {a : Option Addr} {cap : Nat} {l : List α} (m : Nat) (w : Ow B T k enc h a cap l) : Ow B T k enc h a cap (l.take m) := by
  rcases w with ⟨rfl, rfl, rfl⟩ | ⟨b, rest, rfl, hB, hb, h1, h2⟩
  · simp; exact Ow.nil
  · refine .inr ⟨b, fl enc (l.drop m) ++ rest, rfl, hB, ?_, by rw [List.length_take]; omega, ?_⟩
    · rw [← List.append_assoc, ← fl_append, List.take_append_drop]; exact hb
    · rw [List.length_append, ← Nat.add_assoc, ← List.length_append, ← fl_append, List.take_append_drop]; exact h2
theorem Ow.capge {α : Type} {B : Nat} {T : TypeId} {k : Nat} {enc : α → List Value} {h : Hp} {a : Option Addr} {cap : Nat} {l : List α} (w : Ow B T k enc h a cap l) : l.length ≤ cap := by
  rcases w with ⟨rfl, rfl, rfl⟩ | ⟨b, rest, rfl, hB, hb, h1, h2⟩
  · simp
  · omega
end Go.Lx
