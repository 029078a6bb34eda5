import Derived.Test.YtpnbdejdkllflaaH2
set_option linter.unusedVariables false
namespace Go.Lx
theorem spl_pre : ∀ (vs cs pre : List Value), cs.length = vs.length → spl (pre ++ cs) pre.length vs = pre ++ vs
  | [], cs, pre, h => by
    have : cs = [] := List.eq_nil_of_length_eq_zero (by simpa using h)
    subst this; rfl
  | v :: r, c :: cs, pre, h => by
    have ih := spl_pre r cs (pre ++ [v]) (by simpa using h)
    simp only [spl]
    rw [List.set_append_right _ _ (Nat.le_refl _), Nat.sub_self]
    simp only [List.set_cons_zero]
    rw [List.length_append] at ih
    simp only [List.append_assoc, List.singleton_append, List.length_cons, List.length_nil, Nat.zero_add] at ih
    exact ih
  | v :: r, [], pre, h => by simp at h
theorem spl_all (vs cs : List Value) (h : cs.length = vs.length) : spl cs 0 vs = vs := spl_pre vs cs [] h
section
variable {P : Program} {E : Env} {h : Hp} {K : Value → Hp → Prop} {ty : TypeId}
/-- A slice of one element of many cells. -/
theorem s_bsl1 {t e : TypeId} {k : Nat} {x : Operand} {zs vs : List Value} {z v : Value} (hu : ∀ w, (underlying t).run P w = .ok (.slice e) w) (hk : ∀ w, (sizeOf e).run P w = .ok k w) (hz : ∀ w, (zeroValue e).run P w = .ok z w)
    (hzs : z.cells = zs.toArray) (hk2 : k ≤ 2 ^ 24) (hk1 : 0 < k) (hk0 : zs.length = k) (hx : ev E x = some v) (hv : v.cells = vs.toArray) (hvl : vs.length = k) (q : ∀ b h', New h h' b (.cells vs.toArray e) → K (.slice (some ⟨b, 0, none⟩) 1 1) h') :
    S P (.buildSlice t 1 [(0, x)].toArray) ty E h K :=
  s_bsl (m := 1) (ps := [(0, x)]) (ws := vs) hu hk hz hzs (by omega) (by omega) hk0 (by
    simp only [asm, hx]
    rw [show ((List.range 1).map fun i => (i * k, k))[0]? = some (0, k) by simp]
    simp only [hv]
    have h1 : Nat.beq vs.length k = true := by simp [hvl]
    have h2 : Nat.ble (0 + k) ((List.range (1 * k)).map fun i => zs[i % k]!).length = true := by simp
    simp only [h1, h2]
    congr 1
    exact spl_all _ _ (by simp [hvl])) q
end
theorem Bl.neT {h : Hp} {b b' : Nat} {cs cs' : List Value} {T T' : TypeId} (l : Bl h b cs T) (l' : Bl h b' cs' T') (hT : T ≠ T') : b ≠ b' := by
  intro e; subst e
  have h1 : h[b]? = _ := l
  have h2 : h[b]? = _ := l'
  rw [h1] at h2
  simp only [Option.some.injEq, Obj.cells.injEq] at h2
  exact hT h2.2.1
theorem Ow.neM {α : Type} {B : Nat} {T : TypeId} {k : Nat} {enc : α → List Value} {h : Hp} {a : Option Addr} {cap : Nat} {l : List α} {r ck : Nat} {es : List MapEntry} (w : Ow B T k enc h a cap l) (m : Mp h r es ck) : a ≠ none → bk a ≠ r := fun hn => by
  rcases w with ⟨rfl, _⟩ | ⟨g, rest, rfl, _, hg, _⟩
  · exact absurd rfl hn
  · exact m.ne hg
end Go.Lx
