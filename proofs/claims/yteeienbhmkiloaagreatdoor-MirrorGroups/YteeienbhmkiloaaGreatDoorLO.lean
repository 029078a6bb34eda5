import Derived.Test.YteeienbhmkiloaaGreatDoorLZ
import Derived.ChangeArms
import Derived.ChangeSame
import Derived.DataReads
import Derived.SizedLaws
set_option linter.unusedSimpArgs false
set_option linter.unusedVariables false
namespace Go.Lx
theorem choose_list {α : Type} {P : Nat → α → Prop} : ∀ n, (∀ i, i < n → ∃ x, P i x) → ∃ l : List α, l.length = n ∧ ∀ (i : Nat) (x : α), l[i]? = some x → P i x
  | 0, _ => ⟨[], rfl, fun i x hx => by simp at hx⟩
  | n + 1, h => by
    obtain ⟨l, h1, h2⟩ := choose_list n (fun i hi => h i (by omega))
    obtain ⟨x, hx⟩ := h n (by omega)
    refine ⟨l ++ [x], by simp [h1], fun i y hy => ?_⟩
    by_cases hi : i < l.length
    · rw [List.getElem?_append_left hi] at hy; exact h2 i y hy
    · rw [List.getElem?_append_right (by omega)] at hy
      have hz : i - l.length = 0 := by
        have := (List.getElem?_eq_some_iff.1 hy).1
        simp at this; omega
      rw [hz] at hy
      simp at hy
      subst hy
      rw [show i = n by omega]; exact hx
section
variable {H : Type} {enc : TypeId × Value → H} {P : Program} {w : World} {base : Nat} {spare : Nat → Bool} {held : Bool}
theorem weights_all {P : Program} {e : TypeId} {n : Nat} : ∀ {l : List (DataW H)} {d : DataW H}, d ∈ l → n ∈ d.weights P e → n ∈ DataW.weightsAll P e l
  | x :: r, d, hd, hn => by
    simp only [DataW.weightsAll, List.mem_append]
    rcases List.mem_cons.1 hd with rfl | hd
    · exact .inl hn
    · exact .inr (weights_all hd hn)
/-- A slice that came in, read as a list. -/
theorem sl_of_trod {α : Type} {r : Rp α} {t e : TypeId} {fuel : Nat} {a : Option Addr} {len cap : Nat} {x : DataW H × List MemPlace} (ht : P.underlying t = some (.slice e)) (hc : P.cellsOf e = r.k) (hk : 0 < r.k)
    (he : ∀ fuel cs y, DataW.trod enc P w base spare held fuel e cs = some y → (∀ n ∈ y.1.weights P e, n ≤ reachBytes) → ∃ v, r.R (fun _ => False) w.heap v cs) (hby : 0 < P.bytesOf e)
    (hwt : ∀ n ∈ x.1.weights P t, n ≤ reachBytes)
    (h : DataW.trod enc P w base spare held fuel t [.slice a len cap] = some x) : ∃ l : List α, l.length = len ∧ Sl r (fun _ => False) w.heap a cap l := by
  rcases DataW.trod_slice ht h with ⟨h0, _⟩ | ⟨A, len', cap', elems, rest, n, _, hcs, rfl, hb, hl, hm, hlen, hel, _, _⟩
  · simp at h0
    obtain ⟨rfl, rfl, rfl⟩ := h0
    exact ⟨[], rfl, .nil⟩
  · simp at hcs
    obtain ⟨rfl, rfl, rfl⟩ := hcs
    obtain ⟨b, o, s⟩ := A
    have hm' : cap ≤ 9223372036854775807 := by unfold maxLen at hm; omega
    simp only [DataW.weights, ht] at hwt
    have hll : len ≤ 140737488355328 := by
      have h1 := hwt _ (List.mem_cons_self ..)
      have h2 := reachBytes_lt
      have h3 : len ≤ ((elems.map (·.1)).length + (rest.map (·.1)).length) * P.bytesOf e := by
        rw [List.length_map, hlen]
        exact Nat.le_trans (Nat.le_add_right _ _) (Nat.le_mul_of_pos_right _ hby)
      have h4 : (2 : Nat) ^ 47 = 140737488355328 := by decide
      omega
    have hin : ∀ (i : Nat) (y : DataW H × List MemPlace), elems[i]? = some y → ∀ n ∈ y.1.weights P e, n ≤ reachBytes := fun i y hy n hn =>
      hwt n (List.mem_cons_of_mem _ (List.mem_append_left _ (weights_all (List.mem_map_of_mem (List.mem_of_getElem? hy)) hn)))
    have each : ∀ i, i < len → ∃ cs y, w.cells? base ((Addr.mk b o s).add (i * P.cellsOf e)) (P.cellsOf e) = some cs ∧ DataW.trod enc P w base spare held n e cs = some y ∧ elems[i]? = some y := fun i hi => by
      have h1 := hel i hi
      obtain ⟨y, hy⟩ : ∃ y, elems[i]? = some y := ⟨_, List.getElem?_eq_getElem (by omega)⟩
      rw [hy, Option.bind_eq_some_iff] at h1
      obtain ⟨cs, hcs, htr⟩ := h1
      exact ⟨cs, y, hcs, htr, hy⟩
    have hs : 0 < len → s = none := fun h0 => by
      obtain ⟨cs, y, hcs, _, _⟩ := each 0 h0
      obtain ⟨_, hln, hcell⟩ := World.cells?_some hcs
      rw [hc] at hln hcell
      have h0 := hcell 0 hk
      rw [List.getElem?_eq_getElem (by omega)] at h0
      have := World.cell?_spot h0
      simpa [Addr.add] using this
    obtain ⟨l, h1, h2⟩ := choose_list (P := fun i (v : α) => ∃ cs, r.R (fun _ => False) w.heap v cs ∧ Ck w.heap b (o + i * r.k) cs) len (fun i hi => by
      obtain ⟨cs, y, hcs, htr, hy⟩ := each i hi
      obtain ⟨v, hv⟩ := he _ _ _ htr (hin i y hy)
      obtain ⟨_, hln, hcell⟩ := World.cells?_some hcs
      rw [hc] at hln hcell
      have hs' := hs (by omega)
      subst hs'
      refine ⟨v, cs, hv, fun j u hu => ?_⟩
      have hj : j < r.k := by have := (List.getElem?_eq_some_iff.1 hu).1; omega
      have := hcell j hj
      rw [hu, add_eq, add_eq, cell_cel rfl] at this
      exact this)
    have hpos : l ≠ [] → 0 < len := fun hn => by have := List.length_pos_iff.2 hn; omega
    refine ⟨l, h1, ⟨fun hn => ?_, fun hn => ?_, fun _ h => h, by omega, by omega, by omega, fun i v hv => h2 i v hv⟩⟩
    · have := hs (hpos hn)
      subst this
      rfl
    · obtain ⟨v, hv⟩ : ∃ v, l[0]? = some v := ⟨_, List.getElem?_eq_getElem (List.length_pos_iff.2 hn)⟩
      obtain ⟨cs, hr, hck⟩ := h2 0 v hv
      have hlen := r.len hr
      have := hck 0 cs[0] (List.getElem?_eq_getElem (by omega))
      exact cel_lt this
theorem int_of_trod {k : IntKind} {e : TypeId} {fuel : Nat} {cs : List Value} {y : DataW H × List MemPlace} (he : P.underlying e = some (.int k)) (h : DataW.trod enc P w base spare held fuel e cs = some y) : ∃ n, cs = [.int k n] ∧ k.min ≤ n ∧ n ≤ k.max := by
  obtain ⟨n, rfl, _, hw⟩ := DataW.trod_int he h
  simp [Lit.wf] at hw
  exact ⟨n, rfl, hw.1, hw.2⟩
end
end Go.Lx
