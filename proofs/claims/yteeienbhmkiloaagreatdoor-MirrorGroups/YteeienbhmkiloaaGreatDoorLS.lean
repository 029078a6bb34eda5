import Derived.Test.YteeienbhmkiloaaGreatDoorLR
set_option linter.unusedSimpArgs false
set_option linter.unusedVariables false
namespace Go.Lx

section
variable {P : Program} {E : Env} {h : Hp} {K : Value → Hp → Prop} {ty : TypeId}

/-- append to a slice of the call's own. -/
theorem s_app {α : Type} {B : Nat} {t e t2 : TypeId} {k : Nat} {r : Rp α} {ei : TypeInfo} {zs : List Value} {z : Value} {x y : Operand} {a a2 : Option Addr} {cap cap2 : Nat} {l m : List α} {M : Nat → Prop}
    (hu : ∀ w, (underlying t).run P w = .ok (.slice e) w) (hu2 : ∀ w, (underlying t2).run P w = .ok (.slice e) w) (hs : ∀ w, (sizeOf e).run P w = .ok k w) (hti : ∀ w, (typeInfo e).run P w = .ok ei w) (hz : ∀ w, (zeroValue e).run P w = .ok z w)
    (hzs : z.cells = zs.toArray) (hk : r.k = k) (hzl : Nat.beq zs.length k = true) (hby : Nat.ble ei.bytes 10000 = true)
    (hx : ev E x = some (.slice a l.length cap)) (hy : ev E y = some (.slice a2 m.length cap2)) (ow : Ow B e r M h a cap l) (sm : Sl r M h a2 cap2 m) (hB : B ≤ h.size) (hlen : l.length + m.length ≤ 1000000000)
    (q : ∀ a' cap' h', Ap h h' a cap a' cap' → (∀ M', Am M h a' cap' M' → Ow B e r M' h' a' cap' (l ++ m)) → K (.slice a' (l ++ m).length cap') h') : S P (.call ⟨.builtin .append, #[x, y], #[t, t2]⟩) ty E h K :=
  S.val fun n a' w o ho ht f hw => by
    subst hk
    obtain ⟨fs, f1, f2, f3, f4⟩ := sm.flat
    have hmi : fs ≠ [] → Is a2 := fun hn => sm.is (by
      intro e0; subst e0
      rw [List.length_nil, Nat.zero_mul] at f1
      exact hn (List.length_eq_zero_iff.1 f1))
    have fm : (Builtin.firstCells r.k m.length (.slice a2 m.length cap2)).run P w = .ok fs.toArray w := run_first hw f1 f3 hmi
    have hzl' : zs.length = r.k := Nat.eq_of_beq_eq_true hzl
    have hby' := Nat.le_of_ble_eq_true hby
    by_cases hc : l.length + m.length ≤ cap
    · -- there is room
      rcases ow with ⟨rfl, rfl⟩ | ⟨b, cs, rfl, hb0, hbm, hc0, hb, h1, h2, h3, h4⟩
      · have hm : m = [] := by cases m with | nil => rfl | cons _ _ => simp at hc
        subst hm
        refine ⟨.slice a 0 0, w, ?_, Io.refl w, ?_⟩
        · have hfs : fs = [] := by rw [List.length_nil, Nat.zero_mul] at f1; exact List.length_eq_zero_iff.1 f1
          subst hfs
          have fm' : (Builtin.firstCells r.k 0 (.slice a2 0 cap2)).run P w = .ok #[] w := by simpa using fm
          cases a <;> simp [execOp, ho, resolve, invoke, builtin, f.ev hx, f.ev hy, Builtin.append_, hu, hu2, hs, Builtin.lenOf, fm', storeCells]
        · have := q a 0 h ⟨Kp.refl _ _, fun _ _ hh => hh, fun b hh => by have := hh.1; omega⟩ (fun M' _ => Ow.nil)
          rw [hw]; simpa using this
      · have hcap : l.length * r.k + m.length * r.k ≤ cap * r.k := by rw [← Nat.add_mul]; exact Nat.mul_le_mul_right _ hc
        subst hw
        obtain ⟨w', hr, hi, hu'⟩ := run_storeCells (P := P) fs 0 (l.length * r.k) cs w hb f2 (by omega)
        refine ⟨.slice (some ⟨b, 0, none⟩) (l.length + m.length) cap, w', ?_, hi, ?_⟩
        · have ea : (Addr.mk b 0 none).add (l.length * r.k) = ⟨b, l.length * r.k, none⟩ := by rw [add_eq, Nat.zero_add]
          simp [execOp, ho, resolve, invoke, builtin, f.ev hx, f.ev hy, Builtin.append_, hu, hu2, hs, Builtin.lenOf, fm, hc, ea, hr]
        · rw [Nat.add_zero] at hu'
          have hap : Ap w.heap w'.heap (some ⟨b, 0, none⟩) cap (some ⟨b, 0, none⟩) cap := ⟨hu'.kp.mono fun k' _ e => ⟨hc0, e⟩, fun _ _ hh => hh, fun c hh => by rw [hh.2]; exact hu'.bl.lt⟩
          have := q (some ⟨b, 0, none⟩) cap w'.heap hap (fun M' am => .inr ⟨b, _, rfl, hb0, am.mem hc0, hc0, hu'.bl, by simp only [List.length_append, List.length_take, List.length_drop]; omega, by rw [List.length_append]; exact hc, ⟨h3.1, by rw [List.length_append]; omega⟩, fun i x hx => by
            by_cases hi : i < l.length
            · rw [List.getElem?_append_left hi] at hx
              obtain ⟨xs, e1, e2⟩ := h4 i x hx
              refine ⟨xs, r.gr e1 (am.gr hap (fun c hh => by rw [hh.2]; exact hbm)), fun j v hv => ?_⟩
              have hj : j < r.k := by rw [← r.len e1]; exact (List.getElem?_eq_some_iff.1 hv).1
              have hlt : i * r.k + j < l.length * r.k := by
                have := Nat.mul_le_mul_right r.k (show i + 1 ≤ l.length by omega)
                rw [Nat.add_mul] at this; omega
              rw [List.append_assoc, List.getElem?_append_left (by rw [List.length_take]; omega), List.getElem?_take, if_pos hlt]
              exact e2 j v hv
            · rw [List.getElem?_append_right (by omega)] at hx
              obtain ⟨xs, e1, e2⟩ := f4 _ x hx
              refine ⟨xs, r.gr e1 (am.gr hap (fun c hh => by rw [hh.2]; exact hbm)), fun j v hv => ?_⟩
              have h5 := e2 j v hv
              have hj : (i - l.length) * r.k + j < fs.length := (List.getElem?_eq_some_iff.1 h5).1
              have hsub : i * r.k + j - l.length * r.k = (i - l.length) * r.k + j := by
                have : l.length * r.k ≤ i * r.k := Nat.mul_le_mul_right _ (by omega)
                rw [Nat.sub_mul]; omega
              have hge : l.length * r.k ≤ i * r.k := Nat.mul_le_mul_right _ (by omega)
              rw [List.append_assoc, List.getElem?_append_right (by rw [List.length_take]; omega), List.length_take, Nat.min_eq_left (by omega), hsub, List.getElem?_append_left hj]
              exact h5⟩)
          rw [List.length_append] at this
          exact this
    · -- there is none
      obtain ⟨gs, g1, g3, g4, g5⟩ : ∃ gs : List Value, gs.length = l.length * r.k ∧ Ck h (bk a) (of a) gs ∧ (gs ≠ [] → Is a) ∧ ∀ i x, l[i]? = some x → ∃ xs, r.R M h x xs ∧ Pt gs (i * r.k) xs := by
        rcases ow with ⟨rfl, rfl⟩ | ⟨b, cs, rfl, hb0, hbm, hc0, hb, h1, h2, h3, h4⟩
        · exact ⟨[], by simp, fun j v hv => by simp at hv, fun hn => absurd rfl hn, fun i x hx => by simp at hx⟩
        · have hle : l.length * r.k ≤ cs.length := by rw [h1]; exact Nat.mul_le_mul_right _ h2
          refine ⟨cs.take (l.length * r.k), by rw [List.length_take]; omega, fun j v hv => ?_, fun _ => rfl, fun i x hx => ?_⟩
          · have := hb.ck0 j v (by
              rw [List.getElem?_take] at hv
              split at hv
              · exact hv
              · cases hv)
            exact this
          · obtain ⟨xs, e1, e2⟩ := h4 i x hx
            refine ⟨xs, e1, fun j v hv => ?_⟩
            have hi : i < l.length := (List.getElem?_eq_some_iff.1 hx).1
            have hj : j < r.k := by rw [← r.len e1]; exact (List.getElem?_eq_some_iff.1 hv).1
            have hlt : i * r.k + j < l.length * r.k := by
              have := Nat.mul_le_mul_right r.k (show i + 1 ≤ l.length by omega)
              rw [Nat.add_mul] at this; omega
            rw [List.getElem?_take, if_pos hlt]
            exact e2 j v hv
      have owm := ow.mem
      have hns : Builtin.nextslicecap (l.length + m.length) cap ≤ 16 * (l.length + m.length + 768) := nextslicecap_le (by omega)
      have hb48 : ¬ 281474976710656 < Builtin.nextslicecap (l.length + m.length) cap * ei.bytes := bytes_ok (Nat.le_trans hns (by omega)) hby'
      have hmax : ¬ (9223372036854775807 < (l.length : Int) + (m.length : Int) ∧ ei.bytes = 0) := by omega
      have hfo : (Question.appendCap (l.length + m.length) cap e).forced = false := rfl
      subst hw
      generalize hnc : (Question.appendCap (l.length + m.length) cap e).cut (w.tape w.drawn (.appendCap (l.length + m.length) cap e)) = nc
      have hnc2 : l.length + m.length ≤ nc ∧ nc ≤ 9223372036854775807 := by
        rw [← hnc]; simp only [Question.cut]
        have := Nat.mod_lt (w.tape w.drawn (.appendCap (l.length + m.length) cap e)) (show 0 < 2 ^ 63 - (l.length + m.length) by omega)
        omega
      refine ⟨.slice (some ⟨w.heap.size, 0, none⟩) (l.length + m.length) nc, { w with drawn := w.drawn + 1, heap := w.heap.push (.cells (gs.toArray ++ (fs.toArray ++ Builtin.zeroCells zs.toArray (nc - (l.length + m.length)))) e) }, ?_, ⟨rfl, rfl, rfl⟩, ?_⟩
      · have fm' : (Builtin.firstCells r.k m.length (.slice a2 m.length cap2)).run P w.drew = .ok fs.toArray w.drew := run_first (w := w.drew) rfl f1 f3 hmi
        have fs' : (Builtin.firstCells r.k l.length (.slice a l.length cap)).run P w.drew = .ok gs.toArray w.drew := run_first (w := w.drew) rfl g1 g3 g4
        simp [execOp, ho, resolve, invoke, builtin, f.ev hx, f.ev hy, Builtin.append_, hu, hu2, hs, Builtin.lenOf, hc, hti, hz, hzs, hb48, hmax, hfo, hnc, fm', fs', newRow]
        rfl
      · have hsz : (Builtin.zeroCells zs.toArray (nc - (l.length + m.length))).size = (nc - (l.length + m.length)) * r.k := by
          simp only [Builtin.zeroCells, Array.size_map, Array.size_range, List.size_toArray, hzl']
        have hpos : 0 < nc := by omega
        generalize hzc : Builtin.zeroCells zs.toArray (nc - (l.length + m.length)) = zc at hsz
        have hnb : Bl (w.heap.push (.cells (gs.toArray ++ (fs.toArray ++ zc)) e)) w.heap.size (gs ++ (fs ++ zc.toList)) e := by
          simp only [Bl]
          simp
        have hap : Ap w.heap (w.heap.push (.cells (gs.toArray ++ (fs.toArray ++ zc)) e)) a cap (some ⟨w.heap.size, 0, none⟩) nc :=
          ⟨⟨by simp, fun k' hk' _ => by rw [Array.getElem?_push, if_neg (by omega)]⟩, fun b hb hat => absurd hat.2 (by show b ≠ w.heap.size; omega), fun b hh => by rw [hh.2]; exact hnb.lt⟩
        have := q (some ⟨w.heap.size, 0, none⟩) nc (w.heap.push (.cells (gs.toArray ++ (fs.toArray ++ zc)) e)) hap
          (fun M' am => .inr ⟨w.heap.size, _, rfl, hB, am.mem hpos, hpos, hnb, by
            have hz2 : zc.toList.length = (nc - (l.length + m.length)) * r.k := by rw [← hsz]; rfl
            rw [List.length_append, List.length_append, g1, f1, hz2, ← Nat.add_mul, ← Nat.add_mul]
            congr 1
            omega, by rw [List.length_append]; exact hnc2.1, ⟨hnc2.2, by rw [List.length_append]; omega⟩, fun i x hx => by
            by_cases hi : i < l.length
            · rw [List.getElem?_append_left hi] at hx
              obtain ⟨xs, e1, e2⟩ := g5 i x hx
              refine ⟨xs, r.gr e1 (am.gr hap owm), fun j v hv => ?_⟩
              have h5 := e2 j v hv
              rw [List.getElem?_append_left (List.getElem?_eq_some_iff.1 h5).1]
              exact h5
            · rw [List.getElem?_append_right (by omega)] at hx
              obtain ⟨xs, e1, e2⟩ := f4 _ x hx
              refine ⟨xs, r.gr e1 (am.gr hap owm), fun j v hv => ?_⟩
              have h5 := e2 j v hv
              have hj : (i - l.length) * r.k + j < fs.length := (List.getElem?_eq_some_iff.1 h5).1
              have hge : l.length * r.k ≤ i * r.k := Nat.mul_le_mul_right _ (by omega)
              have hsub : i * r.k + j - l.length * r.k = (i - l.length) * r.k + j := by
                rw [Nat.sub_mul]; omega
              rw [List.getElem?_append_right (by omega), g1, hsub, List.getElem?_append_left hj]
              exact h5⟩)
        rw [List.length_append] at this
        exact this
end
end Go.Lx
