import Derived.Test.YteeienbhmkiloaaGreatDoorLS
set_option linter.unusedSimpArgs false
set_option linter.unusedVariables false
namespace Go.Lx

/-! ### Parts of slices -/
/-- Where a part of a slice stands. -/
def slf (a : Option Addr) (cap m k : Nat) : Option Addr := if cap = m then a else a.map (·.add (m * k))
theorem slf_zero (a : Option Addr) (cap k : Nat) : slf a cap 0 k = a := by
  unfold slf
  split
  · rfl
  · cases a with
    | none => rfl
    | some p => simp [Addr.add]
theorem slf_is {a : Option Addr} {cap m k : Nat} (hi : Is a) (h : m < cap) : slf a cap m k = some ⟨bk a, of a + m * k, none⟩ := by
  unfold slf
  rw [if_neg (by omega)]
  have e : a = some ⟨bk a, of a, none⟩ := hi
  rw [e]
  show some ((Addr.mk (bk a) (of a) none).add (m * k)) = _
  rw [add_eq]
  rw [← e]
theorem slf_bk {a : Option Addr} {cap m k : Nat} (hi : Is a) : bk (slf a cap m k) = bk a := by
  unfold slf
  split
  · rfl
  · have e : a = some ⟨bk a, of a, none⟩ := hi
    rw [e]
    show bk (some ((Addr.mk (bk a) (of a) none).add (m * k))) = _
    rw [add_eq]; rfl

section
variable {α : Type} {r : Rp α} {M : Nat → Prop} {h : Hp} {a : Option Addr} {cap : Nat} {l : List α}
theorem Sl.part (s : Sl r M h a cap l) (m n c : Nat) (hm : m ≤ n) (hn : n ≤ l.length) (hc : n ≤ c) (hc2 : c ≤ cap) : Sl r M h (slf a c m r.k) (c - m) ((l.take n).drop m) := by
  have hl : ((l.take n).drop m).length = n - m := by rw [List.length_drop, List.length_take]; omega
  by_cases e : m < n
  · have hn0 : l ≠ [] := by intro h; rw [h] at hn; simp at hn; omega
    have hi := s.is hn0
    rw [slf_is hi (by omega)]
    refine ⟨fun _ => rfl, fun _ => s.lt hn0, fun _ => s.ro hn0, by omega, by have := s.ln; omega, by rw [hl]; have := s.ll; omega, fun i x hx => ?_⟩
    rw [List.getElem?_drop, List.getElem?_take] at hx
    split at hx
    · obtain ⟨cs, h1, h2⟩ := s.el (m + i) x hx
      refine ⟨cs, h1, ?_⟩
      show Ck h (bk a) (of a + m * r.k + i * r.k) cs
      rw [show of a + m * r.k + i * r.k = of a + (m + i) * r.k by rw [Nat.add_mul]; omega]
      exact h2
    · cases hx
  · have e0 : (l.take n).drop m = [] := List.length_eq_zero_iff.1 (by omega)
    rw [e0]
    exact .nil (by have := s.ln; omega)
theorem Sl.from_ (s : Sl r M h a cap l) (m : Nat) (hm : m ≤ l.length) : Sl r M h (slf a cap m r.k) (cap - m) (l.drop m) := by
  have := s.part m l.length cap hm (Nat.le_refl _) s.cp (Nat.le_refl _)
  rwa [List.take_length] at this
theorem Sl.to (s : Sl r M h a cap l) (n : Nat) (hn : n ≤ l.length) : Sl r M h a cap (l.take n) := by
  have := s.part 0 n cap (Nat.zero_le _) hn (Nat.le_trans hn s.cp) (Nat.le_refl _)
  rwa [slf_zero] at this
theorem Ow.to {B : Nat} {T : TypeId} (o : Ow B T r M h a cap l) (n : Nat) : Ow B T r M h a cap (l.take n) := by
  rcases o with ⟨rfl, rfl⟩ | ⟨b, cs, rfl, hB, hb, hc, hl, h1, h2, h3, h4⟩
  · exact .inl ⟨rfl, by simp⟩
  · refine .inr ⟨b, cs, rfl, hB, hb, hc, hl, h1, by rw [List.length_take]; omega, ⟨h3.1, by rw [List.length_take]; omega⟩, fun i x hx => ?_⟩
    rw [List.getElem?_take] at hx
    split at hx
    · exact h4 i x hx
    · cases hx
end

section
variable {P : Program} {E : Env} {h : Hp} {K : Value → Hp → Prop} {ty : TypeId}
/-- A part of a slice. -/
theorem p_slfrom {t e : TypeId} {k : Nat} {x lo : Operand} {a : Option Addr} {len cap : Nat} {m : Int} {kd : IntKind} (hu : ∀ w, (underlying t).run P w = .ok (.slice e) w) (hz : ∀ w, (sizeOf e).run P w = .ok k w)
    (hx : ev E x = some (.slice a len cap)) (hlo : ev E lo = some (.int kd m)) {n : Nat} (hm : 0 ≤ m ∧ m ≤ len) (hn : n = len - m.toNat) : SP P (.slice t x (some lo) none none) ty E h (.slice (slf a cap m.toNat k) n (cap - m.toNat)) :=
  ⟨fun n' a' w o ho ht f hw => by
    subst hn
    simp [execOp, ho, f.ev hx, f.ev hlo, Instr.sliceAt, hu, Instr.slice, Instr.sliceBounds, Instr.sliceBound, asIntOf, hm, hz, slf]⟩
theorem p_slto {t e : TypeId} {k : Nat} {x hi : Operand} {a : Option Addr} {len cap : Nat} {m : Int} {kd : IntKind} (hu : ∀ w, (underlying t).run P w = .ok (.slice e) w) (hz : ∀ w, (sizeOf e).run P w = .ok k w)
    (hx : ev E x = some (.slice a len cap)) (hlo : ev E hi = some (.int kd m)) {n : Nat} (hm : 0 ≤ m ∧ m ≤ cap) (hn : n = m.toNat) : SP P (.slice t x none (some hi) none) ty E h (.slice a n cap) :=
  ⟨fun n' a' w o ho ht f hw => by
    subst hn
    have hm1 := hm.1
    have hm2 : m ≤ (cap : Int) := hm.2
    simp [execOp, ho, f.ev hx, f.ev hlo, Instr.sliceAt, hu, Instr.slice, Instr.sliceBounds, Instr.sliceBound, asIntOf, hm1, hm2, hz]
    cases a <;> simp [Addr.add]⟩
theorem p_slft {t e : TypeId} {k : Nat} {x lo hi : Operand} {a : Option Addr} {len cap : Nat} {m q : Int} {kd kd' : IntKind} (hu : ∀ w, (underlying t).run P w = .ok (.slice e) w) (hz : ∀ w, (sizeOf e).run P w = .ok k w)
    (hx : ev E x = some (.slice a len cap)) (hlo : ev E lo = some (.int kd m)) (hhi : ev E hi = some (.int kd' q)) {n : Nat} (hm : 0 ≤ m ∧ m ≤ q) (hq : q ≤ cap) (hn : n = q.toNat - m.toNat) : SP P (.slice t x (some lo) (some hi) none) ty E h (.slice (slf a cap m.toNat k) n (cap - m.toNat)) :=
  ⟨fun n' a' w o ho ht f hw => by
    subst hn
    have hq0 : 0 ≤ q := by omega
    have hmax : max q 0 = q := by omega
    simp [execOp, ho, f.ev hx, f.ev hlo, f.ev hhi, Instr.sliceAt, hu, Instr.slice, Instr.sliceBounds, Instr.sliceBound, asIntOf, hm, hq, hq0, hz, slf, hmax]⟩
theorem p_slftm {t e : TypeId} {k : Nat} {x lo hi mx : Operand} {a : Option Addr} {len cap : Nat} {m q u : Int} {kd kd' kd'' : IntKind} (hu : ∀ w, (underlying t).run P w = .ok (.slice e) w) (hz : ∀ w, (sizeOf e).run P w = .ok k w)
    (hx : ev E x = some (.slice a len cap)) (hlo : ev E lo = some (.int kd m)) (hhi : ev E hi = some (.int kd' q)) (hmx : ev E mx = some (.int kd'' u)) {n c : Nat} (hm : 0 ≤ m ∧ m ≤ q) (hq : q ≤ u ∧ u ≤ cap) (hn : n = q.toNat - m.toNat) (hc : c = u.toNat - m.toNat) : SP P (.slice t x (some lo) (some hi) (some mx)) ty E h (.slice (slf a u.toNat m.toNat k) n c) :=
  ⟨fun n' a' w o ho ht f hw => by
    subst hn hc
    have hq0 : 0 ≤ q := by omega
    have hu0 : 0 ≤ u := by omega
    have hmax : max q 0 = q := by omega
    have hmax2 : max u 0 = u := by omega
    simp [execOp, ho, f.ev hx, f.ev hlo, f.ev hhi, f.ev hmx, Instr.sliceAt, hu, Instr.slice, Instr.sliceBounds, Instr.sliceBound, asIntOf, hm, hq, hq0, hu0, hz, slf, hmax, hmax2]⟩
theorem p_sltom {t e : TypeId} {k : Nat} {x hi mx : Operand} {a : Option Addr} {len cap : Nat} {q u : Int} {kd' kd'' : IntKind} (hu : ∀ w, (underlying t).run P w = .ok (.slice e) w) (hz : ∀ w, (sizeOf e).run P w = .ok k w)
    (hx : ev E x = some (.slice a len cap)) (hhi : ev E hi = some (.int kd' q)) (hmx : ev E mx = some (.int kd'' u)) {n c : Nat} (hq : 0 ≤ q ∧ q ≤ u ∧ u ≤ cap) (hn : n = q.toNat) (hc : c = u.toNat) : SP P (.slice t x none (some hi) (some mx)) ty E h (.slice a n c) :=
  ⟨fun n' a' w o ho ht f hw => by
    subst hn hc
    have hu0 : 0 ≤ u := by omega
    have hmax : max q 0 = q := by omega
    have hmax2 : max u 0 = u := by omega
    simp [execOp, ho, f.ev hx, f.ev hhi, f.ev hmx, Instr.sliceAt, hu, Instr.slice, Instr.sliceBounds, Instr.sliceBound, asIntOf, hq, hu0, hz, hmax2]
    cases a <;> simp [Addr.add]⟩

/-- A slice of no elements, built. -/
theorem s_bs0 {t e : TypeId} {k : Nat} (hu : ∀ w, (underlying t).run P w = .ok (.slice e) w) (hk : ∀ w, (sizeOf e).run P w = .ok k w)
    (q : ∀ b h', New h h' b (.cells (([] : List Value)).toArray e) → K (.slice (some ⟨b, 0, none⟩) 0 0) h') : S P (.buildSlice t 0 #[]) ty E h K :=
  S.val fun n a' w o ho ht f hw => by
    refine ⟨_, { w with heap := w.heap.push (.cells (([] : List Value)).toArray e) }, ?_, ⟨rfl, rfl, rfl⟩, q w.heap.size _ ⟨by rw [hw], by rw [hw]⟩⟩
    have e1 : (Array.range 0).map (fun _ => (default : Value)) = #[] := by apply Array.ext' ; simp
    simp [execOp, ho, Instr.buildSlice, hu, hk, Instr.fill, newRow]
    rw [e1]
/-- A slice of m elements, built. -/
theorem s_bs {t e : TypeId} {m k : Nat} {ps : List (Nat × Operand)} {zs ws : List Value} {z : Value} (hu : ∀ w, (underlying t).run P w = .ok (.slice e) w) (hk : ∀ w, (sizeOf e).run P w = .ok k w) (hz : ∀ w, (zeroValue e).run P w = .ok z w)
    (hzs : z.cells = zs.toArray) (hmk : Nat.ble (m * k) (2 ^ 24) = true) (hm0 : Nat.blt 0 (m * k) = true) (hk0 : Nat.beq zs.length k = true)
    (hx : asm E ((List.range m).map fun i => (i * k, k)) ps ((List.range (m * k)).map fun i => zs[i % k]!) = some ws) (q : ∀ b h', New h h' b (.cells ws.toArray e) → K (.slice (some ⟨b, 0, none⟩) m m) h') :
    S P (.buildSlice t m ps.toArray) ty E h K :=
  s_bsl hu hk hz hzs (Nat.le_of_ble_eq_true hmk) (by simpa using hm0) (Nat.eq_of_beq_eq_true hk0) hx q
theorem rep_get (zs : List Value) : ∀ (n i : Nat), i < n * zs.length → (List.replicate n zs).flatten[i]? = some (zs[i % zs.length]?.getD default)
  | 0, i, h => by simp at h
  | n + 1, i, h => by
    rw [List.replicate_succ, List.flatten_cons]
    rcases Nat.lt_or_ge i zs.length with hlt | hge
    · rw [List.getElem?_append_left hlt, Nat.mod_eq_of_lt hlt]; simp [hlt]
    · rw [List.getElem?_append_right hge, rep_get zs n _ (by rw [Nat.add_mul] at h; omega)]
      have : (i - zs.length) % zs.length = i % zs.length := by
        conv => rhs; rw [show i = i - zs.length + zs.length by omega]
        simp
      rw [this]
/-- make. -/
theorem s_mk {t e : TypeId} {k : Nat} {x y : Operand} {n c : Int} {kx ky : IntKind} {ei : TypeInfo} {zs : List Value} {z : Value} (hu : ∀ w, (underlying t).run P w = .ok (.slice e) w) (hk : ∀ w, (sizeOf e).run P w = .ok k w) (hti : ∀ w, (typeInfo e).run P w = .ok ei w)
    (hz : ∀ w, (zeroValue e).run P w = .ok z w) (hzs : z.cells = zs.toArray) (hk0 : Nat.beq zs.length k = true) (hkp : Nat.blt 0 k = true) (hby : Nat.ble ei.bytes 10000 = true) (hx : ev E x = some (.int kx n)) (hy : ev E y = some (.int ky c))
    (hn : 0 ≤ n ∧ n ≤ c ∧ c ≤ 1000000000) {n' c' : Nat} (hn' : n' = n.toNat) (hc' : c' = c.toNat) (q : ∀ b h', New h h' b (.cells ((List.replicate c' zs).flatten).toArray e) → K (.slice (some ⟨b, 0, none⟩) n' c') h') :
    S P (.makeSlice t x y) ty E h K :=
  S.val fun nn a' w o ho ht f hw => by
    subst hn' hc'
    have hzl : zs.length = k := Nat.eq_of_beq_eq_true hk0
    have hkp' : 0 < k := by simpa using hkp
    have hby' := Nat.le_of_ble_eq_true hby
    have w1 : IntKind.i64.wrap n = n := wrap_i64 (by omega)
    have w2 : IntKind.i64.wrap c = c := wrap_i64 (by omega)
    have hb : (ei.bytes : Int) * c ≤ 281474976710656 := by
      have h1 : (ei.bytes : Int) ≤ 10000 := by omega
      have : (ei.bytes : Int) * c ≤ 10000 * 1000000000 := Int.mul_le_mul h1 (by omega) (by omega) (by omega)
      omega
    have hcells : (Array.range (c.toNat * k)).map (fun x => zs.toArray[x % zs.toArray.size]!) = ((List.replicate c.toNat zs).flatten).toArray := by
      apply Array.ext'
      apply List.ext_getElem?
      intro i
      show _ = (List.replicate c.toNat zs).flatten[i]?
      by_cases hi : i < c.toNat * k
      · rw [rep_get zs _ _ (by rw [hzl]; exact hi)]
        have hm : i % k < zs.length := by rw [hzl]; exact Nat.mod_lt _ hkp'
        simp [hi, hzl]
      · have hlen : ((List.replicate c.toNat zs).flatten).length = c.toNat * zs.length := by simp
        rw [List.getElem?_eq_none (by simp; omega), List.getElem?_eq_none (by rw [hlen, hzl]; omega)]
    have c1 : ¬ c < 0 := by omega
    have c2 : ¬ n < 0 := by omega
    have c3 : ¬ c < n := by omega
    have c4 : ¬ 281474976710656 < (ei.bytes : Int) * c := by omega
    refine ⟨_, { w with heap := w.heap.push (.cells ((List.replicate c.toNat zs).flatten).toArray e) }, ?_, ⟨rfl, rfl, rfl⟩, q w.heap.size _ ⟨by rw [hw], by rw [hw]⟩⟩
    rw [← hcells]
    by_cases h0 : c.toNat * k = 0
    · rw [h0]
      simp [execOp, ho, f.ev hx, f.ev hy, Instr.makeSlice, hu, hti, hk, asInt, asIntOf, newRow, w1, w2, askRoom, c1, c2, c3, c4, h0]
      congr 2
      apply Array.ext' ; simp
    · simp [execOp, ho, f.ev hx, f.ev hy, Instr.makeSlice, hu, hti, hk, asInt, asIntOf, newRow, w1, w2, askRoom, c1, c2, c3, c4, h0, hz, hzs]
end
end Go.Lx
