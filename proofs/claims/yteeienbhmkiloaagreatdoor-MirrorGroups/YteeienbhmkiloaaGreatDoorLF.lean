import Derived.Test.YteeienbhmkiloaaGreatDoorLE
set_option linter.unusedSimpArgs false
set_option linter.unusedVariables false
namespace Go.Lx

/-! ### Structs and arrays built -/
def spl (cs : List Value) (off : Nat) : List Value → List Value
  | [] => cs
  | v :: r => spl (cs.set off v) (off + 1) r

theorem spl_fold : ∀ (vs : List Value) (cs : List Value) (off j : Nat), (vs.zipIdx j).foldl (fun (cs : Array Value) (x : Value × Nat) => cs.setIfInBounds (off + x.2) x.1) cs.toArray = (spl cs (off + j) vs).toArray
  | [], cs, off, j => rfl
  | v :: r, cs, off, j => by
    simp only [List.zipIdx_cons, List.foldl_cons, spl]
    have := spl_fold r (cs.set (off + j) v) off (j + 1)
    rw [show off + (j + 1) = off + j + 1 by omega] at this
    rw [← this]
    simp

theorem spl_length : ∀ (vs : List Value) (cs : List Value) (off : Nat), (spl cs off vs).length = cs.length
  | [], _, _ => rfl
  | v :: r, cs, off => by simp only [spl]; rw [spl_length r]; simp

/-- The cells of what is built: parts put over the zero's cells. -/
def asm (E : Env) (pl : List (Nat × Nat)) : List (Nat × Operand) → List Value → Option (List Value)
  | [], zs => some zs
  | (i, x) :: r, zs => match ev E x, pl[i]? with
    | some v, some (off, sz) => match Nat.beq v.cells.toList.length sz, Nat.ble (off + sz) zs.length with
      | true, true => asm E pl r (spl zs off v.cells.toList)
      | _, _ => none
    | _, _ => none

theorem fill_asm {n : Nat} {a : Act} {E : Env} (f : Fits n a E) {pl : List (Nat × Nat)} {place : Nat → Option (Nat × Nat)} (hp : ∀ i o, pl[i]? = some o → place i = some o) : ∀ (ps : List (Nat × Operand)) (zs ws : List Value), asm E pl ps zs = some ws →
    Instr.fill place zs.toArray (ps.map fun p => (p.1, a.eval p.2)) = some ws.toArray
  | [], zs, ws, h => by simp only [asm, Option.some.injEq] at h; subst h; rfl
  | (i, x) :: r, zs, ws, h => by
    simp only [asm] at h
    cases h1 : ev E x with
    | none => rw [h1] at h; simp at h
    | some v =>
      cases h2 : pl[i]? with
      | none => rw [h1, h2] at h; simp at h
      | some o =>
        obtain ⟨off, sz⟩ := o
        rw [h1, h2] at h
        simp only at h
        cases h3 : Nat.beq v.cells.toList.length sz with
        | false => rw [h3] at h; simp at h
        | true =>
          cases h4 : Nat.ble (off + sz) zs.length with
          | false => rw [h3, h4] at h; simp at h
          | true =>
            rw [h3, h4] at h
            simp only at h
            have e3 := Nat.eq_of_beq_eq_true h3
            have e4 := Nat.le_of_ble_eq_true h4
            simp only [Array.length_toList] at e3
            simp only [List.map_cons, Instr.fill, f.ev h1, hp i _ h2]
            rw [if_neg (by simp [e3]; omega)]
            have ih := fill_asm f hp r _ ws h
            rw [← ih]
            congr 1
            have := spl_fold v.cells.toList zs off 0
            rw [Nat.add_zero] at this
            rw [← this]
            rw [← Array.foldl_toList, Array.toList_zipIdx]

section
variable {P : Program} {E : Env} {h : Hp} {K : Value → Hp → Prop} {ty : TypeId}

/-- A struct built. 'pl': the fields' places. -/
theorem p_bs {t : TypeId} {ps : List (Nat × Operand)} {pl : List (Nat × Nat)} {fs : Array Field} {zs ws : List Value} (hu : ∀ w, (underlying t).run P w = .ok (.struct fs) w) (hz : ∀ w, (zeroValue t).run P w = .ok (.agg zs.toArray) w)
    (hpl : ∀ w, (fs.mapM (fun f => do return (f.offset, ← sizeOf f.type)) : Sem (Array (Nat × Nat))).run P w = .ok pl.toArray w) (hx : asm E pl ps zs = some ws) : SP P (.build t ps.toArray) ty E h (.agg ws.toArray) :=
  ⟨fun n a' w o ho ht f hw => by
    have := fill_asm f (place := fun i => pl[i]?) (fun i o ho => ho) ps zs ws hx
    have hpl' := hpl w
    simp only [execOp, ho, Instr.build, Sem.run_bind, hz, Result.andThen_ok, hu, Value.cells, hpl']
    simp [this]⟩
/-- An array built. -/
theorem p_ba {t e : TypeId} {m k : Nat} {ps : List (Nat × Operand)} {zs ws : List Value} (hu : ∀ w, (underlying t).run P w = .ok (.array m e) w) (hz : ∀ w, (zeroValue t).run P w = .ok (.agg zs.toArray) w)
    (hk : ∀ w, (sizeOf e).run P w = .ok k w) (hx : asm E ((List.range m).map fun i => (i * k, k)) ps zs = some ws) : SP P (.build t ps.toArray) ty E h (.agg ws.toArray) :=
  ⟨fun n a' w o ho ht f hw => by
    have := fill_asm f (place := fun i => some (i * k, k)) (fun i o ho => by
      simp only [List.getElem?_map] at ho
      cases hr : (List.range m)[i]? with
      | none => rw [hr] at ho; simp at ho
      | some j =>
        rw [hr] at ho
        have : i = j := by
          rw [List.getElem?_eq_some_iff] at hr
          obtain ⟨h1, h2⟩ := hr
          simpa using h2
        subst this
        simpa using ho) ps zs ws hx
    simp [execOp, ho, Instr.build, hz, hu, Value.cells, hk, this]⟩

/-- A slice built out of its elements. -/
theorem s_bsl {t e : TypeId} {m k : Nat} {ps : List (Nat × Operand)} {zs ws : List Value} {z : Value} (hu : ∀ w, (underlying t).run P w = .ok (.slice e) w) (hk : ∀ w, (sizeOf e).run P w = .ok k w) (hz : ∀ w, (zeroValue e).run P w = .ok z w)
    (hzs : z.cells = zs.toArray) (hmk : m * k ≤ 2 ^ 24) (hm0 : 0 < m * k) (hk0 : zs.length = k)
    (hx : asm E ((List.range m).map fun i => (i * k, k)) ps ((List.range (m * k)).map fun i => zs[i % k]!) = some ws) (q : ∀ b h', New h h' b (.cells ws.toArray e) → K (.slice (some ⟨b, 0, none⟩) m m) h') :
    S P (.buildSlice t m ps.toArray) ty E h K :=
  S.val fun n a' w o ho ht f hw => by
    have := fill_asm f (place := fun i => some (i * k, k)) (fun i o ho => by
      simp only [List.getElem?_map] at ho
      cases hr : (List.range m)[i]? with
      | none => rw [hr] at ho; simp at ho
      | some j =>
        rw [hr] at ho
        have : i = j := by
          rw [List.getElem?_eq_some_iff] at hr
          obtain ⟨h1, h2⟩ := hr
          simpa using h2
        subst this
        simpa using ho) ps _ ws hx
    refine ⟨_, { w with heap := w.heap.push (.cells ws.toArray e) }, ?_, ⟨rfl, rfl, rfl⟩, q w.heap.size _ ⟨by rw [hw], by rw [hw]⟩⟩
    have e1 : (Array.range (m * k)).map (fun x => (zs.toArray)[x % zs.toArray.size]!) = ((List.range (m * k)).map fun i => zs[i % k]!).toArray := by
      apply Array.ext'
      simp [← hk0]
    have e3 : ¬ m * k = 0 := by omega
    have e4 : ¬ m * k > 2 ^ 24 := by omega
    have e5 : Array.map (fun x => match x with | (i, x) => (i, a'.eval x)) ps.toArray = (ps.map fun p => (p.1, a'.eval p.2)).toArray := by simp
    simp only [execOp, ho, Instr.buildSlice, Sem.run_bind, hu, hk, Result.andThen_ok, Sem.run_ite, if_neg e4, if_neg e3, hz, hzs, Sem.run_pure, e1, e5, this]
    simp [newRow]
end
end Go.Lx
