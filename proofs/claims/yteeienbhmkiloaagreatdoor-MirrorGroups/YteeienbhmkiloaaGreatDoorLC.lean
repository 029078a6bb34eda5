import Derived.Test.YteeienbhmkiloaaGreatDoorLB
set_option linter.unusedSimpArgs false
set_option linter.unusedVariables false
namespace Go.Lx

def bk (a : Option Addr) : Nat := (a.getD default).block
def of (a : Option Addr) : Nat := (a.getD default).off
/-- An address that is there. -/
def Is (a : Option Addr) : Prop := a = some ⟨bk a, of a, none⟩
theorem Is.mk (b o : Nat) : Is (some ⟨b, o, none⟩) := rfl

theorem add_eq (b o n : Nat) : (Addr.mk b o none).add n = ⟨b, o + n, none⟩ := by
  unfold Addr.add
  split
  · rename_i h; subst h; rfl
  · rfl

def evp (E : Env) : List (Nat × Operand) → Option (List (Nat × Value))
  | [] => some []
  | (i, x) :: r => match ev E x, evp E r with
    | some v, some vs => some ((i, v) :: vs)
    | _, _ => none

theorem Fits.evp {n : Nat} {a : Act} {E : Env} (h : Fits n a E) : ∀ {xs : List (Nat × Operand)} {vs : List (Nat × Value)}, evp E xs = some vs → xs.map (fun (i, x) => (i, a.eval x)) = vs
  | [], vs, hx => by simp only [Lx.evp, Option.some.injEq] at hx; subst hx; rfl
  | (i, x) :: r, vs, hx => by
    simp only [Lx.evp] at hx
    cases h1 : Lx.ev E x with
    | none => rw [h1] at hx; simp at hx
    | some v =>
      cases h2 : Lx.evp E r with
      | none => rw [h1, h2] at hx; simp at hx
      | some us =>
        rw [h1, h2] at hx
        simp only [Option.some.injEq] at hx
        subst hx
        simp only [List.map_cons, h.ev h1, h.evp h2]

section
variable {P : Program} {E : Env} {h : Hp} {K : Value → Hp → Prop} {ty : TypeId}

theorem p_len {t e : TypeId} {x : Operand} {a : Option Addr} {len cap : Nat} (hu : ∀ w, (underlying t).run P w = .ok (.slice e) w) (hx : ev E x = some (.slice a len cap)) : SP P (.call ⟨.builtin .len, #[x], #[t]⟩) ty E h (.int .i64 len) :=
  ⟨fun n a w o ho ht f hw => by simp [execOp, ho, resolve, invoke, builtin, Builtin.len_, f.ev hx, hu, goInt]⟩
theorem p_lenstr {t : TypeId} {x : Operand} {s : ByteArray} (hu : ∀ w, (underlying t).run P w = .ok .string w) (hx : ev E x = some (.string s)) : SP P (.call ⟨.builtin .len, #[x], #[t]⟩) ty E h (.int .i64 s.size) :=
  ⟨fun n a w o ho ht f hw => by simp [execOp, ho, resolve, invoke, builtin, Builtin.len_, f.ev hx, hu, goInt]⟩
theorem p_lenarr {t e : TypeId} {m : Nat} {x : Operand} {v : Value} (hu : ∀ w, (underlying t).run P w = .ok (.array m e) w) (hx : ev E x = some v) : SP P (.call ⟨.builtin .len, #[x], #[t]⟩) ty E h (.int .i64 m) :=
  ⟨fun n a w o ho ht f hw => by simp [execOp, ho, resolve, invoke, builtin, Builtin.len_, hu, goInt]⟩
theorem p_idx {t e : TypeId} {k : Nat} {x i : Operand} {a : Option Addr} {len cap : Nat} {ki : IntKind} {m : Int} (hu : ∀ w, (underlying t).run P w = .ok (.slice e) w) (hz : ∀ w, (sizeOf e).run P w = .ok k w)
    (hx : ev E x = some (.slice a len cap)) (hi : ev E i = some (.int ki m)) (hm : 0 ≤ m ∧ m < len) (ha : Is a) : SP P (.indexAddr t x i) ty E h (.pointer (some ⟨bk a, of a + m.toNat * k, none⟩)) :=
  ⟨fun n a' w o ho ht f hw => by
    have e1 : a = some ⟨bk a, of a, none⟩ := ha
    generalize bk a = b at *
    generalize of a = d at *
    subst e1
    simp [execOp, ho, f.ev hx, f.ev hi, Instr.indexAt, asIntOf, hu, hz, hm, add_eq]⟩
theorem p_idxa {t e : TypeId} {k len : Nat} {x i : Operand} {b d : Nat} {ki : IntKind} {m : Int} (hu : ∀ w, (underlying t).run P w = .ok (.array len e) w) (hz : ∀ w, (sizeOf e).run P w = .ok k w)
    (hx : ev E x = some (.pointer (some ⟨b, d, none⟩))) (hi : ev E i = some (.int ki m)) (hm : 0 ≤ m ∧ m < len) : SP P (.indexAddr t x i) ty E h (.pointer (some ⟨b, d + m.toNat * k, none⟩)) :=
  ⟨fun n a' w o ho ht f hw => by
    simp [execOp, ho, f.ev hx, f.ev hi, Instr.indexAt, asIntOf, hu, hz, hm, add_eq, Instr.sureAddr]⟩
theorem p_fld {s : TypeId} {fs : Array Field} {j k off : Nat} {fd : Field} {x : Operand} {b d : Nat} (hu : ∀ w, (underlying s).run P w = .ok (.struct fs) w) (hf : fs[j]? = some fd) (hz : ∀ w, (sizeOf fd.type).run P w = .ok k w) (hk : k ≠ 0)
    (ho : fd.offset = off) (hx : ev E x = some (.pointer (some ⟨b, d, none⟩))) : SP P (.fieldAddr s x j) ty E h (.pointer (some ⟨b, d + off, none⟩)) :=
  ⟨fun n a' w o ho' ht f hw => by
    simp [execOp, ho', f.ev hx, Instr.fieldAt, hu, hf, hz, hk, ho, add_eq, Instr.sureAddr, fieldPlace]⟩
theorem p_nc {x : Operand} {a : Addr} (hx : ev E x = some (.pointer (some a))) : SP P (.nilCheck x) ty E h (.pointer (some a)) :=
  ⟨fun n a' w o ho ht f hw => by simp [execOp, ho, f.ev hx]⟩
theorem p_ld {t : TypeId} {x : Operand} {b d : Nat} {v : Value} (hg : ∀ w, (isAgg t).run P w = .ok false w) (hx : ev E x = some (.pointer (some ⟨b, d, none⟩))) (hc : cel h b d = some v) : SP P (.load t x) ty E h (v) :=
  ⟨fun n a' w o ho ht f hw => by
    have := cell_cel hw b d
    simp [execOp, ho, f.ev hx, Instr.loadAt, Instr.sureAddr, loadVar, hg, this, hc]⟩
theorem run_loadCellsFrom {w : World} {b d : Nat} (hw : w.heap = h) : ∀ (vs : List Value) (i : Nat) (acc : Array Value), (∀ j v, vs[j]? = some v → cel h b (d + (i + j)) = some v) →
    (loadCellsFrom ⟨b, d, none⟩ i vs.length acc).run P w = .ok (acc ++ vs.toArray) w
  | [], i, acc, _ => by simp [loadCellsFrom]
  | v :: r, i, acc, hc => by
    have h0 := hc 0 v rfl
    have ih := run_loadCellsFrom hw r (i + 1) (acc.push v) (fun j u hu => by
      have := hc (j + 1) u (by simpa using hu)
      rw [show i + 1 + j = i + (j + 1) by omega]; exact this)
    have hc' := cell_cel hw b (d + i)
    simp only [Nat.add_zero] at h0
    simp [loadCellsFrom, add_eq, hc', h0, ih]

/-- A struct or an array read whole. -/
theorem p_lda {t : TypeId} {x : Operand} {b d : Nat} {vs : List Value} (hg : ∀ w, (isAgg t).run P w = .ok true w) (hx : ev E x = some (.pointer (some ⟨b, d, none⟩)))
    (hc : ∀ j v, vs[j]? = some v → cel h b (d + j) = some v) (hz : ∀ w, (sizeOf t).run P w = .ok vs.length w) : SP P (.load t x) ty E h (.agg vs.toArray) :=
  ⟨fun n a' w o ho ht f hw => by
    have := run_loadCellsFrom (P := P) (b := b) (d := d) hw vs 0 #[] (by simpa using hc)
    simp [execOp, ho, f.ev hx, Instr.loadAt, Instr.sureAddr, loadVar, hg, hz, loadCells, this]⟩
/-- A result that lies in memory. -/
theorem ret_cell {t a : Nat} {b d : Nat} {vs : List Value} (hg : ∀ w, (isAgg t).run P w = .ok true w) (hx : look E a = some (.pointer (some ⟨b, d, none⟩)))
    (hc : ∀ j v, vs[j]? = some v → cel h b (d + j) = some v) (hz : ∀ w, (sizeOf t).run P w = .ok vs.length w) : RetOk P E h (.cell a t) (.agg vs.toArray) :=
  ⟨_, hx, fun w hw => by
    have := run_loadCellsFrom (P := P) (b := b) (d := d) hw vs 0 #[] (by simpa using hc)
    simp [loadVar, hg, hz, loadCells, this]⟩
theorem ret_cell1 {t a : Nat} {b d : Nat} {v : Value} (hg : ∀ w, (isAgg t).run P w = .ok false w) (hx : look E a = some (.pointer (some ⟨b, d, none⟩))) (hc : cel h b d = some v) : RetOk P E h (.cell a t) v :=
  ⟨_, hx, fun w hw => by
    have := cell_cel hw b d
    simp [loadVar, hg, this, hc]⟩

theorem heap_setCell {w : World} {b d : Nat} {v : Value} {cs : List Value} {T : TypeId} (hb : Bl w.heap b cs T) : (w.setCell ⟨b, d, none⟩ v).heap = w.heap.setIfInBounds b (.cells (cs.set d v).toArray T (0, 0)) := by
  simp only [World.setCell]
  apply Array.ext_getElem?
  intro i
  rw [Array.getElem?_modify, Array.getElem?_setIfInBounds]
  split
  · rename_i e; subst e
    rw [if_pos hb.lt, show w.heap[b]? = _ from hb]
    simp
  · rfl

theorem not_frozen {w : World} {b d : Nat} {cs : List Value} {T : TypeId} (hb : Bl w.heap b cs T) : w.frozen? ⟨b, d, none⟩ = false := by
  simp [World.frozen?, show w.heap[b]? = _ from hb]

theorem Bl.upd {h : Hp} {b d : Nat} {v : Value} {cs : List Value} {T : TypeId} (hb : Bl h b cs T) : Upd h (h.setIfInBounds b (.cells (cs.set d v).toArray T (0, 0))) b (cs.set d v) T := Upd.of hb.lt

/-- A value of one cell stored. -/
theorem s_st {t : TypeId} {x y : Operand} {b d : Nat} {v : Value} {cs : List Value} {T : TypeId} (hz : ∀ w, (sizeOf t).run P w = .ok 1 w) (hx : ev E x = some (.pointer (some ⟨b, d, none⟩))) (hy : ev E y = some v) (hv : v.oneCell' = true)
    (hb : Bl h b cs T) (hd : d < cs.length) (q : ∀ h', Upd h h' b (cs.set d v) T → K undef h') : S P (.store t x y) ty E h K :=
  S.skip fun n a' w o ho ht f hw => by
    subst hw
    have hc : w.cell? ⟨b, d, none⟩ = some cs[d] := by rw [cell_cel rfl, hb.cel]; simp [hd]
    have hs : (store ⟨b, d, none⟩ v).run P w = .ok () (w.setCell ⟨b, d, none⟩ v) := by
      rw [run_store P w _ v _ hv, hc]
      simp only [not_frozen hb]
      rfl
    have hcells : v.cells = #[v] := by cases v <;> first | rfl | (simp [Value.oneCell'] at hv)
    refine ⟨w.setCell ⟨b, d, none⟩ v, ?_, ⟨rfl, rfl, rfl⟩, q _ (heap_setCell hb ▸ hb.upd)⟩
    have ha : (Addr.mk b d none).add 0 = ⟨b, d, none⟩ := rfl
    simp [execOp, ho, f.ev hx, f.ev hy, Instr.storeAt, Instr.sureAddr, storeVar, hz, hcells, storeCells, ha, hs]

theorem splice_step (cs r : List Value) (v : Value) (k : Nat) (hk : k < cs.length) : (cs.set k v).take (k + 1) ++ r ++ (cs.set k v).drop (k + 1 + r.length) = cs.take k ++ (v :: r) ++ cs.drop (k + 1 + r.length) := by
  have e : cs.set k v = cs.take k ++ v :: cs.drop (k + 1) := by rw [List.set_eq_take_append_cons_drop, if_pos hk]
  have hl : (cs.take k).length = k := by simp; omega
  have e1 : (cs.set k v).take (k + 1) = cs.take k ++ [v] := by
    rw [e, List.take_append, hl, List.take_of_length_le (by omega)]
    simp
  have e2 : (cs.set k v).drop (k + 1 + r.length) = cs.drop (k + 1 + r.length) := by
    rw [List.drop_set, if_pos (by omega)]
  rw [e1, e2]
  simp

theorem run_storeCells {b : Nat} {T : TypeId} : ∀ (vs : List Value) (i d : Nat) (cs : List Value) (w : World), Bl w.heap b cs T → (∀ v ∈ vs, v.oneCell' = true) → d + i + vs.length ≤ cs.length →
    ∃ w', (storeCells ⟨b, d, none⟩ vs i).run P w = .ok () w' ∧ Io w w' ∧ Upd w.heap w'.heap b (cs.take (d + i) ++ vs ++ cs.drop (d + i + vs.length)) T
  | [], i, d, cs, w, hb, _, _ => by
    refine ⟨w, rfl, Io.refl w, ?_⟩
    simp only [List.append_nil, List.length_nil, Nat.add_zero, List.take_append_drop]
    exact ⟨hb, fun _ _ => rfl, rfl⟩
  | v :: r, i, d, cs, w, hb, hv, hl => by
    simp only [List.length_cons] at hl
    have hv1 := hv v (List.mem_cons_self ..)
    have hc : w.cell? ⟨b, d + i, none⟩ = some cs[d + i] := by rw [cell_cel rfl, hb.cel]; simp
    have hs : (store ⟨b, d + i, none⟩ v).run P w = .ok () (w.setCell ⟨b, d + i, none⟩ v) := by
      rw [run_store P w _ v _ hv1, hc]
      simp only [not_frozen hb]
      rfl
    have hb1 : Bl (w.setCell ⟨b, d + i, none⟩ v).heap b (cs.set (d + i) v) T := by rw [heap_setCell hb]; exact hb.upd.bl
    obtain ⟨w', hr, hi, hu⟩ := run_storeCells r (i + 1) d (cs.set (d + i) v) _ hb1 (fun u hu => hv u (List.mem_cons_of_mem _ hu)) (by simp; omega)
    refine ⟨w', ?_, ⟨hi.1, hi.2.1, hi.2.2⟩, ?_⟩
    · simp [storeCells, add_eq, hs, hr]
    · refine ⟨?_, fun k hk => ?_, ?_⟩
      · have := hu.bl
        have e := splice_step cs r v (d + i) (by omega)
        have e2 : d + (i + 1) = d + i + 1 := by omega
        have e3 : d + i + (v :: r).length = d + i + 1 + r.length := by simp; omega
        rw [e2, e] at this
        rw [e3]
        exact this
      · rw [hu.keep k hk, heap_setCell hb, Array.getElem?_setIfInBounds, if_neg (Ne.symm hk)]
      · rw [hu.size, heap_setCell hb]; simp

/-- A struct or an array stored. -/
theorem s_sta {t : TypeId} {x y : Operand} {b d : Nat} {vs cs : List Value} {T : TypeId} (hx : ev E x = some (.pointer (some ⟨b, d, none⟩))) (hy : ev E y = some (.agg vs.toArray)) (hz : ∀ w, (sizeOf t).run P w = .ok vs.length w)
    (hv : vs.all Value.oneCell' = true) (hb : Bl h b cs T) (hd : Nat.ble (d + vs.length) cs.length = true) (q : ∀ h', Upd h h' b (cs.take d ++ vs ++ cs.drop (d + vs.length)) T → K undef h') : S P (.store t x y) ty E h K :=
  S.skip fun n a' w o ho ht f hw => by
    subst hw
    obtain ⟨w', hr, hi, hu⟩ := run_storeCells (P := P) vs 0 d cs w hb (fun v hm => List.all_eq_true.1 hv v hm) (by have := Nat.le_of_ble_eq_true hd; omega)
    refine ⟨w', ?_, hi, q _ (by simpa using hu)⟩
    simp [execOp, ho, f.ev hx, f.ev hy, Instr.storeAt, Instr.sureAddr, storeVar, hz, Value.cells, hr]

theorem s_al {t : TypeId} {v : Value} {cs : List Value} (hz : ∀ w, (zeroValue t).run P w = .ok v w) (hv : v.cells = cs.toArray) (q : ∀ b h', New h h' b (.cells cs.toArray t) → K (.pointer (some ⟨b, 0, none⟩)) h') : S P (.alloc t) ty E h K :=
  S.val fun n a' w o ho ht f hw => by
    refine ⟨_, { w with heap := w.heap.push (.cells cs.toArray t) }, ?_, ⟨rfl, rfl, rfl⟩, q w.heap.size _ ⟨by rw [hw], by rw [hw]⟩⟩
    simp [execOp, ho, Instr.alloc, hz, newVar, newRow, hv]
theorem s_box {t : TypeId} {x : Operand} {v : Value} {cs : List Value} (hx : ev E x = some v) (hv : v.cells = cs.toArray) (q : ∀ b h', New h h' b (.cells cs.toArray t) → K (.pointer (some ⟨b, 0, none⟩)) h') : S P (.box t x) ty E h K :=
  S.val fun n a' w o ho ht f hw => by
    refine ⟨_, { w with heap := w.heap.push (.cells cs.toArray t) }, ?_, ⟨rfl, rfl, rfl⟩, q w.heap.size _ ⟨by rw [hw], by rw [hw]⟩⟩
    simp [execOp, ho, Instr.box, newVar, newRow, f.ev hx, hv]

theorem p_bd {t : TypeId} {ps : List (Nat × Operand)} {vs : List (Nat × Value)} {v : Value} (hx : evp E ps = some vs) (hr : ∀ w, (Instr.build t vs.toArray).run P w = .ok v w) : SP P (.build t ps.toArray) ty E h (v) :=
  ⟨fun n a' w o ho ht f hw => by
    have := f.evp hx
    simp [execOp, ho]
    rw [show (List.map (fun x => (x.fst, a'.eval x.snd)) ps) = vs from this, hr]
    rfl⟩
theorem p_mf {fn : Fn} {xs ys : List Operand} {us vs : List Value} (hx : evs E xs = some us) (hy : evs E ys = some vs) : SP P (.makeFunc fn xs.toArray ys.toArray) ty E h (.func fn us.toArray vs.toArray) :=
  ⟨fun n a' w o ho ht f hw => by
    have e1 := f.evs hx
    have e2 := f.evs hy
    simp [execOp, ho, Instr.makeFunc, e1, e2]⟩
theorem p_ex {x : Operand} {j : Nat} {vs : Array Value} {v : Value} (hx : ev E x = some (.tuple vs)) (hj : vs[j]? = some v) : SP P (.extract x j) ty E h (v) :=
  ⟨fun n a' w o ho ht f hw => by simp [execOp, ho, f.ev hx, Instr.extract, hj]⟩
theorem S.enter {f : FuncId} {vs : List Value} {R : Value → Hp → Prop} {op : Op} (hr : ∀ n a w (o : Oper), o.op = op → Fits n a E → (execOp a.eval o).run P w = .ok (.enter f vs.toArray) w) (c : C P f vs h R) (q : ∀ v h', R v h' → K v h') : S P op ty E h K :=
  ⟨fun m n a w o K' Q ho ht f' hw hk => by
    have hrun := hr n a w o ho f'
    cases m with
    | inn ro =>
      show o.wpIn (fw ro) 0 P a w K' Q
      unfold Oper.wpIn
      refine ⟨fun _ _ => trivial, ?_⟩
      rw [Oper.semAt_eq _ _ _ (not_defer hrun (by nofun)), hrun]
      refine ⟨fun h => by simp [fw, Fence.wide] at h, calls_fw.2 ?_⟩
      refine (c.run w hw).mono fun e w' ⟨v, he, hi, hR⟩ => ?_
      subst he
      exact hk v w' hi (q _ _ hR)
    | pl =>
      show o.wp P a w K' Q
      unfold Oper.wp
      rw [hrun]
      refine (c.run w hw).mono fun e w' ⟨v, he, hi, hR⟩ => ?_
      subst he
      exact hk v w' hi (q _ _ hR)⟩

theorem s_call {f : FuncId} {xs : List Operand} {vs : List Value} {ts : Array TypeId} {R : Value → Hp → Prop} (hf : ∀ (args : Array Value) w, (callFunc f args).run P w = .ok (.enter f args) w) (hx : evs E xs = some vs) (c : C P f vs h R) (q : ∀ v h', R v h' → K v h') :
    S P (.call ⟨.value (.func f), xs.toArray, ts⟩) ty E h K :=
  S.enter (fun n a w o ho f' => by
    have e := f'.evs hx
    have eg : a.eval (.func f) = .func (.func f) #[] #[] := rfl
    simp only [execOp, ho, resolve, eg, Deferred.ofValue, List.map_toArray, e]
    simp [invoke, hf]) c q

/-- A call of a function value. -/
theorem s_cv {g : Operand} {f : FuncId} {us cs : List Value} {xs : List Operand} {vs : List Value} {ts : Array TypeId} {R : Value → Hp → Prop} (hf : ∀ (args : Array Value) w, (callFunc f args).run P w = .ok (.enter f args) w)
    (hg : ev E g = some (.func (.func f) us.toArray cs.toArray)) (hx : evs E xs = some vs) (c : C P f (us ++ vs ++ cs) h R) (q : ∀ v h', R v h' → K v h') :
    S P (.call ⟨.value g, xs.toArray, ts⟩) ty E h K :=
  S.enter (fun n a w o ho f' => by
    have e := f'.evs hx
    have eg := f'.ev hg
    simp only [execOp, ho, resolve, eg, Deferred.ofValue, List.map_toArray, e]
    simp [invoke, hf]) c q
end
end Go.Lx
