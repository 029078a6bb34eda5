import Derived.Test.YteeienbhmkiloaaGreatDoorLA
set_option linter.unusedSimpArgs false
set_option linter.unusedVariables false
namespace Go.Lx

/-! ### The heap -/
def cel (h : Hp) (b o : Nat) : Option Value := match h[b]? with
  | some (.cells c _ _) => c[o]?
  | _ => none

theorem cell_cel {w : World} {h : Hp} (hw : w.heap = h) (b o : Nat) : w.cell? ⟨b, o, none⟩ = cel h b o := by
  subst hw
  unfold World.cell? cel
  cases w.heap[b]? with
  | none => simp
  | some x => cases x <;> simp

/-- Block b is a row of these cells, that may be written. -/
def Bl (h : Hp) (b : Nat) (cs : List Value) (T : TypeId) : Prop := h[b]? = some (.cells cs.toArray T (0, 0))

/-- Kept: all blocks that were there, but those of S. -/
structure Kp (S : Nat → Prop) (h h' : Hp) : Prop where
  size : h.size ≤ h'.size
  keep : ∀ k, k < h.size → ¬ S k → h'[k]? = h[k]?

abbrev Ext (h h' : Hp) : Prop := Kp (fun _ => False) h h'

theorem Kp.refl (S : Nat → Prop) (h : Hp) : Kp S h h := ⟨Nat.le_refl _, fun _ _ _ => rfl⟩
theorem Ext.refl (h : Hp) : Ext h h := Kp.refl _ h
theorem Kp.trans {S : Nat → Prop} {a b c : Hp} (x : Kp S a b) (y : Kp S b c) : Kp S a c :=
  ⟨Nat.le_trans x.size y.size, fun k hk hs => (y.keep k (Nat.lt_of_lt_of_le hk x.size) hs).trans (x.keep k hk hs)⟩
theorem Kp.mono {S S' : Nat → Prop} {a b : Hp} (x : Kp S a b) (hs : ∀ k, k < a.size → S k → S' k) : Kp S' a b :=
  ⟨x.size, fun k hk hn => x.keep k hk fun h => hn (hs k hk h)⟩
theorem Kp.of_ext {S : Nat → Prop} {a b : Hp} (x : Ext a b) : Kp S a b := x.mono fun _ _ h => h.elim
/-- What is written lies above all that was there at first. -/
theorem Kp.own {S S' : Nat → Prop} {a b c : Hp} (x : Kp S a b) (y : Kp S' b c) (hs : ∀ k, k < a.size → S' k → S k) : Kp S a c :=
  ⟨Nat.le_trans x.size y.size, fun k hk hn => (y.keep k (Nat.lt_of_lt_of_le hk x.size) fun h => hn (hs k hk h)).trans (x.keep k hk hn)⟩

theorem lt_of_some {h : Hp} {b : Nat} {o : Obj} (hb : h[b]? = some o) : b < h.size := by
  rcases Nat.lt_or_ge b h.size with k | k
  · exact k
  · rw [Array.getElem?_eq_none k] at hb; cases hb

theorem cel_lt {h : Hp} {b o : Nat} {v : Value} (hc : cel h b o = some v) : b < h.size := by
  unfold cel at hc
  cases hh : h[b]? with
  | none => rw [hh] at hc; cases hc
  | some x => exact lt_of_some hh

theorem Kp.cel' {S : Nat → Prop} {h h' : Hp} (x : Kp S h h') {b : Nat} (hb : b < h.size) (hs : ¬ S b) (o : Nat) : cel h' b o = cel h b o := by
  unfold cel; rw [x.keep b hb hs]
theorem Kp.cel {S : Nat → Prop} {h h' : Hp} (x : Kp S h h') {b o : Nat} {v : Value} (hs : ¬ S b) (hc : cel h b o = some v) : cel h' b o = some v := by
  rw [x.cel' (cel_lt hc) hs]; exact hc
theorem Kp.bl {S : Nat → Prop} {h h' : Hp} (x : Kp S h h') {b : Nat} {cs : List Value} {T : TypeId} (hs : ¬ S b) (hc : Bl h b cs T) : Bl h' b cs T := by
  unfold Bl at *; rw [x.keep b (lt_of_some hc) hs]; exact hc
theorem Bl.lift {h h' : Hp} {b : Nat} {cs : List Value} {T : TypeId} (hc : Bl h b cs T) (x : Ext h h') : Bl h' b cs T := x.bl (fun h => h) hc
theorem Ce.lift {h h' : Hp} {b o : Nat} {v : Value} (hc : cel h b o = some v) (x : Ext h h') : cel h' b o = some v := x.cel (fun h => h) hc
theorem Bl.lt {h : Hp} {b : Nat} {cs : List Value} {T : TypeId} (hc : Bl h b cs T) : b < h.size := lt_of_some hc
theorem Bl.cel {h : Hp} {b : Nat} {cs : List Value} {T : TypeId} (hc : Bl h b cs T) (o : Nat) : Lx.cel h b o = cs[o]? := by
  unfold Lx.cel; rw [show h[b]? = _ from hc]; simp
theorem no {b : Nat} : ¬ (fun _ : Nat => False) b := fun h => h
theorem Kp.obj {S : Nat → Prop} {h h' : Hp} (x : Kp S h h') {b : Nat} {o : Obj} (hs : ¬ S b) (hc : h[b]? = some o) : h'[b]? = some o := by
  rw [x.keep b (lt_of_some hc) hs]; exact hc

theorem Kp.tr {S : Nat → Prop} {a b c : Hp} (x : Kp S a b) (y : Ext b c) : Kp S a c := x.trans (Kp.of_ext y)
/-- A new block. -/
structure New (h h' : Hp) (b : Nat) (o : Obj) : Prop where
  at_ : b = h.size
  eq : h' = h.push o
theorem New.ext {h h' : Hp} {b : Nat} {o : Obj} (x : New h h' b o) : Ext h h' := by
  obtain ⟨rfl, rfl⟩ := x
  exact ⟨by simp, fun k hk _ => by rw [Array.getElem?_push, if_neg (by omega)]⟩
theorem New.obj {h h' : Hp} {b : Nat} {o : Obj} (x : New h h' b o) : h'[b]? = some o := by
  obtain ⟨rfl, rfl⟩ := x
  simp
theorem New.bl {h h' : Hp} {b : Nat} {cs : List Value} {T : TypeId} (x : New h h' b (.cells cs.toArray T)) : Bl h' b cs T := x.obj
theorem New.size {h h' : Hp} {b : Nat} {o : Obj} (x : New h h' b o) : h'.size = h.size + 1 := by
  obtain ⟨rfl, rfl⟩ := x; simp

/-- One block written. -/
structure Upd (h h' : Hp) (b : Nat) (cs : List Value) (T : TypeId) : Prop where
  bl : Bl h' b cs T
  keep : ∀ k, k ≠ b → h'[k]? = h[k]?
  size : h'.size = h.size
theorem Upd.kp {h h' : Hp} {b : Nat} {cs : List Value} {T : TypeId} (x : Upd h h' b cs T) : Kp (· = b) h h' :=
  ⟨by rw [x.size]; exact Nat.le_refl _, fun k _ hn => x.keep k hn⟩
theorem Upd.of {h : Hp} {b : Nat} {cs : List Value} {T : TypeId} (hb : b < h.size) : Upd h (h.setIfInBounds b (.cells cs.toArray T (0, 0))) b cs T :=
  ⟨by simp [Bl, hb], fun k hk => by rw [Array.getElem?_setIfInBounds, if_neg (Ne.symm hk)], by simp⟩

/-! ### Rules for single operations -/
section
variable {P : Program} {E : Env} {h : Hp} {K : Value → Hp → Prop} {op : Op} {ty : TypeId}

theorem not_defer {ρ : Operand → Value} {o : Oper} {w w' : World} {x : Next} (h : (execOp ρ o).run P w = .ok x w') (hx : ∀ d, x ≠ .defer d) : ∀ c, o.op ≠ .defer c := by
  intro c hc
  unfold execOp at h
  rw [hc] at h
  simp only [Sem.run_bind] at h
  cases hr : (resolve ρ c o.type).run P w with
  | ok d w1 => rw [hr] at h; simp only [Result.andThen_ok, Sem.run_pure, Result.ok.injEq] at h; exact hx d h.1.symm
  | halt q w1 => rw [hr] at h; simp [Result.andThen] at h

theorem S.val (hr : ∀ n a w (o : Oper), o.op = op → o.type = ty → Fits n a E → w.heap = h → ∃ v w', (execOp a.eval o).run P w = .ok (.value v) w' ∧ Io w w' ∧ K v w'.heap) : S P op ty E h K := by
  refine ⟨fun m n a w o K' Q ho ht f hw hk => ?_⟩
  obtain ⟨v, w', hrun, hi, q⟩ := hr n a w o ho ht f hw
  cases m with
  | inn ro =>
    show o.wpIn (fw ro) 0 P a w K' Q
    unfold Oper.wpIn
    refine ⟨fun _ _ => trivial, ?_⟩
    rw [Oper.semAt_eq _ _ _ (not_defer hrun (by nofun)), hrun]
    exact hk v w' hi q
  | pl =>
    show o.wp P a w K' Q
    unfold Oper.wp
    rw [hrun]
    exact hk v w' hi q

theorem S.skip (hr : ∀ n a w (o : Oper), o.op = op → o.type = ty → Fits n a E → w.heap = h → ∃ w', (execOp a.eval o).run P w = .ok .skip w' ∧ Io w w' ∧ K undef w'.heap) : S P op ty E h K := by
  refine ⟨fun m n a w o K' Q ho ht f hw hk => ?_⟩
  obtain ⟨w', hrun, hi, q⟩ := hr n a w o ho ht f hw
  cases m with
  | inn ro =>
    show o.wpIn (fw ro) 0 P a w K' Q
    unfold Oper.wpIn
    refine ⟨fun _ _ => trivial, ?_⟩
    rw [Oper.semAt_eq _ _ _ (not_defer hrun (by nofun)), hrun]
    exact hk undef w' hi q
  | pl =>
    show o.wp P a w K' Q
    unfold Oper.wp
    rw [hrun]
    exact hk undef w' hi q

/-- An operation that leaves the world as it is. -/
theorem S.pure {v : Value} (hr : ∀ n a w (o : Oper), o.op = op → o.type = ty → Fits n a E → w.heap = h → (execOp a.eval o).run P w = .ok (.value v) w) (q : K v h) : S P op ty E h K :=
  S.val fun n a w o ho ht f hw => ⟨v, w, hr n a w o ho ht f hw, Io.refl w, by rw [hw]; exact q⟩

/-- One value, and the world as it was. -/
structure SP (P : Program) (op : Op) (ty : TypeId) (E : Env) (h : Hp) (v : Value) : Prop where
  run : ∀ n a w (o : Oper), o.op = op → o.type = ty → Fits n a E → w.heap = h → (execOp a.eval o).run P w = .ok (.value v) w

theorem sp {v : Value} (p : SP P op ty E h v) (q : K v h) : S P op ty E h K := S.pure p.run q

theorem S.mono {K' : Value → Hp → Prop} (s : S P op ty E h K) (hk : ∀ v h, K v h → K' v h) : S P op ty E h K' :=
  ⟨fun m n a w o K1 Q ho ht f hw hq => s.run m n a w o K1 Q ho ht f hw fun v w' i k => hq v w' i (hk _ _ k)⟩

theorem p_mv {x : Operand} {v : Value} (hx : ev E x = some v) : SP P (.move x) ty E h (v) :=
  ⟨fun n a w o ho ht f hw => by simp [execOp, ho, f.ev hx]⟩
theorem p_as {x : Operand} {v : Value} (hx : ev E x = some v) : SP P (.assign x) ty E h (v) :=
  ⟨fun n a w o ho ht f hw => by simp [execOp, ho, f.ev hx]⟩
theorem p_pick {c x y : Operand} {b : Bool} {u v : Value} (hc : ev E c = some (.bool b)) (hx : ev E x = some u) (hy : ev E y = some v) : SP P (.pick c x y) ty E h (if b then u else v) :=
  ⟨fun n a w o ho ht f hw => by simp [execOp, ho, f.ev hx, f.ev hy, f.ev hc, asBool]⟩
theorem p_pt {c x y : Operand} {u v : Value} (hc : ev E c = some (.bool true)) (hx : ev E x = some u) (hy : ev E y = some v) : SP P (.pick c x y) ty E h u :=
  p_pick hc hx hy

theorem p_pf {c x y : Operand} {u v : Value} (hc : ev E c = some (.bool false)) (hx : ev E x = some u) (hy : ev E y = some v) : SP P (.pick c x y) ty E h v :=
  p_pick hc hx hy
/-! Arithmetic. -/
theorem p_add {t t' : TypeId} {x y : Operand} {k : IntKind} {m n : Int} (hx : ev E x = some (.int k m)) (hy : ev E y = some (.int k n)) : SP P (.binOp .add t x y t') ty E h (.int k (k.wrap (m + n))) :=
  ⟨fun n a w o ho ht f hw => by simp [execOp, ho, f.ev hx, f.ev hy, eqGuard, binOp, Op.intArith]⟩
theorem p_sub {t t' : TypeId} {x y : Operand} {k : IntKind} {m n : Int} (hx : ev E x = some (.int k m)) (hy : ev E y = some (.int k n)) : SP P (.binOp .sub t x y t') ty E h (.int k (k.wrap (m - n))) :=
  ⟨fun n a w o ho ht f hw => by simp [execOp, ho, f.ev hx, f.ev hy, eqGuard, binOp, Op.intArith]⟩
theorem p_mul {t t' : TypeId} {x y : Operand} {k : IntKind} {m n : Int} (hx : ev E x = some (.int k m)) (hy : ev E y = some (.int k n)) : SP P (.binOp .mul t x y t') ty E h (.int k (k.wrap (m * n))) :=
  ⟨fun n a w o ho ht f hw => by simp [execOp, ho, f.ev hx, f.ev hy, eqGuard, binOp, Op.intArith]⟩
theorem wrap_i64 {z : Int} (h : -9223372036854775808 ≤ z ∧ z ≤ 9223372036854775807) : IntKind.i64.wrap z = z := by
  simp only [IntKind.wrap, IntKind.signed, IntKind.bits, Bool.true_and]
  split <;> (rename_i hc; simp at hc; omega)
theorem wrap_i32 {z : Int} (h : -2147483648 ≤ z ∧ z ≤ 2147483647) : IntKind.i32.wrap z = z := by
  simp only [IntKind.wrap, IntKind.signed, IntKind.bits, Bool.true_and]
  split <;> (rename_i hc; simp at hc; omega)
theorem wrap_i16 {z : Int} (h : -32768 ≤ z ∧ z ≤ 32767) : IntKind.i16.wrap z = z := by
  simp only [IntKind.wrap, IntKind.signed, IntKind.bits, Bool.true_and]
  split <;> (rename_i hc; simp at hc; omega)
theorem wrap_i8 {z : Int} (h : -128 ≤ z ∧ z ≤ 127) : IntKind.i8.wrap z = z := by
  simp only [IntKind.wrap, IntKind.signed, IntKind.bits, Bool.true_and]
  split <;> (rename_i hc; simp at hc; omega)
theorem wrap_u8 {z : Int} (h : 0 ≤ z ∧ z ≤ 255) : IntKind.u8.wrap z = z := by
  simp only [IntKind.wrap, IntKind.signed, IntKind.bits, Bool.false_and, Bool.false_eq_true, if_false]
  omega
theorem wrapm_u8 (z : Int) : IntKind.u8.wrap z = z % 256 := by
  simp only [IntKind.wrap, IntKind.signed, IntKind.bits, Bool.false_and, Bool.false_eq_true, if_false]
  omega
theorem wrap_u16 {z : Int} (h : 0 ≤ z ∧ z ≤ 65535) : IntKind.u16.wrap z = z := by
  simp only [IntKind.wrap, IntKind.signed, IntKind.bits, Bool.false_and, Bool.false_eq_true, if_false]
  omega
theorem wrapm_u16 (z : Int) : IntKind.u16.wrap z = z % 65536 := by
  simp only [IntKind.wrap, IntKind.signed, IntKind.bits, Bool.false_and, Bool.false_eq_true, if_false]
  omega
theorem wrap_u32 {z : Int} (h : 0 ≤ z ∧ z ≤ 4294967295) : IntKind.u32.wrap z = z := by
  simp only [IntKind.wrap, IntKind.signed, IntKind.bits, Bool.false_and, Bool.false_eq_true, if_false]
  omega
theorem wrapm_u32 (z : Int) : IntKind.u32.wrap z = z % 4294967296 := by
  simp only [IntKind.wrap, IntKind.signed, IntKind.bits, Bool.false_and, Bool.false_eq_true, if_false]
  omega
theorem wrap_u64 {z : Int} (h : 0 ≤ z ∧ z ≤ 18446744073709551615) : IntKind.u64.wrap z = z := by
  simp only [IntKind.wrap, IntKind.signed, IntKind.bits, Bool.false_and, Bool.false_eq_true, if_false]
  omega
theorem wrapm_u64 (z : Int) : IntKind.u64.wrap z = z % 18446744073709551616 := by
  simp only [IntKind.wrap, IntKind.signed, IntKind.bits, Bool.false_and, Bool.false_eq_true, if_false]
  omega
theorem p_add64 {t t' : TypeId} {x y : Operand} {m n : Int} (hx : ev E x = some (.int .i64 m)) (hy : ev E y = some (.int .i64 n)) (hb : -9223372036854775808 ≤ m + n ∧ m + n ≤ 9223372036854775807) : SP P (.binOp .add t x y t') ty E h (.int .i64 (m + n)) := by
  have := p_add (P := P) (ty := ty) (h := h) (t := t) (t' := t') hx hy; rw [wrap_i64 hb] at this; exact this
theorem p_add32 {t t' : TypeId} {x y : Operand} {m n : Int} (hx : ev E x = some (.int .i32 m)) (hy : ev E y = some (.int .i32 n)) (hb : -2147483648 ≤ m + n ∧ m + n ≤ 2147483647) : SP P (.binOp .add t x y t') ty E h (.int .i32 (m + n)) := by
  have := p_add (P := P) (ty := ty) (h := h) (t := t) (t' := t') hx hy; rw [wrap_i32 hb] at this; exact this
theorem p_sub64 {t t' : TypeId} {x y : Operand} {m n : Int} (hx : ev E x = some (.int .i64 m)) (hy : ev E y = some (.int .i64 n)) (hb : -9223372036854775808 ≤ m - n ∧ m - n ≤ 9223372036854775807) : SP P (.binOp .sub t x y t') ty E h (.int .i64 (m - n)) := by
  have := p_sub (P := P) (ty := ty) (h := h) (t := t) (t' := t') hx hy; rw [wrap_i64 hb] at this; exact this
theorem p_sub32 {t t' : TypeId} {x y : Operand} {m n : Int} (hx : ev E x = some (.int .i32 m)) (hy : ev E y = some (.int .i32 n)) (hb : -2147483648 ≤ m - n ∧ m - n ≤ 2147483647) : SP P (.binOp .sub t x y t') ty E h (.int .i32 (m - n)) := by
  have := p_sub (P := P) (ty := ty) (h := h) (t := t) (t' := t') hx hy; rw [wrap_i32 hb] at this; exact this
theorem p_mul64 {t t' : TypeId} {x y : Operand} {m n : Int} (hx : ev E x = some (.int .i64 m)) (hy : ev E y = some (.int .i64 n)) (hb : -9223372036854775808 ≤ m * n ∧ m * n ≤ 9223372036854775807) : SP P (.binOp .mul t x y t') ty E h (.int .i64 (m * n)) := by
  have := p_mul (P := P) (ty := ty) (h := h) (t := t) (t' := t') hx hy; rw [wrap_i64 hb] at this; exact this
theorem p_mul32 {t t' : TypeId} {x y : Operand} {m n : Int} (hx : ev E x = some (.int .i32 m)) (hy : ev E y = some (.int .i32 n)) (hb : -2147483648 ≤ m * n ∧ m * n ≤ 2147483647) : SP P (.binOp .mul t x y t') ty E h (.int .i32 (m * n)) := by
  have := p_mul (P := P) (ty := ty) (h := h) (t := t) (t' := t') hx hy; rw [wrap_i32 hb] at this; exact this
theorem p_lss {t t' : TypeId} {x y : Operand} {k : IntKind} {m n : Int} (hx : ev E x = some (.int k m)) (hy : ev E y = some (.int k n)) : SP P (.binOp .lss t x y t') ty E h (.bool (decide (m < n))) :=
  ⟨fun n a w o ho ht f hw => by simp [execOp, ho, f.ev hx, f.ev hy, eqGuard, binOp, Op.intCmp]⟩
theorem p_leq {t t' : TypeId} {x y : Operand} {k : IntKind} {m n : Int} (hx : ev E x = some (.int k m)) (hy : ev E y = some (.int k n)) : SP P (.binOp .leq t x y t') ty E h (.bool (decide (m ≤ n))) :=
  ⟨fun n a w o ho ht f hw => by simp [execOp, ho, f.ev hx, f.ev hy, eqGuard, binOp, Op.intCmp]⟩
theorem p_gtr {t t' : TypeId} {x y : Operand} {k : IntKind} {m n : Int} (hx : ev E x = some (.int k m)) (hy : ev E y = some (.int k n)) : SP P (.binOp .gtr t x y t') ty E h (.bool (decide (n < m))) :=
  ⟨fun n a w o ho ht f hw => by simp [execOp, ho, f.ev hx, f.ev hy, eqGuard, binOp, Op.intCmp]⟩
theorem p_geq {t t' : TypeId} {x y : Operand} {k : IntKind} {m n : Int} (hx : ev E x = some (.int k m)) (hy : ev E y = some (.int k n)) : SP P (.binOp .geq t x y t') ty E h (.bool (decide (n ≤ m))) :=
  ⟨fun n a w o ho ht f hw => by simp [execOp, ho, f.ev hx, f.ev hy, eqGuard, binOp, Op.intCmp]⟩
theorem p_eql {t t' : TypeId} {x y : Operand} {k : IntKind} {m n : Int} (hx : ev E x = some (.int k m)) (hy : ev E y = some (.int k n)) : SP P (.binOp .eql t x y t') ty E h (.bool (decide (m = n))) :=
  ⟨fun n a w o ho ht f hw => by simp [execOp, ho, f.ev hx, f.ev hy, eqGuard_at_int, binOp, Op.intCmp]; rfl⟩
theorem p_neq {t t' : TypeId} {x y : Operand} {k : IntKind} {m n : Int} (hx : ev E x = some (.int k m)) (hy : ev E y = some (.int k n)) : SP P (.binOp .neq t x y t') ty E h (.bool (decide (¬ m = n))) :=
  ⟨fun n a w o ho ht f hw => by simp [execOp, ho, f.ev hx, f.ev hy, eqGuard_at_int, binOp, Op.intCmp]; rfl⟩
theorem p_not {t : TypeId} {x : Operand} {b : Bool} (hx : ev E x = some (.bool b)) : SP P (.unOp .not t x) ty E h (.bool (!b)) :=
  ⟨fun n a w o ho ht f hw => by simp [execOp, ho, f.ev hx, Op.unary]⟩
theorem p_neg {t : TypeId} {x : Operand} {k : IntKind} {m : Int} (hx : ev E x = some (.int k m)) : SP P (.unOp .neg t x) ty E h (.int k (k.wrap (0 - m))) :=
  ⟨fun n a w o ho ht f hw => by simp [execOp, ho, f.ev hx, Op.unary, Op.intArith]⟩

/-- Quotient and remainder, of numbers that are not negative. -/theorem p_quo {t t' : TypeId} {x y : Operand} {k : IntKind} {m n : Int} (hx : ev E x = some (.int k m)) (hy : ev E y = some (.int k n)) (h0 : 0 ≤ m) (h1 : 0 < n) (hb : k.wrap (m / n) = m / n) : SP P (.binOp .quo t x y t') ty E h (.int k (m / n)) :=
  ⟨fun n' a w o ho ht f hw => by
    have e : m.tdiv n = m / n := Int.tdiv_eq_ediv_of_nonneg h0
    have e0 : ¬ n = 0 := by omega
    simp [execOp, ho, f.ev hx, f.ev hy, eqGuard, binOp, Op.intDiv, e, e0, hb]⟩
theorem p_rem {t t' : TypeId} {x y : Operand} {k : IntKind} {m n : Int} (hx : ev E x = some (.int k m)) (hy : ev E y = some (.int k n)) (h0 : 0 ≤ m) (h1 : 0 < n) : SP P (.binOp .rem t x y t') ty E h (.int k (m % n)) :=
  ⟨fun n' a w o ho ht f hw => by
    have e : m.tmod n = m % n := Int.tmod_eq_emod_of_nonneg h0
    have e0 : ¬ n = 0 := by omega
    simp [execOp, ho, f.ev hx, f.ev hy, eqGuard, binOp, Op.intDiv, e, e0]⟩
theorem p_shr {t t' : TypeId} {x y : Operand} {k k' : IntKind} {m : Int} {s : Nat} (hx : ev E x = some (.int k m)) (hy : ev E y = some (.int k' (s : Int))) (hs : s ≤ k.bits) : SP P (.binOp .shr t x y t') ty E h (.int k (m / 2 ^ s)) :=
  ⟨fun n' a w o ho ht f hw => by
    have e : min s k.bits = s := Nat.min_eq_left hs
    have e1 : ¬ (s : Int) < 0 := by omega
    have e2 : m.fdiv (2 ^ s) = m / 2 ^ s := Int.fdiv_eq_ediv_of_nonneg _ (Int.pow_nonneg (by decide))
    simp [execOp, ho, f.ev hx, f.ev hy, eqGuard, binOp, Op.shift, e, e1, e2]⟩
theorem p_shl {t t' : TypeId} {x y : Operand} {k k' : IntKind} {m : Int} {s : Nat} (hx : ev E x = some (.int k m)) (hy : ev E y = some (.int k' (s : Int))) (hs : s ≤ k.bits) : SP P (.binOp .shl t x y t') ty E h (.int k (k.wrap (m * 2 ^ s))) :=
  ⟨fun n' a w o ho ht f hw => by
    have e : min s k.bits = s := Nat.min_eq_left hs
    have e1 : ¬ (s : Int) < 0 := by omega
    simp [execOp, ho, f.ev hx, f.ev hy, eqGuard, binOp, Op.shift, e, e1]⟩
theorem p_conv {t t' : TypeId} {x : Operand} {k k' : IntKind} {m : Int} (hs : ∀ w, (underlying t).run P w = .ok (.int k) w) (hd : ∀ w, (underlying t').run P w = .ok (.int k') w) (hx : ev E x = some (.int k m)) (hb : k'.wrap m = m) : SP P (.convert t t' x) ty E h (.int k' m) :=
  ⟨fun n a w o ho ht f hw => by simp [execOp, ho, f.ev hx, convert, hs, hd, Conv.intToInt, hb]⟩
theorem p_convw {t t' : TypeId} {x : Operand} {k k' : IntKind} {m : Int} (hs : ∀ w, (underlying t).run P w = .ok (.int k) w) (hd : ∀ w, (underlying t').run P w = .ok (.int k') w) (hx : ev E x = some (.int k m)) : SP P (.convert t t' x) ty E h (.int k' (k'.wrap m)) :=
  ⟨fun n a w o ho ht f hw => by simp [execOp, ho, f.ev hx, convert, hs, hd, Conv.intToInt]⟩

end
end Go.Lx