import Derived.StillTail
import Derived.Test.YteeienbhmkiloaaGreatDoorLC
set_option linter.unusedSimpArgs false
set_option linter.unusedVariables false
namespace Go.Lx

/-! ### Operations that leave the world as it is, in a region whose order is that of the text -/
def Le (E' E : Env) : Prop := (∀ t v, look E t = some v → look E' t = some v) ∧ look E' MK = look E MK
theorem le_r (E : Env) : Le E E := ⟨fun _ _ h => h, rfl⟩
theorem le_c {E' E : Env} {k : Nat} {v : Value} (hk : look E k = none) (l : Le E' E) (hm : Nat.beq k MK = false := by rfl) : Le ((k, v) :: E') E := ⟨fun t u ht => by
  simp only [look]
  cases hb : Nat.beq k t with
  | true => have := Nat.eq_of_beq_eq_true hb; subst this; rw [hk] at ht; cases ht
  | false => exact l.1 t u ht, by rw [look_ne hm]; exact l.2⟩
theorem le_s {E' E : Env} {k : Nat} {v : Value} (hk : look E k = some v) (l : Le E' E) : Le ((k, v) :: E') E := ⟨fun t u ht => by
  simp only [look]
  cases hb : Nat.beq k t with
  | true => have := Nat.eq_of_beq_eq_true hb; subst this; rw [hk] at ht; exact ht
  | false => exact l.1 t u ht, by
  cases hb : Nat.beq k MK with
  | true => have := Nat.eq_of_beq_eq_true hb; subst this; rw [hk]; simp only [look, hb]
  | false => rw [look_ne hb]; exact l.2⟩
theorem Fits.le {n : Nat} {a : Act} {E E' : Env} (f : Fits n a E') (l : Le E' E) : Fits n a E :=
  ⟨f.size, f.ms, fun v hv => f.ok v (by rw [l.2]; exact hv), by rw [f.defers]; simp only [mks, l.2], fun t v h hb => f.get t v (l.1 t v h) hb⟩

section
variable {m : Md} {P : Program} {ops : Array Oper} {n : Nat} {E : Env} {h : Hp} {K : Env → Hp → Prop} {rest : List Oper} {op : Op} {ty : TypeId} {pos : String} {af : Array Edge} {v : Value}

theorem r1 {d : Nat} (hd : Nat.blt d n = true) (p : SP P op ty E h v) (o : O m P ops n rest ((d, v) :: E) h K) : O m P ops n (⟨some d, op, ty, pos, af, none⟩ :: rest) E h K := o1 hd (sp p o)
theorem r0 (p : SP P op ty E h v) (o : O m P ops n rest E h K) : O m P ops n (⟨none, op, ty, pos, af, none⟩ :: rest) E h K := o0 (sp p o)

theorem o1h {d j dj : Nat} {b want : Bool} (hd : Nat.blt d n = true) (hj : (ops[j]?).bind (·.dst) = some dj) (hv : look E dj = some (.bool b)) (hb : b = want)
    (s : S P op ty E h (fun v h' => O m P ops n rest ((d, v) :: E) h' K)) : O m P ops n (⟨some d, op, ty, pos, af, some (j, want)⟩ :: rest) E h K :=
  o1g hd hj (hb ▸ hv) s
theorem o0h {j dj : Nat} {b want : Bool} (hj : (ops[j]?).bind (·.dst) = some dj) (hv : look E dj = some (.bool b)) (hb : b = want)
    (s : S P op ty E h (fun _ h' => O m P ops n rest E h' K)) : O m P ops n (⟨none, op, ty, pos, af, some (j, want)⟩ :: rest) E h K :=
  o0g hj (hb ▸ hv) s
theorem r1h {d j dj : Nat} {b want : Bool} (hd : Nat.blt d n = true) (hj : (ops[j]?).bind (·.dst) = some dj) (hv : look E dj = some (.bool b)) (hb : b = want)
    (p : SP P op ty E h v) (o : O m P ops n rest ((d, v) :: E) h K) : O m P ops n (⟨some d, op, ty, pos, af, some (j, want)⟩ :: rest) E h K :=
  o1h hd hj hv hb (sp p o)

/-- Behind the first part comes the second one. -/
def Par (Q : Exit → Act → World → Prop) (K1 : Act → World → Prop) : Exit → Act → World → Prop
  | .normal, a, w => K1 a w
  | e, a, w => Q e a w

theorem wp_par {o : Oper} {a : Act} {w : World} {K1 K2 K3 : Act → World → Prop} {Q : Exit → Act → World → Prop} (h : ∀ a w, K1 a w → K2 a w) (hh : mwp m P o a w K1 (Par Q K3)) : mwp m P o a w K2 Q := by
  cases m with
  | inn ro =>
    obtain ⟨hb, hh⟩ : o.wpIn (fw ro) 0 P a w K1 (Par Q K3) := hh
    refine ⟨hb, ?_⟩
    generalize (o.semAt (fw ro).round a.eval).run P w = r at *
    cases r with
    | ok n w' =>
      cases n <;> simp only [Oper.uponIn] at hh ⊢ <;>
        first
          | exact h _ _ hh
          | exact ⟨hh.1, CallsIn.mono hh.2 (fun e w'' he => by cases e <;> first | exact h _ _ he | exact he)⟩
          | exact ⟨hh.1, RowsIn.mono hh.2 (fun _ _ he => h _ _ he)⟩
          | exact ⟨hh.1, RoundIn.mono hh.2 (fun e w'' he => by cases e <;> first | exact h _ _ he | exact he)⟩
    | halt x w' => cases x <;> simp only [Oper.uponIn] at hh ⊢ <;> exact hh
  | pl =>
    have hh : o.wp P a w K1 (Par Q K3) := hh
    show o.wp P a w K2 Q
    unfold Oper.wp at *
    generalize (execOp a.eval o).run P w = r at *
    cases r with
    | ok n w' =>
      cases n <;> simp only [Oper.upon] at hh ⊢ <;>
        first
          | exact h _ _ hh
          | exact Calls.mono hh (fun e w'' he => by cases e <;> first | exact h _ _ he | exact he)
          | exact Rows.mono hh (fun _ _ he => h _ _ he)
    | halt x w' => cases x <;> simp only [Oper.upon] at hh ⊢ <;> exact hh

theorem wpList_par {Q : Exit → Act → World → Prop} {l2 : List Oper} : ∀ (l1 : List Oper) (a : Act) (w : World), mlist m P ops (Par Q (mlist m P ops Q l2)) l1 a w → mlist m P ops Q (l1 ++ l2) a w
  | [], a, w, hh => by cases m <;> exact hh
  | o :: l1, a, w, hh => by
    have ih := wpList_par (Q := Q) (l2 := l2) l1
    cases m with
    | inn ro =>
      have hh : wpListIn (fw ro) 0 P ops (Par Q (mlist (.inn ro) P ops Q l2)) (o :: l1) a w := hh
      simp only [wpListIn] at hh
      show wpListIn (fw ro) 0 P ops Q (o :: (l1 ++ l2)) a w
      simp only [wpListIn]
      split
      · rename_i hw
        rw [if_pos hw] at hh
        exact wp_par (m := .inn ro) (fun a w k => ih a w k) hh
      · rename_i hw
        rw [if_neg hw] at hh
        exact ⟨hh.1, ih _ _ hh.2⟩
    | pl =>
      have hh : wpList P ops (Par Q (mlist .pl P ops Q l2)) (o :: l1) a w := hh
      simp only [wpList] at hh
      show wpList P ops Q (o :: (l1 ++ l2)) a w
      simp only [wpList]
      split
      · rename_i hw
        rw [if_pos hw] at hh
        rcases hh with hh | ⟨h1, h2⟩
        · exact .inl (wp_par (m := .pl) (fun a w k => ih a w k) hh)
        · exact .inr ⟨h1, h2⟩
      · rename_i hw
        rw [if_neg hw] at hh
        exact ih _ _ hh

theorem o_cut {l : List Oper} {M : Env → Hp → Prop} (k : Nat) (o : O m P ops n (l.take k) E h M) (r : ∀ E' h', M E' h' → O m P ops n (l.drop k) E' h' K) : O m P ops n l E h K :=
  ⟨fun a w Q f hw hk => by
    rw [← List.take_append_drop k l]
    refine wpList_par _ _ _ (o.run a w _ f hw fun E' a' w' f' i m => ?_)
    exact (r E' w'.heap m).run a' w' Q f' rfl fun E'' a'' w'' f'' i' k' => hk E'' a'' w'' f'' (i.trans i') k'⟩

/-- One goes on with what E' and h' hold, of which the rest asks less. -/
theorem O.le {l : List Oper} {E' : Env} (hl : Le E' E) (o : O m P ops n l E h K) : O m P ops n l E' h K :=
  ⟨fun a w Q f hw hk => o.run a w Q (f.le hl) hw hk⟩

theorem le_t {E' E : Env} {d : Nat} {v : Value} (hv : look E' d = some v) (l : Le E' E) : Le E' ((d, v) :: E) := ⟨fun t u ht => by
  simp only [look] at ht
  cases hb : Nat.beq d t with
  | true => have := Nat.eq_of_beq_eq_true hb; subst this; rw [hb] at ht; simp only [Option.some.injEq] at ht; subst ht; exact hv
  | false => rw [hb] at ht; exact l.1 t u ht, by
  cases hb : Nat.beq d MK with
  | true => have := Nat.eq_of_beq_eq_true hb; subst this; rw [hv]; simp only [look, hb]
  | false => rw [look_ne hb]; exact l.2⟩

/-- 'a && b': the first k operations reckon b where a holds, and pick. -/
theorem o_and {l : List Oper} (k : Nat) {b c : Bool} {dj d : Nat} (hv : look E dj = some (.bool b))
    (ht : b = true → O m P ops n (l.take k) E h (fun E' h' => look E' d = some (.bool c) ∧ h' = h ∧ Le E' E))
    (hf : b = false → O m P ops n (l.take k) E h (fun E' h' => look E' d = some (.bool false) ∧ h' = h ∧ Le E' E))
    (rest : O m P ops n (l.drop k) ((d, .bool (b && c)) :: E) h K) : O m P ops n l E h K := by
  cases b with
  | true => exact o_cut k (ht rfl) (by rintro E' h' ⟨h1, rfl, h2⟩; exact rest.le (le_t h1 h2))
  | false => exact o_cut k (hf rfl) (by rintro E' h' ⟨h1, rfl, h2⟩; exact rest.le (le_t h1 h2))
theorem o_or {l : List Oper} (k : Nat) {b c : Bool} {dj d : Nat} (hv : look E dj = some (.bool b))
    (ht : b = false → O m P ops n (l.take k) E h (fun E' h' => look E' d = some (.bool c) ∧ h' = h ∧ Le E' E))
    (hf : b = true → O m P ops n (l.take k) E h (fun E' h' => look E' d = some (.bool true) ∧ h' = h ∧ Le E' E))
    (rest : O m P ops n (l.drop k) ((d, .bool (b || c)) :: E) h K) : O m P ops n l E h K := by
  cases b with
  | false => exact o_cut k (ht rfl) (by rintro E' h' ⟨h1, rfl, h2⟩; exact rest.le (le_t h1 h2))
  | true => exact o_cut k (hf rfl) (by rintro E' h' ⟨h1, rfl, h2⟩; exact rest.le (le_t h1 h2))
/-- The same where memory may be made on the way. -/
theorem o_andx {l : List Oper} (k : Nat) {b c : Bool} {dj d : Nat} (hv : look E dj = some (.bool b))
    (ht : b = true → O m P ops n (l.take k) E h (fun E' h' => look E' d = some (.bool c) ∧ Ext h h' ∧ Le E' E))
    (hf : b = false → O m P ops n (l.take k) E h (fun E' h' => look E' d = some (.bool false) ∧ Ext h h' ∧ Le E' E))
    (rest : ∀ h', Ext h h' → O m P ops n (l.drop k) ((d, .bool (b && c)) :: E) h' K) : O m P ops n l E h K := by
  cases b with
  | true => exact o_cut k (ht rfl) (by rintro E' h' ⟨h1, x, h2⟩; exact (rest h' x).le (le_t h1 h2))
  | false => exact o_cut k (hf rfl) (by rintro E' h' ⟨h1, x, h2⟩; exact (rest h' x).le (le_t h1 h2))
theorem o_orx {l : List Oper} (k : Nat) {b c : Bool} {dj d : Nat} (hv : look E dj = some (.bool b))
    (ht : b = false → O m P ops n (l.take k) E h (fun E' h' => look E' d = some (.bool c) ∧ Ext h h' ∧ Le E' E))
    (hf : b = true → O m P ops n (l.take k) E h (fun E' h' => look E' d = some (.bool true) ∧ Ext h h' ∧ Le E' E))
    (rest : ∀ h', Ext h h' → O m P ops n (l.drop k) ((d, .bool (b || c)) :: E) h' K) : O m P ops n l E h K := by
  cases b with
  | false => exact o_cut k (ht rfl) (by rintro E' h' ⟨h1, x, h2⟩; exact (rest h' x).le (le_t h1 h2))
  | true => exact o_cut k (hf rfl) (by rintro E' h' ⟨h1, x, h2⟩; exact (rest h' x).le (le_t h1 h2))
end

/-! ### Regions that draw their order, all of whose operations leave the world as it is, but for calls, which may make memory -/
section
variable {P : Program} {ops : Array Oper} {n : Nat} {E : Env} {h : Hp} {K : Env → Prop} {rest : List Oper} {op : Op} {ty : TypeId} {pos : String} {af : Array Edge} {v : Value}

/-- The worlds that a region may come to, from heap h. -/
def Cl (h : Hp) (w0 w : World) : Prop := Ext h w.heap ∧ Io w0 w

structure Y (P : Program) (ops : Array Oper) (n : Nat) (l : List Oper) (E : Env) (h : Hp) (K : Env → Prop) : Prop where
  run : ∀ a w0 Q, Fits n a E → (∀ E' a', Fits n a' E' → K E' → Q a') → wpQuiet P ops (Cl h w0) Q l a

/-- One operation: one value, whatever the heap. -/
structure Z (P : Program) (op : Op) (ty : TypeId) (E : Env) (h : Hp) (v : Value) : Prop where
  run : ∀ n a w0 (o : Oper), o.op = op → o.type = ty → Fits n a E → ∀ w, Cl h w0 w → o.quietAt P a (Cl h w0) w v

theorem zp (p : ∀ h', Ext h h' → SP P op ty E h' v) : Z P op ty E h v :=
  ⟨fun n a w0 o ho ht f w hw => by
    unfold Oper.quietAt
    rw [(p w.heap hw.1).run n a w o ho ht f rfl]
    exact ⟨rfl, rfl⟩⟩

theorem Z.enter {f : FuncId} {vs : List Value} (hr : ∀ n a w (o : Oper), o.op = op → Fits n a E → (execOp a.eval o).run P w = .ok (.enter f vs.toArray) w) (c : ∀ h', Ext h h' → C P f vs h' (fun r h'' => r = v ∧ Ext h' h'')) : Z P op ty E h v :=
  ⟨fun n a w0 o ho ht f' w hw => by
    unfold Oper.quietAt
    rw [hr n a w o ho f']
    refine ⟨rfl, ((c w.heap hw.1).run w rfl).mono fun e w' ⟨u, he, hi, hu, hx⟩ => ?_⟩
    subst hu
    exact ⟨he, hw.1.trans hx, hw.2.trans hi⟩⟩

theorem z_call {f : FuncId} {xs : List Operand} {vs : List Value} {ts : Array TypeId} (hf : ∀ (args : Array Value) w, (callFunc f args).run P w = .ok (.enter f args) w) (hx : evs E xs = some vs) (c : ∀ h', Ext h h' → C P f vs h' (fun r h'' => r = v ∧ Ext h' h'')) :
    Z P (.call ⟨.value (.func f), xs.toArray, ts⟩) ty E h v :=
  Z.enter (fun n a w o ho f' => by
    have e := f'.evs hx
    have eg : a.eval (.func f) = .func (.func f) #[] #[] := rfl
    simp only [execOp, ho, resolve, eg, Deferred.ofValue, List.map_toArray, e]
    simp [invoke, hf]) c
theorem z_cv {g : Operand} {f : FuncId} {us cs : List Value} {xs : List Operand} {vs : List Value} {ts : Array TypeId} (hf : ∀ (args : Array Value) w, (callFunc f args).run P w = .ok (.enter f args) w)
    (hg : ev E g = some (.func (.func f) us.toArray cs.toArray)) (hx : evs E xs = some vs) (c : ∀ h', Ext h h' → C P f (us ++ vs ++ cs) h' (fun r h'' => r = v ∧ Ext h' h'')) :
    Z P (.call ⟨.value g, xs.toArray, ts⟩) ty E h v :=
  Z.enter (fun n a w o ho f' => by
    have e := f'.evs hx
    have eg := f'.ev hg
    simp only [execOp, ho, resolve, eg, Deferred.ofValue, List.map_toArray, e]
    simp [invoke, hf]) c

theorem y_nil (q : K E) : Y P ops n [] E h K := ⟨fun a w0 Q f hk => wpQuiet_nil (hk E a f q)⟩
theorem y1 {d : Nat} (hd : Nat.blt d n = true) (z : Z P op ty E h v) (o : Y P ops n rest ((d, v) :: E) h K) : Y P ops n (⟨some d, op, ty, pos, af, none⟩ :: rest) E h K :=
  ⟨fun a w0 Q f hk => wpQuiet_step fun K' hK' => by
    rw [if_pos (by simp [Region.wanted])]
    exact ⟨v, fun w hw => z.run n a w0 _ rfl rfl f w hw, hK' _ (o.run _ w0 Q (f.put (by simpa using hd) v) hk)⟩⟩
theorem y0 (z : Z P op ty E h v) (o : Y P ops n rest E h K) : Y P ops n (⟨none, op, ty, pos, af, none⟩ :: rest) E h K :=
  ⟨fun a w0 Q f hk => wpQuiet_step fun K' hK' => by
    rw [if_pos (by simp [Region.wanted])]
    exact ⟨v, fun w hw => z.run n a w0 _ rfl rfl f w hw, hK' _ (o.run _ w0 Q f hk)⟩⟩
theorem y1h {d j dj : Nat} {b want : Bool} (hd : Nat.blt d n = true) (hj : (ops[j]?).bind (·.dst) = some dj) (hv : look E dj = some (.bool b)) (hb : b = want)
    (z : Z P op ty E h v) (o : Y P ops n rest ((d, v) :: E) h K) : Y P ops n (⟨some d, op, ty, pos, af, some (j, want)⟩ :: rest) E h K :=
  ⟨fun a w0 Q f hk => wpQuiet_step fun K' hK' => by
    subst hb
    rw [if_pos (wanted_yes f rfl hj hv)]
    exact ⟨v, fun w hw => z.run n a w0 _ rfl rfl f w hw, hK' _ (o.run _ w0 Q (f.put (by simpa using hd) v) hk)⟩⟩
theorem y1n {d j dj : Nat} {want b : Bool} (hd : Nat.blt d n = true) (hj : (ops[j]?).bind (·.dst) = some dj) (hv : look E dj = some (.bool b)) (hb : b = !want)
    (o : Y P ops n rest ((d, undef) :: E) h K) : Y P ops n (⟨some d, op, ty, pos, af, some (j, want)⟩ :: rest) E h K :=
  ⟨fun a w0 Q f hk => wpQuiet_step fun K' hK' => by
    rw [if_neg (by rw [wanted_no f rfl hj hv hb]; simp)]
    exact hK' _ (o.run _ w0 Q (f.put (by simpa using hd) undef) hk)⟩
theorem y1u {d j dj : Nat} {want : Bool} (hd : Nat.blt d n = true) (hj : (ops[j]?).bind (·.dst) = some dj) (hv : look E dj = some undef)
    (o : Y P ops n rest ((d, undef) :: E) h K) : Y P ops n (⟨some d, op, ty, pos, af, some (j, want)⟩ :: rest) E h K :=
  ⟨fun a w0 Q f hk => wpQuiet_step fun K' hK' => by
    rw [if_neg (by rw [wanted_undef f rfl hj hv]; simp)]
    exact hK' _ (o.run _ w0 Q (f.put (by simpa using hd) undef) hk)⟩

theorem Y.le {l : List Oper} {E' : Env} (hl : Le E' E) (o : Y P ops n l E h K) : Y P ops n l E' h K :=
  ⟨fun a w0 Q f hk => o.run a w0 Q (f.le hl) hk⟩

theorem wpQuiet_par {C : World → Prop} {Q : Act → Prop} {l2 : List Oper} : ∀ (l1 : List Oper) (a : Act), wpQuiet P ops C (wpQuiet P ops C Q l2) l1 a → wpQuiet P ops C Q (l1 ++ l2) a
  | [], a, hh => hh
  | o :: l1, a, hh => by
    simp only [wpQuiet] at hh
    simp only [List.cons_append, wpQuiet]
    split
    · rename_i hw
      rw [if_pos hw] at hh
      exact Oper.quiet_mono (fun a k => wpQuiet_par l1 a k) hh
    · rename_i hw
      rw [if_neg hw] at hh
      exact wpQuiet_par l1 _ hh
theorem y_cut {l : List Oper} {M : Env → Prop} (k : Nat) (o : Y P ops n (l.take k) E h M) (r : ∀ E', M E' → Y P ops n (l.drop k) E' h K) : Y P ops n l E h K :=
  ⟨fun a w0 Q f hk => by
    rw [← List.take_append_drop k l]
    refine wpQuiet_par _ _ (o.run a w0 _ f fun E' a' f' m => ?_)
    exact (r E' m).run a' w0 Q f' hk⟩
theorem y_and {l : List Oper} (k : Nat) {b c : Bool} {dj d : Nat} (hv : look E dj = some (.bool b))
    (ht : b = true → Y P ops n (l.take k) E h (fun E' => look E' d = some (.bool c) ∧ Le E' E))
    (hf : b = false → Y P ops n (l.take k) E h (fun E' => look E' d = some (.bool false) ∧ Le E' E))
    (rest : Y P ops n (l.drop k) ((d, .bool (b && c)) :: E) h K) : Y P ops n l E h K := by
  cases b with
  | true => exact y_cut k (ht rfl) (by rintro E' ⟨h1, h2⟩; exact rest.le (le_t h1 h2))
  | false => exact y_cut k (hf rfl) (by rintro E' ⟨h1, h2⟩; exact rest.le (le_t h1 h2))
theorem y_or {l : List Oper} (k : Nat) {b c : Bool} {dj d : Nat} (hv : look E dj = some (.bool b))
    (ht : b = false → Y P ops n (l.take k) E h (fun E' => look E' d = some (.bool c) ∧ Le E' E))
    (hf : b = true → Y P ops n (l.take k) E h (fun E' => look E' d = some (.bool true) ∧ Le E' E))
    (rest : Y P ops n (l.drop k) ((d, .bool (b || c)) :: E) h K) : Y P ops n l E h K := by
  cases b with
  | false => exact y_cut k (ht rfl) (by rintro E' ⟨h1, h2⟩; exact rest.le (le_t h1 h2))
  | true => exact y_cut k (hf rfl) (by rintro E' ⟨h1, h2⟩; exact rest.le (le_t h1 h2))

theorem x_regq {id : Nat} {l : List Oper} {Q : Post} (hm : P.follows .mixedOrders = true) (hB : Region.lexB .any l.toArray = true) (y : Y P l.toArray n l E h (fun E' => ∀ h', Ext h h' → Q .normal E' h')) : X none P n (.region id l.toArray true) E h Q :=
  ⟨fun a w f hw => by
    subst hw
    refine (wpIn_wide (n := 0)).2 ?_
    refine wp_region_quiet (C := Cl w.heap w) hm hB ⟨Ext.refl _, rfl, rfl, rfl⟩ ?_
    exact y.run a w _ f fun E' a' f' k w' hw' => ⟨E', f', hw'.2, k _ hw'.1⟩⟩
end

/-! The same where nothing is called: the heap is the same behind it. -/
section
variable {P : Program} {ops : Array Oper} {n : Nat} {E : Env} {h : Hp} {K : Env → Prop} {rest : List Oper} {op : Op} {ty : TypeId} {pos : String} {af : Array Edge} {v : Value}
def Cs (h : Hp) (w0 w : World) : Prop := w.heap = h ∧ Io w0 w
structure T (P : Program) (ops : Array Oper) (n : Nat) (l : List Oper) (E : Env) (h : Hp) (K : Env → Prop) : Prop where
  run : ∀ a (C : World → Prop) Q, (∀ w, C w → w.heap = h) → Fits n a E → (∀ E' a', Fits n a' E' → K E' → Q a') → wpQuiet P ops C Q l a
theorem t_nil (q : K E) : T P ops n [] E h K := ⟨fun a C Q hC f hk => wpQuiet_nil (hk E a f q)⟩
theorem SP.quiet (p : SP P op ty E h v) {a : Act} {C : World → Prop} {w : World} {o : Oper} (ho : o.op = op) (ht : o.type = ty) (f : Fits n a E) (hw : w.heap = h) : o.quietAt P a C w v := by
  unfold Oper.quietAt
  rw [p.run n a w o ho ht f hw]
  exact ⟨rfl, rfl⟩
theorem t1 {d : Nat} (hd : Nat.blt d n = true) (z : SP P op ty E h v) (o : T P ops n rest ((d, v) :: E) h K) : T P ops n (⟨some d, op, ty, pos, af, none⟩ :: rest) E h K :=
  ⟨fun a C Q hC f hk => wpQuiet_step fun K' hK' => by
    rw [if_pos (by simp [Region.wanted])]
    exact ⟨v, fun w hw => z.quiet rfl rfl f (hC w hw), hK' _ (o.run _ C Q hC (f.put (by simpa using hd) v) hk)⟩⟩
theorem t0 (z : SP P op ty E h v) (o : T P ops n rest E h K) : T P ops n (⟨none, op, ty, pos, af, none⟩ :: rest) E h K :=
  ⟨fun a C Q hC f hk => wpQuiet_step fun K' hK' => by
    rw [if_pos (by simp [Region.wanted])]
    exact ⟨v, fun w hw => z.quiet rfl rfl f (hC w hw), hK' _ (o.run _ C Q hC f hk)⟩⟩
theorem t1h {d j dj : Nat} {b want : Bool} (hd : Nat.blt d n = true) (hj : (ops[j]?).bind (·.dst) = some dj) (hv : look E dj = some (.bool b)) (hb : b = want)
    (z : SP P op ty E h v) (o : T P ops n rest ((d, v) :: E) h K) : T P ops n (⟨some d, op, ty, pos, af, some (j, want)⟩ :: rest) E h K :=
  ⟨fun a C Q hC f hk => wpQuiet_step fun K' hK' => by
    subst hb
    rw [if_pos (wanted_yes f rfl hj hv)]
    exact ⟨v, fun w hw => z.quiet rfl rfl f (hC w hw), hK' _ (o.run _ C Q hC (f.put (by simpa using hd) v) hk)⟩⟩
theorem t1n {d j dj : Nat} {want b : Bool} (hd : Nat.blt d n = true) (hj : (ops[j]?).bind (·.dst) = some dj) (hv : look E dj = some (.bool b)) (hb : b = !want)
    (o : T P ops n rest ((d, undef) :: E) h K) : T P ops n (⟨some d, op, ty, pos, af, some (j, want)⟩ :: rest) E h K :=
  ⟨fun a C Q hC f hk => wpQuiet_step fun K' hK' => by
    rw [if_neg (by rw [wanted_no f rfl hj hv hb]; simp)]
    exact hK' _ (o.run _ C Q hC (f.put (by simpa using hd) undef) hk)⟩
theorem t1u {d j dj : Nat} {want : Bool} (hd : Nat.blt d n = true) (hj : (ops[j]?).bind (·.dst) = some dj) (hv : look E dj = some undef)
    (o : T P ops n rest ((d, undef) :: E) h K) : T P ops n (⟨some d, op, ty, pos, af, some (j, want)⟩ :: rest) E h K :=
  ⟨fun a C Q hC f hk => wpQuiet_step fun K' hK' => by
    rw [if_neg (by rw [wanted_undef f rfl hj hv]; simp)]
    exact hK' _ (o.run _ C Q hC (f.put (by simpa using hd) undef) hk)⟩
theorem T.le {l : List Oper} {E' : Env} (hl : Le E' E) (o : T P ops n l E h K) : T P ops n l E' h K :=
  ⟨fun a C Q hC f hk => o.run a C Q hC (f.le hl) hk⟩
theorem t_cut {l : List Oper} {M : Env → Prop} (k : Nat) (o : T P ops n (l.take k) E h M) (r : ∀ E', M E' → T P ops n (l.drop k) E' h K) : T P ops n l E h K :=
  ⟨fun a C Q hC f hk => by
    rw [← List.take_append_drop k l]
    refine wpQuiet_par _ _ (o.run a C _ hC f fun E' a' f' m => ?_)
    exact (r E' m).run a' C Q hC f' hk⟩
theorem t_and {l : List Oper} (k : Nat) {b c : Bool} {dj d : Nat} (hv : look E dj = some (.bool b))
    (ht : b = true → T P ops n (l.take k) E h (fun E' => look E' d = some (.bool c) ∧ Le E' E))
    (hf : b = false → T P ops n (l.take k) E h (fun E' => look E' d = some (.bool false) ∧ Le E' E))
    (rest : T P ops n (l.drop k) ((d, .bool (b && c)) :: E) h K) : T P ops n l E h K := by
  cases b with
  | true => exact t_cut k (ht rfl) (by rintro E' ⟨h1, h2⟩; exact rest.le (le_t h1 h2))
  | false => exact t_cut k (hf rfl) (by rintro E' ⟨h1, h2⟩; exact rest.le (le_t h1 h2))
theorem t_or {l : List Oper} (k : Nat) {b c : Bool} {dj d : Nat} (hv : look E dj = some (.bool b))
    (ht : b = false → T P ops n (l.take k) E h (fun E' => look E' d = some (.bool c) ∧ Le E' E))
    (hf : b = true → T P ops n (l.take k) E h (fun E' => look E' d = some (.bool true) ∧ Le E' E))
    (rest : T P ops n (l.drop k) ((d, .bool (b || c)) :: E) h K) : T P ops n l E h K := by
  cases b with
  | false => exact t_cut k (ht rfl) (by rintro E' ⟨h1, h2⟩; exact rest.le (le_t h1 h2))
  | true => exact t_cut k (hf rfl) (by rintro E' ⟨h1, h2⟩; exact rest.le (le_t h1 h2))
theorem x_regt {id : Nat} {l : List Oper} {Q : Post} (hm : P.follows .mixedOrders = true) (hB : Region.lexB .any l.toArray = true) (y : T P l.toArray n l E h (fun E' => Q .normal E' h)) : X none P n (.region id l.toArray true) E h Q :=
  ⟨fun a w f hw => by
    subst hw
    refine (wpIn_wide (n := 0)).2 ?_
    refine wp_region_quiet (C := Cs w.heap w) hm hB ⟨rfl, rfl, rfl, rfl⟩ ?_
    exact y.run a _ _ (fun _ hw => hw.1) f fun E' a' f' k w' hw' => ⟨E', f', hw'.2, by rw [hw'.1]; exact k⟩⟩
theorem still_of_quiet {w : World} : ∀ (l : List Oper) (a : Act) {Q : Act → Prop}, wpQuiet P ops (· = w) Q l a → wpStill P ops w Q l a
  | [], _, _, h => h
  | o :: l, a, Q, h => by
    unfold wpQuiet at h
    unfold wpStill
    split at h
    · rename_i hw
      rw [if_pos hw]
      obtain ⟨v, hv, hn⟩ := h
      have hv := hv w rfl
      have hn := still_of_quiet l _ hn
      unfold Oper.quietAt Oper.quietUpon at hv
      unfold Oper.still Oper.stillUpon
      generalize (execOp a.eval o).run P w = r at hv ⊢
      cases r with
      | halt x w' => exact hv.elim
      | ok nx w' =>
        cases nx with
        | value u => obtain ⟨h1, h2⟩ := hv; subst h1; subst h2; exact ⟨rfl, hn⟩
        | skip => obtain ⟨h1, h2⟩ := hv; subst h1; subst h2; exact ⟨rfl, hn⟩
        | enter f args => obtain ⟨h1, hc⟩ := hv; subst h1; exact ⟨rfl, v, hc, hn⟩
        | _ => exact hv.elim
    · rename_i hw
      rw [if_neg hw]
      exact still_of_quiet l _ h
/-- A draw region: pure operations, in whatever order, and behind all of them a chain in its order. -/
theorem x_regs (k : Nat) {id : Nat} {l : List Oper} {Q : Post} (hm : P.follows .mixedOrders = true) (hB : Region.lexTailB .any l.toArray k = true)
    (y : T P l.toArray n (l.take k) E h (fun E' => O .pl P l.toArray n (l.drop k) E' h (fun E'' h' => Q .normal E'' h'))) : X none P n (.region id l.toArray true) E h Q :=
  ⟨fun a w f hw => by
    subst hw
    refine (wpIn_wide (n := 0)).2 ?_
    refine wp_region_still_tail k hm hB (still_of_quiet _ _ ?_)
    refine y.run a _ _ (fun _ hw => by rw [hw]) f fun E' a' f' o => ?_
    refine o.run a' _ _ f' rfl fun E'' a'' w'' f'' i q => ?_
    exact ⟨E'', f'', i, q⟩⟩
end
end Go.Lx
