import Derived.TacticsIn
import Derived.RangeFuncIn
import Derived.RangeFuncNested
import Derived.RangeFuncLeaves
import Derived.RangeFuncRecord
import Derived.Orders
import Derived.Deep.Quiet
import Derived.Below
import Derived.KernelRfl
import Derived.OwnWalk
set_option linter.unusedSimpArgs false
set_option linter.unusedVariables false
namespace Go.Lx
open Go.RowKit (Below)

/-! ### Environments -/
abbrev Env := List (Nat × Value)
abbrev Hp := Array Obj

def look : Env → Nat → Option Value
  | [], _ => none
  | (k, v) :: r, t => match Nat.beq k t with
    | true => some v
    | false => look r t

/-- The place at which an environment says that the activation has the mark of a range over a function. -/
abbrev MK : Nat := 1000000000
/-- An activation's deferred calls: none; or the mark of a range over a function, r: the block of the rounds' own. -/
def mks (E : Env) : List Deferred := match look E MK with
  | some (.int _ r) => [{ target := .collected r.toNat, args := #[] }]
  | _ => []
def ev (E : Env) : Operand → Option Value
  | .tmp t => match Nat.beq t MK with
    | true => none
    | false => look E t
  | .const v => some v
  | .global g => some (.pointer (some ⟨g, 0, none⟩))
  | .func f => some (.func (.func f) #[] #[])

def evs (E : Env) : List Operand → Option (List Value)
  | [] => some []
  | x :: r => match ev E x, evs E r with
    | some v, some vs => some (v :: vs)
    | _, _ => none

/-- Nothing outside the heap and the count of draws turns. -/
def Io (w w' : World) : Prop := w'.os = w.os ∧ w'.tape = w.tape ∧ w'.output = w.output
theorem Io.refl (w : World) : Io w w := ⟨rfl, rfl, rfl⟩
theorem Io.trans {a b c : World} (h : Io a b) (k : Io b c) : Io a c := ⟨k.1.trans h.1, k.2.1.trans h.2.1, k.2.2.trans h.2.2⟩

structure Fits (n : Nat) (a : Act) (E : Env) : Prop where
  size : a.tmps.size = n
  ms : n ≤ MK
  ok : ∀ v, look E MK = some v → ∃ k r, v = .int k r
  defers : a.defers = mks E
  get : ∀ t v, look E t = some v → Nat.beq t MK = false → a.tmps.getD t undef = v

theorem Fits.ev {n : Nat} {a : Act} {E : Env} (h : Fits n a E) {x : Operand} {v : Value} (hx : ev E x = some v) : a.eval x = v := by
  cases x with
  | tmp t =>
    simp only [Lx.ev] at hx
    cases hb : Nat.beq t MK with
    | true => rw [hb] at hx; cases hx
    | false => rw [hb] at hx; exact h.get t v hx hb
  | const u => exact Option.some.inj hx
  | global g => exact Option.some.inj hx
  | func f => exact Option.some.inj hx

theorem Fits.evs {n : Nat} {a : Act} {E : Env} (h : Fits n a E) : ∀ {xs : List Operand} {vs : List Value}, evs E xs = some vs → xs.map a.eval = vs
  | [], vs, hx => by simp only [Lx.evs, Option.some.injEq] at hx; subst hx; rfl
  | x :: r, vs, hx => by
    simp only [Lx.evs] at hx
    cases h1 : Lx.ev E x with
    | none => rw [h1] at hx; simp at hx
    | some v =>
      cases h2 : Lx.evs E r with
      | none => rw [h1, h2] at hx; simp at hx
      | some us =>
        rw [h1, h2] at hx
        simp only [Option.some.injEq] at hx
        subst hx
        simp only [List.map_cons, h.ev h1, h.evs h2]

theorem beq_mk {d n : Nat} (hd : d < n) (hn : n ≤ MK) : Nat.beq d MK = false := by
  cases hb : Nat.beq d MK with
  | false => rfl
  | true => have := Nat.eq_of_beq_eq_true hb; omega
theorem look_ne {E : Env} {d t : Nat} {v : Value} (h : Nat.beq d t = false) : look ((d, v) :: E) t = look E t := by simp only [look, h]
theorem Fits.put {n : Nat} {a : Act} {E : Env} (h : Fits n a E) {d : Nat} (hd : d < n) (v : Value) : Fits n (a.put (some d) v) ((d, v) :: E) := by
  have hm := beq_mk hd h.ms
  refine ⟨by simp [Act.put, h.size], h.ms, fun u hu => h.ok u (by rwa [look_ne hm] at hu), by simp only [Act.put, h.defers, mks, look_ne hm], fun t u ht hbt => ?_⟩
  simp only [look] at ht
  by_cases e : d = t
  · subst e
    have hb : Nat.beq d d = true := by simp
    rw [hb] at ht
    simp only [Option.some.injEq] at ht
    subst ht
    have hds : d < a.tmps.size := by rw [h.size]; exact hd
    simp [Act.put, hds]
  · have hb : Nat.beq d t = false := by
      cases hh : Nat.beq d t with
      | false => rfl
      | true => exact absurd (Nat.eq_of_beq_eq_true hh) e
    rw [hb] at ht
    have := h.get t u ht hbt
    simp only [Act.put, Array.getD_eq_getD_getElem?] at this ⊢
    rw [Array.getElem?_setIfInBounds, if_neg e]
    exact this

/-- What is no number does not stand at the mark's place. -/
theorem Fits.nm {n : Nat} {a : Act} {E : Env} (h : Fits n a E) {t : Nat} {v : Value} (ht : look E t = some v) (hv : ∀ k r, v ≠ .int k r) : Nat.beq t MK = false := by
  cases hb : Nat.beq t MK with
  | false => rfl
  | true =>
    have e := Nat.eq_of_beq_eq_true hb
    rw [e] at ht
    obtain ⟨k, r, e⟩ := h.ok v ht
    exact absurd e (hv k r)
theorem Fits.get? {n : Nat} {a : Act} {E : Env} (h : Fits n a E) {t : Nat} {v : Value} (ht : look E t = some v) (hv : v ≠ undef) (hi : ∀ k r, v ≠ .int k r) : a.tmps[t]? = some v := by
  have := h.get t v ht (h.nm ht hi)
  rw [Array.getD_eq_getD_getElem?] at this
  cases hh : a.tmps[t]? with
  | none => rw [hh] at this; exact absurd this.symm hv
  | some u => rw [hh] at this; simp at this; rw [this]

/-- E holds all that E' asks. -/
def SubL (E : Env) : Env → Prop
  | [] => True
  | (k, v) :: r => look E k = some v ∧ SubL E r
def Sub (E E' : Env) : Prop := SubL E E' ∧ look E MK = look E' MK

theorem SubL.look {E : Env} : ∀ {E' : Env} {t : Nat} {v : Value}, SubL E E' → Lx.look E' t = some v → Lx.look E t = some v
  | [], _, _, _, h => by simp [Lx.look] at h
  | (k, u) :: r, t, v, hs, h => by
    simp only [Lx.look] at h
    cases hb : Nat.beq k t with
    | true =>
      rw [hb] at h
      simp only [Option.some.injEq] at h
      have := Nat.eq_of_beq_eq_true hb
      subst this; subst h
      exact hs.1
    | false =>
      rw [hb] at h
      exact SubL.look hs.2 h

theorem Fits.sub {n : Nat} {a : Act} {E E' : Env} (h : Fits n a E) (hs : Sub E E') : Fits n a E' :=
  ⟨h.size, h.ms, fun v hv => h.ok v (by rw [hs.2]; exact hv), by rw [h.defers]; simp only [mks, hs.2], fun _ _ ht hb => h.get _ _ (hs.1.look ht) hb⟩

/-! ### Judgements -/
abbrev Post := Exit → Env → Hp → Prop

/-- The fence that lets all in; ro: the round of a range over a function in which the code stands. -/
def fw (ro : Option Nat) : Fence := { Fence.wide with round := ro }
theorem calls_fw {ro : Option Nat} {n : Nat} {P : Program} {f : FuncId} {args : Array Value} {w : World} {R : Ending → World → Prop} : CallsIn (fw ro) n P f args w R ↔ Calls P f args w R :=
  Iff.trans Iff.rfl (callsIn_wide (n := n))

/-- In which theory an operation is walked: in a round, or none; or as the regions' own theories have it. -/
inductive Md where
  | inn (ro : Option Nat)
  | pl
def mwp (m : Md) (P : Program) (o : Oper) (a : Act) (w : World) (K : Act → World → Prop) (Q : Exit → Act → World → Prop) : Prop :=
  match m with
  | .inn ro => o.wpIn (fw ro) 0 P a w K Q
  | .pl => o.wp P a w K Q
def mlist (m : Md) (P : Program) (ops : Array Oper) (Q : Exit → Act → World → Prop) (l : List Oper) (a : Act) (w : World) : Prop :=
  match m with
  | .inn ro => wpListIn (fw ro) 0 P ops Q l a w
  | .pl => wpList P ops Q l a w
section
variable {m : Md} {P : Program} {ops : Array Oper} {Q : Exit → Act → World → Prop} {a : Act} {w : World} {rest : List Oper} {o : Oper}
theorem mlist_nil (h : Q .normal a w) : mlist m P ops Q [] a w := by cases m <;> exact h
theorem mlist_step (h : ∀ K : Act → World → Prop, (∀ a w, mlist m P ops Q rest a w → K a w) → if Region.wanted o (yielded ops a.tmps) then mwp m P o a w K Q else K (a.put o.dst undef) w) : mlist m P ops Q (o :: rest) a w := by
  cases m with
  | inn ro =>
    refine wpListIn_step fun K hK => ?_
    have := h K hK
    split
    · rename_i hw; rw [if_pos hw] at this; exact this
    · rename_i hw; rw [if_neg hw] at this; exact ⟨fun _ _ => trivial, this⟩
  | pl => exact wpList_step h
theorem mlist_plain (hg : o.guard = none) (h : ∀ K : Act → World → Prop, (∀ a w, mlist m P ops Q rest a w → K a w) → mwp m P o a w K Q) : mlist m P ops Q (o :: rest) a w :=
  mlist_step fun K hK => by simp only [Region.wanted, hg, if_true]; exact h K hK
end

/-- What a piece of code does, from an environment and a heap. -/
structure X (ro : Option Nat) (P : Program) (n : Nat) (c : Code) (E : Env) (h : Hp) (Q : Post) : Prop where
  run : ∀ a w, Fits n a E → w.heap = h → c.wpIn (fw ro) 0 P (fun e a' w' => ∃ E', Fits n a' E' ∧ Io w w' ∧ Q e E' w'.heap) a w

/-- What a list of operations of a region (carried out in this order) does. -/
structure O (m : Md) (P : Program) (ops : Array Oper) (n : Nat) (l : List Oper) (E : Env) (h : Hp) (K : Env → Hp → Prop) : Prop where
  run : ∀ a w Q, Fits n a E → w.heap = h → (∀ E' a' w', Fits n a' E' → Io w w' → K E' w'.heap → Q .normal a' w') → mlist m P ops Q l a w

/-- What one operation yields. -/
structure S (P : Program) (op : Op) (ty : TypeId) (E : Env) (h : Hp) (K : Value → Hp → Prop) : Prop where
  run : ∀ m n a w (o : Oper) K' Q, o.op = op → o.type = ty → Fits n a E → w.heap = h → (∀ v w', Io w w' → K v w'.heap → K' (a.put o.dst v) w') → mwp m P o a w K' Q

/-- A call: whatever the world, if its heap is h: it returns a value. -/
structure C (P : Program) (f : FuncId) (args : List Value) (h : Hp) (R : Value → Hp → Prop) : Prop where
  run : ∀ w, w.heap = h → Calls P f args.toArray w fun e w' => ∃ v, e = .returned v ∧ Io w w' ∧ R v w'.heap

theorem C.mono {P : Program} {f : FuncId} {args : List Value} {h : Hp} {R R' : Value → Hp → Prop} (c : C P f args h R) (hr : ∀ v h', R v h' → R' v h') : C P f args h R' :=
  ⟨fun w hw => (c.run w hw).mono fun _ _ ⟨v, he, hi, r⟩ => ⟨v, he, hi, hr _ _ r⟩⟩

/-! ### Code -/
section code
variable {ro : Option Nat} {P : Program} {n : Nat} {E : Env} {h : Hp} {Q : Post}

theorem X.mono {c : Code} {Q' : Post} (x : X ro P n c E h Q) (hq : ∀ e E h, Q e E h → Q' e E h) : X ro P n c E h Q' :=
  ⟨fun a w ha hw => wpIn_mono (x.run a w ha hw) fun _ _ _ ⟨E', f, i, q⟩ => ⟨E', f, i, hq _ _ _ q⟩⟩

theorem X.sub {c : Code} {E' : Env} (hs : Sub E E') (x : X ro P n c E' h Q) : X ro P n c E h Q :=
  ⟨fun a w ha hw => x.run a w (ha.sub hs) hw⟩

theorem x_skip (q : Q .normal E h) : X ro P n .skip E h Q := ⟨fun _ w ha hw => wpIn_skip ⟨E, ha, Io.refl w, hw ▸ q⟩⟩
theorem x_label {l : Nat} (q : Q .normal E h) : X ro P n (.label l) E h Q := ⟨fun _ w ha hw => wpIn_label ⟨E, ha, Io.refl w, hw ▸ q⟩⟩
theorem x_exit {id : Nat} (q : Q (.exit id) E h) : X ro P n (.exit id) E h Q := ⟨fun _ w ha hw => wpIn_exit ⟨E, ha, Io.refl w, hw ▸ q⟩⟩
theorem x_goto {l : Nat} (q : Q (.goto l) E h) : X ro P n (.goto l) E h Q := ⟨fun _ w ha hw => wpIn_goto ⟨E, ha, Io.refl w, hw ▸ q⟩⟩
theorem x_ret (q : Q .ret E h) : X ro P n .ret E h Q := ⟨fun _ w ha hw => wpIn_ret ⟨E, ha, Io.refl w, hw ▸ q⟩⟩

/-- Where the code goes on by itself: K; else Q. -/
def Th (K : Env → Hp → Prop) (Q : Post) : Post
  | .normal, E, h => K E h
  | e, E, h => Q e E h

/-- Io may be prefixed. -/
theorem wp_io {c : Code} {a : Act} {w w0 : World} {Q' : Post} (hi : Io w0 w) (x : c.wpIn (fw ro) 0 P (fun e a' w' => ∃ E', Fits n a' E' ∧ Io w w' ∧ Q' e E' w'.heap) a w) :
    c.wpIn (fw ro) 0 P (fun e a' w' => ∃ E', Fits n a' E' ∧ Io w0 w' ∧ Q' e E' w'.heap) a w :=
  wpIn_mono x fun _ _ _ ⟨E', f, i, q⟩ => ⟨E', f, hi.trans i, q⟩

theorem x_seq {c d : Code} (x : X ro P n c E h (Th (fun E' h' => X ro P n d E' h' Q) Q)) : X ro P n (.seq c d) E h Q :=
  ⟨fun a w ha hw => wpIn_seq (wpIn_mono (x.run a w ha hw) fun e a' w' ⟨E', f, i, q⟩ => by
    cases e with
    | normal => exact wp_io i (q.run a' w' f rfl)
    | exit id => exact ⟨E', f, i, q⟩
    | goto l => exact ⟨E', f, i, q⟩
    | ret => exact ⟨E', f, i, q⟩
    | panic l => exact ⟨E', f, i, q⟩
    | outgrown => exact ⟨E', f, i, q⟩)⟩

theorem x_cond {c : Operand} {x y : Code} {b : Bool} (hc : ev E c = some (.bool b)) (ht : b = true → X ro P n x E h Q) (hf : b = false → X ro P n y E h Q) : X ro P n (.cond c x y) E h Q :=
  ⟨fun a w ha hw => wpIn_cond_split (ha.ev hc) (fun e => (ht e).run a w ha hw) (fun e => (hf e).run a w ha hw)⟩

theorem x_cond_t {c : Operand} {x y : Code} (hc : ev E c = some (.bool true)) (ht : X ro P n x E h Q) : X ro P n (.cond c x y) E h Q :=
  x_cond hc (fun _ => ht) (fun e => by cases e)
theorem x_cond_f {c : Operand} {x y : Code} (hc : ev E c = some (.bool false)) (hf : X ro P n y E h Q) : X ro P n (.cond c x y) E h Q :=
  x_cond hc (fun e => by cases e) (fun _ => hf)

/-- A block: an exit by its number goes on behind it. -/
def Bk (id : Nat) (Q : Post) : Post
  | .exit j, E, h => match Nat.beq j id with
    | true => Q .normal E h
    | false => Q (.exit j) E h
  | e, E, h => Q e E h

theorem x_block {id : Nat} {c : Code} (x : X ro P n c E h (Bk id Q)) : X ro P n (.block id c) E h Q :=
  ⟨fun a w ha hw => wpIn_block (wpIn_mono (x.run a w ha hw) fun e a' w' ⟨E', f, i, q⟩ => by
    cases e with
    | normal => exact ⟨E', f, i, q⟩
    | exit j =>
      simp only [Bk] at q
      simp only [Exit.inBlock]
      split
      · rename_i e
        subst e
        have hb : Nat.beq j j = true := by simp
        rw [hb] at q
        exact ⟨E', f, i, q⟩
      · rename_i e
        have hb : Nat.beq j id = false := by
          cases hh : Nat.beq j id with
          | false => rfl
          | true => exact absurd (Nat.eq_of_beq_eq_true hh) e
        rw [hb] at q
        exact ⟨E', f, i, q⟩
    | goto l => exact ⟨E', f, i, q⟩
    | ret => exact ⟨E', f, i, q⟩
    | panic l => exact ⟨E', f, i, q⟩
    | outgrown => exact ⟨E', f, i, q⟩)⟩

/-- A loop: I: what holds at the head of each round, of a state s; it starts at s0; each round either comes to the head at a state that is less, or leaves. -/
theorem x_loop {σ : Type} {c : Code} (I : σ → Env) (J : σ → Hp → Prop) (μ : σ → Nat) (s0 : σ) (hs : Sub E (I s0)) (hj : J s0 h)
    (round : ∀ s h, J s h → X ro P n c (I s) h (Th (fun E' h' => ∃ s', Sub E' (I s') ∧ J s' h' ∧ μ s' < μ s) Q)) : X ro P n (.loop c) E h Q := by
  refine ⟨fun a w ha hw => ?_⟩
  intro b k cs hro hb hr
  have key : ∀ (m : Nat) (s : σ) (a : Act) (w1 : World), μ s = m → Fits n a (I s) → Io w w1 → J s w1.heap →
      ∃ e a' w', (∃ E', Fits n a' E' ∧ Io w w' ∧ Q e E' w'.heap) ∧
        ArrivesIn (Machine.fenced P (fw ro)) P (lone (b.atR a (.code c :: .inLoop c :: k)) cs w1) b k cs e a' w' := by
    intro m
    induction m using Nat.strongRecOn with
    | _ m ih =>
      intro s a w1 hm hf hi hJ
      obtain ⟨e, a1, w2, ⟨E1, f1, i1, q1⟩, harr⟩ := (round s w1.heap hJ).run a w1 hf rfl b (.inLoop c :: k) cs hro hb hr
      cases e with
      | normal =>
        obtain ⟨s', hs', hJ', hlt⟩ := q1
        obtain ⟨e2, a2, w3, hq, harr2⟩ := ih (μ s') (hm ▸ hlt) s' a1 w2 rfl (f1.sub hs') (hi.trans i1) hJ'
        exact ⟨e2, a2, w3, hq, .of_steps (StepsIn.trans harr (.one (fenced_calm hb hr rfl) stepR_inLoop)) harr2⟩
      | exit id => exact ⟨_, a1, w2, ⟨E1, f1, hi.trans i1, q1⟩, .pass (x := .inLoop c) rfl (fun _ _ => .inl (by simp)) harr⟩
      | goto l => exact ⟨_, a1, w2, ⟨E1, f1, hi.trans i1, q1⟩, .pass (x := .inLoop c) rfl (fun _ _ => .inl (by simp)) harr⟩
      | ret => exact ⟨_, a1, w2, ⟨E1, f1, hi.trans i1, q1⟩, .pass (x := .inLoop c) rfl (fun _ _ => .inl (by simp)) harr⟩
      | panic ch => exact ⟨_, a1, w2, ⟨E1, f1, hi.trans i1, q1⟩, .pass (x := .inLoop c) rfl (fun _ _ => .inl (by simp)) harr⟩
      | outgrown => exact ⟨_, a1, w2, ⟨E1, f1, hi.trans i1, q1⟩, .pass (x := .inLoop c) rfl (fun _ _ => .inl (by simp)) harr⟩
  obtain ⟨e, a', w', hq, harr⟩ := key _ s0 a w rfl (ha.sub hs) (Io.refl w) (hw ▸ hj)
  exact ⟨e, a', w', hq, .of_steps (.one (fenced_calm hb hr rfl) stepR_loop) harr⟩

/-- A cut: what follows is shown once, of whatever state s. -/
theorem x_cut {σ : Type} {c d : Code} (I : σ → Env) (J : σ → Hp → Prop) (x : X ro P n c E h (Th (fun E' h' => ∃ s, Sub E' (I s) ∧ J s h') Q))
    (rest : ∀ s h, J s h → X ro P n d (I s) h Q) : X ro P n (.seq c d) E h Q :=
  x_seq (x.mono fun e E1 h1 q => by
    cases e with
    | normal => obtain ⟨s, hs, hJ⟩ := q; exact (rest s h1 hJ).sub hs
    | exit id => exact q
    | goto l => exact q
    | ret => exact q
    | panic l => exact q
    | outgrown => exact q)

theorem x_region {id : Nat} {l : List Oper} (o : O (.inn ro) P l.toArray n l E h (fun E' h' => Q .normal E' h')) : X ro P n (.region id l.toArray false) E h Q :=
  ⟨fun a w ha hw => wpIn_region_lit (o.run a w _ ha hw fun E' a' w' f i q => ⟨E', f, i, q⟩)⟩

/-- A region whose end is the same on each way through it. -/
theorem x_region_cut {σ : Type} {id : Nat} {l : List Oper} (I : σ → Env) (J : σ → Hp → Prop) (o : O (.inn ro) P l.toArray n l E h (fun E' h' => ∃ s, Sub E' (I s) ∧ J s h'))
    (rest : ∀ s h, J s h → Q .normal (I s) h) : X ro P n (.region id l.toArray false) E h Q :=
  ⟨fun a w ha hw => wpIn_region_lit (o.run a w _ ha hw fun E' a' w' f i ⟨s, hs, hJ⟩ => ⟨I s, f.sub hs, i, rest s _ hJ⟩)⟩
end code

/-! ### Entering a function -/
def params : Nat → List Value → Env
  | _, [] => []
  | i, v :: r => (i, v) :: params (i + 1) r

theorem look_params : ∀ (vs : List Value) (i t : Nat) (v : Value), look (params i vs) t = some v → i ≤ t ∧ vs[t - i]? = some v
  | [], _, _, _, h => by simp [params, look] at h
  | u :: r, i, t, v, h => by
    simp only [params, look] at h
    cases hb : Nat.beq i t with
    | true =>
      rw [hb] at h
      simp only [Option.some.injEq] at h
      have := Nat.eq_of_beq_eq_true hb
      subst this; subst h
      simp
    | false =>
      rw [hb] at h
      obtain ⟨h1, h2⟩ := look_params r (i + 1) t v h
      refine ⟨by omega, ?_⟩
      have : t - i = (t - (i + 1)) + 1 := by omega
      rw [this]
      simpa using h2

/-- What a function hands back: each result out of its place. -/
def RetOk (P : Program) (E : Env) (h : Hp) : ResultVar → Value → Prop
  | .tmp t, v => ev E (.tmp t) = some v
  | .cell a t, v => ∃ p, look E a = some (.pointer (some p)) ∧ ∀ w, w.heap = h → (loadVar t p).run P w = .ok v w

def RetsOk (P : Program) (E : Env) (h : Hp) : List ResultVar → List Value → Prop
  | [], [] => True
  | r :: rs, v :: vs => RetOk P E h r v ∧ RetsOk P E h rs vs
  | _, _ => False

def retv : List Value → Value
  | [v] => v
  | vs => .tuple vs.toArray

/-- What a function's leaving does to memory: a mark's block is shut. -/
def Lv (E : Env) (h h2 : Hp) : Prop := match look E MK with
  | some (.int _ r) => h[r.toNat]? = some (.deferred (some [])) ∧ h2 = h.setIfInBounds r.toNat (.deferred none)
  | _ => h2 = h
theorem Lv.nil {E : Env} {h : Hp} (hk : look E MK = none) : Lv E h h := by unfold Lv; rw [hk]
theorem Lv.mark {E : Env} {h : Hp} {k : IntKind} {r : Int} (hk : look E MK = some (.int k r)) (hd : h[r.toNat]? = some (.deferred (some []))) : Lv E h (h.setIfInBounds r.toNat (.deferred none)) := by unfold Lv; rw [hk]; exact ⟨hd, rfl⟩
structure FinP (P : Program) (rs : List ResultVar) (R : Value → Hp → Prop) (E : Env) (h : Hp) : Prop where
  ok : ∃ h2 vs, Lv E h h2 ∧ RetsOk P E h2 rs vs ∧ R (retv vs) h2

def Fin (P : Program) (rs : List ResultVar) (R : Value → Hp → Prop) : Post
  | .normal, E, h | .ret, E, h => FinP P rs R E h
  | _, _, _ => False

section
variable {P : Program} {R : Value → Hp → Prop} {E : Env} {h h2 : Hp} {r r' r'' : ResultVar} {v v' v'' : Value}
theorem fin0 (q : R (.tuple #[]) h) (hk : look E MK = none := by rfl) : FinP P [] R E h := ⟨h, [], .nil hk, trivial, q⟩
theorem fin1 (hr : RetOk P E h r v) (q : R v h) (hk : look E MK = none := by rfl) : FinP P [r] R E h := ⟨h, [v], .nil hk, ⟨hr, trivial⟩, q⟩
theorem fin2 (hr : RetOk P E h r v) (hr' : RetOk P E h r' v') (q : R (.tuple #[v, v']) h) (hk : look E MK = none := by rfl) : FinP P [r, r'] R E h := ⟨h, [v, v'], .nil hk, ⟨hr, hr', trivial⟩, q⟩
theorem fin3 (hr : RetOk P E h r v) (hr' : RetOk P E h r' v') (hr'' : RetOk P E h r'' v'') (q : R (.tuple #[v, v', v'']) h) (hk : look E MK = none := by rfl) : FinP P [r, r', r''] R E h := ⟨h, [v, v', v''], .nil hk, ⟨hr, hr', hr'', trivial⟩, q⟩
theorem fin0m (l : Lv E h h2) (q : R (.tuple #[]) h2) : FinP P [] R E h := ⟨h2, [], l, trivial, q⟩
theorem fin1m (l : Lv E h h2) (hr : RetOk P E h2 r v) (q : R v h2) : FinP P [r] R E h := ⟨h2, [v], l, ⟨hr, trivial⟩, q⟩
theorem fin2m (l : Lv E h h2) (hr : RetOk P E h2 r v) (hr' : RetOk P E h2 r' v') (q : R (.tuple #[v, v']) h2) : FinP P [r, r'] R E h := ⟨h2, [v, v'], l, ⟨hr, hr', trivial⟩, q⟩
end

def resOne (tmps : Array Value) : ResultVar → Sem Value
  | .tmp t => pure (tmps.getD t undef)
  | .cell a t => do
    let d ← asAddr (tmps.getD a undef)
    loadVar t d

theorem resOne_run {n : Nat} {a : Act} {E : Env} {P : Program} {w : World} (f : Fits n a E) {r : ResultVar} {v : Value} (h : RetOk P E w.heap r v) : (resOne a.tmps r).run P w = .ok v w := by
  cases r with
  | tmp t =>
    have e : a.tmps.getD t undef = v := f.ev (x := .tmp t) h
    simp only [resOne, e]; rfl
  | cell q t =>
    obtain ⟨p, h1, h2⟩ := h
    simp only [resOne, f.get q _ h1 (f.nm h1 (by intro k r e; cases e))]
    simp [asAddr, h2 w rfl]

theorem results_eq (fn : Func) (tmps : Array Value) : results fn tmps = (do
    let vs ← fn.results.mapM (resOne tmps)
    pure (if h : vs.size = 1 then vs[0] else Value.tuple vs)) := by
  unfold results
  congr 2

theorem rets_run {n : Nat} {a : Act} {E : Env} (f : Fits n a E) (P : Program) (w : World) {fn : Func} {rs : List ResultVar} {vs : List Value} (hfn : fn.results = rs.toArray)
    (hl : rs.length ≤ 3) (hr : RetsOk P E w.heap rs vs) : (results fn a.tmps).run P w = .ok (retv vs) w := by
  rw [results_eq, hfn]
  match rs, hl, vs, hr with
  | [], _, [], _ => simp [retv]
  | [r], _, [v], ⟨h1, _⟩ => simp [resOne_run f h1, retv]
  | [r, r'], _, [v, v'], ⟨h1, h2, _⟩ => simp [resOne_run f h1, resOne_run f h2, retv]
  | [r, r', r''], _, [v, v', v''], ⟨h1, h2, h3, _⟩ => simp [resOne_run f h1, resOne_run f h2, resOne_run f h3, retv]

theorem enter {P : Program} {f : FuncId} {fn : Func} {c : Code} {n : Nat} {rs : List ResultVar} {args : List Value} {h : Hp} {R : Value → Hp → Prop}
    (hf : P.funcs[f]? = some fn) (hb : fn.body = some c) (hn : fn.ntmps = n) (hr : fn.results = rs.toArray) (hl : Nat.ble rs.length 3 = true) (ha0 : Nat.ble args.length n = true)
    (x : X none P n c (params 0 args) h (Fin P rs R)) (hm : Nat.ble n MK = true := by rfl) (hk : look (params 0 args) MK = none := by rfl) : C P f args h R := by
  have hm := Nat.le_of_ble_eq_true hm
  have hl := Nat.le_of_ble_eq_true hl
  have ha := Nat.le_of_ble_eq_true ha0
  refine ⟨fun w hw => callsIn_wide (n := 0) |>.1 (callsIn_of_wp_marks hf hb trivial ?_)⟩
  have hfit : Fits n { tmps := args.toArray ++ Array.replicate (fn.ntmps - args.toArray.size) undef, defers := [] } (params 0 args) := by
    refine ⟨by simp [hn]; omega, hm, fun v hv => (by rw [hk] at hv; cases hv), by unfold mks; rw [hk], fun t v ht _ => ?_⟩
    obtain ⟨_, h2⟩ := look_params args 0 t v ht
    simp only [Nat.sub_zero] at h2
    have hlt : t < args.length := by
      rcases Nat.lt_or_ge t args.length with h | h
      · exact h
      · rw [List.getElem?_eq_none h] at h2; cases h2
    simp only [Array.getD_eq_getD_getElem?]
    rw [Array.getElem?_append_left (by simpa using hlt)]
    simp [h2]
  refine wpIn_mono (x.run _ w hfit hw) fun e a' w' ⟨E', f', i, q⟩ => ?_
  have key : FinP P rs R E' w'.heap → LeavesInM (fw none) 0 P fn a'.tmps (fun e w' => ∃ v, e = .returned v ∧ Io w w' ∧ R v w'.heap) a'.defers .returning w' := by
    rintro ⟨h2, vs, lv, hv, hR⟩
    have fd := f'.defers
    unfold mks at fd
    unfold Lv at lv
    cases hl' : look E' MK with
    | none =>
      rw [hl'] at fd lv
      subst lv
      rw [fd]
      exact ⟨_, rets_run f' P w' hr hl hv, _, rfl, i, hR⟩
    | some u =>
      obtain ⟨k, r, rfl⟩ := f'.ok u hl'
      rw [hl'] at fd lv
      obtain ⟨l1, rfl⟩ := lv
      rw [fd]
      refine ⟨by simp, .inl ⟨r.toNat, w'.putObj r.toNat (.deferred none), rfl, ?_, ?_⟩⟩
      · exact run_takeDeferred l1
      · exact ⟨_, rets_run f' P (w'.putObj r.toNat (.deferred none)) hr hl hv, _, rfl, i, hR⟩
  cases e with
  | normal => exact key q
  | ret => exact key q
  | exit id => exact q.elim
  | goto l => exact q.elim
  | panic l => exact q.elim
  | outgrown => exact q.elim

/-! ### Regions' operations -/
section ops
variable {m : Md} {P : Program} {ops : Array Oper} {n : Nat} {E : Env} {h : Hp} {K : Env → Hp → Prop} {rest : List Oper} {op : Op} {ty : TypeId} {pos : String} {af : Array Edge}

theorem o_nil (q : K E h) : O m P ops n [] E h K := ⟨fun a w Q f hw hk => mlist_nil (hk E a w f (Io.refl w) (hw ▸ q))⟩

theorem O.mono {l : List Oper} {K' : Env → Hp → Prop} (o : O m P ops n l E h K) (hk : ∀ E h, K E h → K' E h) : O m P ops n l E h K' :=
  ⟨fun a w Q f hw hq => o.run a w Q f hw fun E' a' w' f' i k => hq E' a' w' f' i (hk _ _ k)⟩

theorem O.sub {l : List Oper} {E' : Env} (hs : Sub E E') (o : O m P ops n l E' h K) : O m P ops n l E h K :=
  ⟨fun a w Q f hw hq => o.run a w Q (f.sub hs) hw hq⟩

theorem o1 {d : Nat} (hd : Nat.blt d n = true) (s : S P op ty E h (fun v h' => O m P ops n rest ((d, v) :: E) h' K)) : O m P ops n (⟨some d, op, ty, pos, af, none⟩ :: rest) E h K := by
  refine ⟨fun a w Q f hw hk => mlist_plain rfl fun K' hK' => ?_⟩
  refine s.run m n a w _ K' Q rfl rfl f hw fun v w' i q => hK' _ _ ?_
  exact q.run _ w' Q (f.put (by simpa using hd) v) rfl fun E' a' w'' f' i' k => hk E' a' w'' f' (i.trans i') k

theorem o0 (s : S P op ty E h (fun _ h' => O m P ops n rest E h' K)) : O m P ops n (⟨none, op, ty, pos, af, none⟩ :: rest) E h K := by
  refine ⟨fun a w Q f hw hk => mlist_plain rfl fun K' hK' => ?_⟩
  refine s.run m n a w _ K' Q rfl rfl f hw fun v w' i q => hK' _ _ ?_
  exact q.run _ w' Q f rfl fun E' a' w'' f' i' k => hk E' a' w'' f' (i.trans i') k

theorem wanted_yes {a : Act} {o : Oper} {j dj : Nat} {want : Bool} (f : Fits n a E) (hg : o.guard = some (j, want)) (hj : (ops[j]?).bind (·.dst) = some dj) (hv : look E dj = some (.bool want)) :
    Region.wanted o (yielded ops a.tmps) = true := by
  have := f.get? hv (by simp [undef]) (by intro k r e; cases e)
  simp [Region.wanted, hg, yielded, hj, this]

theorem wanted_no {a : Act} {o : Oper} {j dj : Nat} {want b : Bool} (f : Fits n a E) (hg : o.guard = some (j, want)) (hj : (ops[j]?).bind (·.dst) = some dj) (hv : look E dj = some (.bool b)) (hb : b = !want) :
    Region.wanted o (yielded ops a.tmps) = false := by
  have := f.get? hv (by simp [undef]) (by intro k r e; cases e)
  subst hb
  simp [Region.wanted, hg, yielded, hj, this]

theorem wanted_undef {a : Act} {o : Oper} {j dj : Nat} {want : Bool} (f : Fits n a E) (hg : o.guard = some (j, want)) (hj : (ops[j]?).bind (·.dst) = some dj) (hv : look E dj = some undef) :
    Region.wanted o (yielded ops a.tmps) = false := by
  have h1 := f.get dj _ hv (f.nm hv (by intro k r e; cases e))
  rw [Array.getD_eq_getD_getElem?] at h1
  cases h2 : a.tmps[dj]? with
  | none => simp [Region.wanted, hg, yielded, hj, h2]
  | some u =>
    rw [h2] at h1
    simp only [Option.getD_some] at h1
    subst h1
    simp [Region.wanted, hg, yielded, hj, h2, undef]

theorem o1g {d j dj : Nat} {want : Bool} (hd : Nat.blt d n = true) (hj : (ops[j]?).bind (·.dst) = some dj) (hv : look E dj = some (.bool want))
    (s : S P op ty E h (fun v h' => O m P ops n rest ((d, v) :: E) h' K)) : O m P ops n (⟨some d, op, ty, pos, af, some (j, want)⟩ :: rest) E h K := by
  refine ⟨fun a w Q f hw hk => mlist_step fun K' hK' => ?_⟩
  rw [if_pos (wanted_yes f rfl hj hv)]
  refine s.run m n a w _ K' Q rfl rfl f hw fun v w' i q => hK' _ _ ?_
  exact q.run _ w' Q (f.put (by simpa using hd) v) rfl fun E' a' w'' f' i' k => hk E' a' w'' f' (i.trans i') k

theorem o0g {j dj : Nat} {want : Bool} (hj : (ops[j]?).bind (·.dst) = some dj) (hv : look E dj = some (.bool want))
    (s : S P op ty E h (fun _ h' => O m P ops n rest E h' K)) : O m P ops n (⟨none, op, ty, pos, af, some (j, want)⟩ :: rest) E h K := by
  refine ⟨fun a w Q f hw hk => mlist_step fun K' hK' => ?_⟩
  rw [if_pos (wanted_yes f rfl hj hv)]
  refine s.run m n a w _ K' Q rfl rfl f hw fun v w' i q => hK' _ _ ?_
  exact q.run _ w' Q f rfl fun E' a' w'' f' i' k => hk E' a' w'' f' (i.trans i') k

theorem o1n {d j dj : Nat} {want b : Bool} (hd : Nat.blt d n = true) (hj : (ops[j]?).bind (·.dst) = some dj) (hv : look E dj = some (.bool b)) (hb : b = !want)
    (o : O m P ops n rest ((d, undef) :: E) h K) : O m P ops n (⟨some d, op, ty, pos, af, some (j, want)⟩ :: rest) E h K := by
  refine ⟨fun a w Q f hw hk => mlist_step fun K' hK' => ?_⟩
  rw [if_neg (by rw [wanted_no f rfl hj hv hb]; simp)]
  exact hK' _ _ (o.run _ w Q (f.put (by simpa using hd) undef) hw hk)

theorem o1u {d j dj : Nat} {want : Bool} (hd : Nat.blt d n = true) (hj : (ops[j]?).bind (·.dst) = some dj) (hv : look E dj = some undef)
    (o : O m P ops n rest ((d, undef) :: E) h K) : O m P ops n (⟨some d, op, ty, pos, af, some (j, want)⟩ :: rest) E h K := by
  refine ⟨fun a w Q f hw hk => mlist_step fun K' hK' => ?_⟩
  rw [if_neg (by rw [wanted_undef f rfl hj hv]; simp)]
  exact hK' _ _ (o.run _ w Q (f.put (by simpa using hd) undef) hw hk)

theorem o0n {j dj : Nat} {want b : Bool} (hj : (ops[j]?).bind (·.dst) = some dj) (hv : look E dj = some (.bool b)) (hb : b = !want)
    (o : O m P ops n rest E h K) : O m P ops n (⟨none, op, ty, pos, af, some (j, want)⟩ :: rest) E h K := by
  refine ⟨fun a w Q f hw hk => mlist_step fun K' hK' => ?_⟩
  rw [if_neg (by rw [wanted_no f rfl hj hv hb]; simp)]
  exact hK' _ _ (o.run _ w Q f hw hk)

theorem o0u {j dj : Nat} {want : Bool} (hj : (ops[j]?).bind (·.dst) = some dj) (hv : look E dj = some undef)
    (o : O m P ops n rest E h K) : O m P ops n (⟨none, op, ty, pos, af, some (j, want)⟩ :: rest) E h K := by
  refine ⟨fun a w Q f hw hk => mlist_step fun K' hK' => ?_⟩
  rw [if_neg (by rw [wanted_undef f rfl hj hv]; simp)]
  exact hK' _ _ (o.run _ w Q f hw hk)
end ops
end Go.Lx
