import Derived.Test.YteeienbhmkiloaaGreatDoorLI
set_option linter.unusedSimpArgs false
set_option linter.unusedVariables false
namespace Go.Lx

/-! ### Steps of memory; M: the blocks that may be written, of which no datum that is read-only makes use -/
structure Gr (M : Nat → Prop) (h : Hp) (M' : Nat → Prop) (h' : Hp) : Prop where
  kp : Kp M h h'
  old : ∀ b, b < h.size → M' b → M b
theorem Gr.ext {M : Nat → Prop} {h h' : Hp} (x : Ext h h') : Gr M h M h' := ⟨Kp.of_ext x, fun _ _ h => h⟩
theorem Gr.refl (M : Nat → Prop) (h : Hp) : Gr M h M h := ⟨Kp.refl _ _, fun _ _ h => h⟩

/-- The blocks of a slice that may be written. -/
abbrev Ob (a : Option Addr) (cap : Nat) (b : Nat) : Prop := 0 < cap ∧ b = bk a

/-- Where a call has come: N, h0: at its entry; S: what it may write of what was there; M, h: now. -/
structure St (N : Nat → Prop) (h0 : Hp) (S : Nat → Prop) (M : Nat → Prop) (h : Hp) : Prop where
  kp : Kp S h0 h
  inp : ∀ b, b < h0.size → M b → N b
  sub : ∀ b, N b → M b
  lt : ∀ b, M b → b < h.size
  sN : ∀ b, S b → N b
theorem St.gr {N S M : Nat → Prop} {h0 h : Hp} (s : St N h0 S M h) : Gr N h0 M h := ⟨s.kp.mono fun _ _ => s.sN _, s.inp⟩
theorem St.init {N : Nat → Prop} {h0 : Hp} (hN : ∀ b, N b → b < h0.size) : St N h0 (fun _ => False) N h0 := ⟨Kp.refl _ _, fun _ _ h => h, fun _ h => h, hN, fun _ h => h.elim⟩
theorem St.initS {N S : Nat → Prop} {h0 : Hp} (hN : ∀ b, N b → b < h0.size) (hS : ∀ b, S b → N b) : St N h0 S N h0 := ⟨Kp.refl _ _, fun _ _ h => h, fun _ h => h, hN, hS⟩
theorem St.ext {N S M : Nat → Prop} {h0 h h' : Hp} (s : St N h0 S M h) (x : Ext h h') : St N h0 S M h' :=
  ⟨s.kp.tr x, s.inp, s.sub, fun b hb => Nat.lt_of_lt_of_le (s.lt b hb) x.size, s.sN⟩
theorem St.x {N M : Nat → Prop} {h0 h : Hp} (s : St N h0 (fun _ => False) M h) : Ext h0 h := s.kp
/-- M with one block more. -/
structure Nm (M : Nat → Prop) (h : Hp) (b : Nat) (M' : Nat → Prop) : Prop where
  sub : ∀ c, M c → M' c
  old : ∀ c, c < h.size → M' c → M c
  mem : M' b
  only : ∀ c, M' c → M c ∨ c = b
theorem nm {M : Nat → Prop} {h h' : Hp} {b : Nat} {o : Obj} (n : New h h' b o) : ∃ M', Nm M h b M' :=
  ⟨fun c => M c ∨ c = b, fun c hc => .inl hc, fun c hc h => h.elim id fun e => by have := n.at_; omega, .inr rfl, fun c h => h⟩
theorem Nm.gr {M M' : Nat → Prop} {h h' : Hp} {b : Nat} {o : Obj} (m : Nm M h b M') (n : New h h' b o) : Gr M h M' h' := ⟨Kp.of_ext n.ext, m.old⟩
theorem St.new {N S M M' : Nat → Prop} {h0 h h' : Hp} {b : Nat} {o : Obj} (s : St N h0 S M h) (n : New h h' b o) (m : Nm M h b M') : St N h0 S M' h' :=
  ⟨s.kp.tr n.ext, fun c hc hm => s.inp c hc (m.old c (Nat.lt_of_lt_of_le hc s.kp.size) hm), fun c hc => m.sub c (s.sub c hc),
    fun c hc => by have := n.size; have := n.at_; rcases m.only c hc with h | h; · have := s.lt c h; omega
                   · omega, s.sN⟩
theorem St.upd {N S M : Nat → Prop} {h0 h h' : Hp} {b : Nat} {cs : List Value} {T : TypeId} (s : St N h0 S M h) (u : Upd h h' b cs T) (hb : h0.size ≤ b ∨ S b) : St N h0 S M h' :=
  ⟨s.kp.own u.kp fun k hk e => by subst e; rcases hb with hb | hb; · omega
                                  · exact hb,
    s.inp, s.sub, fun c hc => by rw [u.size]; exact s.lt c hc, s.sN⟩
theorem Gr.upd {M : Nat → Prop} {h h' : Hp} {b : Nat} {cs : List Value} {T : TypeId} (u : Upd h h' b cs T) (hm : M b) : Gr M h M h' := ⟨u.kp.mono fun _ _ e => by subst e; exact hm, fun _ _ h => h⟩
/-- A step that writes W. -/
theorem St.wr {N S M W : Nat → Prop} {h0 h h' : Hp} (s : St N h0 S M h) (k : Kp W h h') (hW : ∀ b, b < h.size → W b → h0.size ≤ b ∨ S b) : St N h0 S M h' :=
  ⟨s.kp.own k fun c hc hw => by rcases hW c (Nat.lt_of_lt_of_le hc s.kp.size) hw with h | h; · omega
                                · exact h,
    s.inp, s.sub, fun c hc => Nat.lt_of_lt_of_le (s.lt c hc) k.size, s.sN⟩
theorem Gr.wr {M W : Nat → Prop} {h h' : Hp} (k : Kp W h h') (hW : ∀ b, b < h.size → W b → M b) : Gr M h M h' := ⟨k.mono hW, fun _ _ h => h⟩

/-- M behind an append: what was written, and what may be new. -/
structure Am (M : Nat → Prop) (h : Hp) (a : Option Addr) (cap : Nat) (M' : Nat → Prop) : Prop where
  sub : ∀ c, M c → M' c
  old : ∀ c, c < h.size → M' c → M c
  mem : 0 < cap → M' (bk a)
  only : ∀ c, M' c → M c ∨ Ob a cap c
/-- What an append does to memory. -/
structure Ap (h h' : Hp) (a : Option Addr) (cap : Nat) (a' : Option Addr) (cap' : Nat) : Prop where
  kp : Kp (Ob a cap) h h'
  old : ∀ b, b < h.size → Ob a' cap' b → Ob a cap b
  lt : ∀ b, Ob a' cap' b → b < h'.size
theorem am {M : Nat → Prop} {h h' : Hp} {a a' : Option Addr} {cap cap' : Nat} (p : Ap h h' a cap a' cap') (hm : ∀ b, Ob a cap b → M b) : ∃ M', Am M h a' cap' M' :=
  ⟨fun c => M c ∨ Ob a' cap' c, fun c hc => .inl hc, fun c hc h => h.elim id fun e => hm _ (p.old c hc e), fun h => .inr ⟨h, rfl⟩, fun c h => h⟩
theorem Am.gr {M M' : Nat → Prop} {h h' : Hp} {a a' : Option Addr} {cap cap' : Nat} (m : Am M h a' cap' M') (p : Ap h h' a cap a' cap') (hm : ∀ b, Ob a cap b → M b) : Gr M h M' h' :=
  ⟨p.kp.mono fun b _ hb => hm b hb, m.old⟩
theorem St.app {N S M M' : Nat → Prop} {h0 h h' : Hp} {a a' : Option Addr} {cap cap' : Nat} (s : St N h0 S M h) (p : Ap h h' a cap a' cap') (m : Am M h a' cap' M') (hB : ∀ b, Ob a cap b → h0.size ≤ b ∨ S b) : St N h0 S M' h' :=
  ⟨s.kp.own p.kp fun c hc hw => by rcases hB c hw with h | h; · omega
                                   · exact h,
    fun c hc hm => s.inp c hc (m.old c (Nat.lt_of_lt_of_le hc s.kp.size) hm), fun c hc => m.sub c (s.sub c hc),
    fun c hc => (m.only c hc).elim (fun h => Nat.lt_of_lt_of_le (s.lt c h) p.kp.size) (fun h => p.lt c h), s.sN⟩

/-! ### How data lie in memory -/
/-- Cells cs lie at block b, from o on. -/
def Ck (h : Hp) (b o : Nat) (cs : List Value) : Prop := ∀ j v, cs[j]? = some v → cel h b (o + j) = some v
theorem Ck.kp {S : Nat → Prop} {h h' : Hp} {b o : Nat} {cs : List Value} (c : Ck h b o cs) (x : Kp S h h') (hs : ¬ S b) : Ck h' b o cs := fun j v hv => x.cel hs (c j v hv)
theorem Ck.ext {h h' : Hp} {b o : Nat} {cs : List Value} (c : Ck h b o cs) (x : Ext h h') : Ck h' b o cs := c.kp x fun h => h
/-- Cells xs stand among cells cs, from o on. -/
def Pt (cs : List Value) (o : Nat) (xs : List Value) : Prop := ∀ j v, xs[j]? = some v → cs[o + j]? = some v
theorem Bl.ck {h : Hp} {b o : Nat} {cs xs : List Value} {T : TypeId} (l : Bl h b cs T) (p : Pt cs o xs) : Ck h b o xs := fun j v hv => by rw [l.cel]; exact p j v hv
theorem Bl.ck0 {h : Hp} {b : Nat} {cs : List Value} {T : TypeId} (l : Bl h b cs T) : Ck h b 0 cs := fun j v hv => by rw [l.cel, Nat.zero_add]; exact hv

structure Rp (α : Type) where
  k : Nat
  R : (Nat → Prop) → Hp → α → List Value → Prop
  len : ∀ {M h x cs}, R M h x cs → cs.length = k
  one : ∀ {M h x cs}, R M h x cs → ∀ v ∈ cs, v.oneCell' = true
  gr : ∀ {M h M' h' x cs}, R M h x cs → Gr M h M' h' → R M' h' x cs

abbrev B64 (n : Int) : Prop := -9223372036854775808 ≤ n ∧ n ≤ 9223372036854775807
abbrev B32 (n : Int) : Prop := -2147483648 ≤ n ∧ n ≤ 2147483647
abbrev BU8 (n : Int) : Prop := 0 ≤ n ∧ n ≤ 255
abbrev BU16 (n : Int) : Prop := 0 ≤ n ∧ n ≤ 65535
def rI (k : IntKind) (B : Int → Prop) : Rp Int where
  k := 1
  R := fun _ _ n cs => cs = [.int k n] ∧ B n
  len := fun h => by rw [h.1]; rfl
  one := fun h v hv => by rw [h.1] at hv; simp at hv; subst hv; rfl
  gr := fun h _ => h
abbrev r64 := rI .i64 B64
abbrev r32 := rI .i32 B32
abbrev r8 := rI .u8 BU8
def rB : Rp Bool where
  k := 1
  R := fun _ _ b cs => cs = [.bool b]
  len := fun h => by rw [h]; rfl
  one := fun h v hv => by rw [h] at hv; simp at hv; subst hv; rfl
  gr := fun h _ => h

/-- The slice at a reads as l, and nobody writes it. -/
structure Sl {α : Type} (r : Rp α) (M : Nat → Prop) (h : Hp) (a : Option Addr) (cap : Nat) (l : List α) : Prop where
  is : l ≠ [] → Is a
  lt : l ≠ [] → bk a < h.size
  ro : l ≠ [] → ¬ M (bk a)
  cp : l.length ≤ cap
  ln : cap ≤ 9223372036854775807
  ll : l.length ≤ 140737488355328
  el : ∀ i x, l[i]? = some x → ∃ cs, r.R M h x cs ∧ Ck h (bk a) (of a + i * r.k) cs
theorem Sl.gr {α : Type} {r : Rp α} {M M' : Nat → Prop} {h h' : Hp} {a : Option Addr} {cap : Nat} {l : List α} (s : Sl r M h a cap l) (g : Gr M h M' h') : Sl r M' h' a cap l :=
  ⟨s.is, fun hn => Nat.lt_of_lt_of_le (s.lt hn) g.kp.size, fun hn hm => s.ro hn (g.old _ (s.lt hn) hm), s.cp, s.ln, s.ll, fun i x hx => by
    obtain ⟨cs, h1, h2⟩ := s.el i x hx
    have hn : l ≠ [] := by intro e; rw [e] at hx; simp at hx
    exact ⟨cs, r.gr h1 g, h2.kp g.kp (s.ro hn)⟩⟩
theorem Sl.ext {α : Type} {r : Rp α} {M : Nat → Prop} {h h' : Hp} {a : Option Addr} {cap : Nat} {l : List α} (s : Sl r M h a cap l) (x : Ext h h') : Sl r M h' a cap l := s.gr (.ext x)
theorem Sl.mono {α : Type} {r : Rp α} {M M' : Nat → Prop} {h : Hp} {a : Option Addr} {cap : Nat} {l : List α} (s : Sl r M h a cap l) (hm : ∀ b, M' b → M b) : Sl r M' h a cap l := s.gr ⟨Kp.refl _ _, fun b _ h => hm b h⟩
theorem Sl.nil {α : Type} {r : Rp α} {M : Nat → Prop} {h : Hp} {a : Option Addr} {cap : Nat} (hc : cap ≤ 9223372036854775807 := by omega) : Sl r M h a cap [] :=
  ⟨fun h => absurd rfl h, fun h => absurd rfl h, fun h => absurd rfl h, Nat.zero_le _, hc, Nat.zero_le _, fun i x hx => by simp at hx⟩
theorem Sl.len' {α : Type} {r : Rp α} {M : Nat → Prop} {h : Hp} {a : Option Addr} {cap : Nat} {l : List α} (s : Sl r M h a cap l) : l.length ≤ 140737488355328 := s.ll

/-- The element at a number. -/
def gt {α : Type} [Inhabited α] (l : List α) (i : Int) : α := l.getD i.toNat default
theorem gt_get {α : Type} [Inhabited α] {l : List α} {i : Int} (h0 : 0 ≤ i) (h1 : i < l.length) : l[i.toNat]? = some (gt l i) := by
  have : i.toNat < l.length := by omega
  simp [gt, this]
theorem gt_lt {α : Type} [Inhabited α] {l : List α} {k : Nat} (hk : k < l.length) : gt l (k : Int) = l[k] := by simp [gt, hk]
theorem gt_mem {α : Type} [Inhabited α] {l : List α} {i : Int} (h0 : 0 ≤ i) (h1 : i < l.length) : gt l i ∈ l := List.mem_of_getElem? (gt_get h0 h1)
theorem Sl.isi {α : Type} {r : Rp α} {M : Nat → Prop} {h : Hp} {a : Option Addr} {cap : Nat} {l : List α} (s : Sl r M h a cap l) {i : Int} (h0 : 0 ≤ i ∧ i < l.length) : Is a := s.is (by intro e; rw [e] at h0; simp at h0; omega)
theorem Sl.at_ {α : Type} [Inhabited α] {r : Rp α} {M : Nat → Prop} {h : Hp} {a : Option Addr} {cap : Nat} {l : List α} (s : Sl r M h a cap l) (i : Int) (h0 : 0 ≤ i ∧ i < l.length) :
    ∃ cs, r.R M h (gt l i) cs ∧ Ck h (bk a) (of a + i.toNat * r.k) cs := s.el _ _ (gt_get h0.1 h0.2)

/-- Slices as data. -/
def sl {α : Type} (r : Rp α) : Rp (List α) where
  k := 1
  R := fun M h l cs => ∃ a cap, cs = [.slice a l.length cap] ∧ Sl r M h a cap l
  len := fun ⟨a, cap, e, _⟩ => by rw [e]; rfl
  one := fun ⟨a, cap, e, _⟩ v hv => by rw [e] at hv; simp at hv; subst hv; rfl
  gr := fun ⟨a, cap, e, s⟩ g => ⟨a, cap, e, s.gr g⟩

/-- A slice of the call's own. -/
def Ow {α : Type} (B : Nat) (T : TypeId) (r : Rp α) (M : Nat → Prop) (h : Hp) (a : Option Addr) (cap : Nat) (l : List α) : Prop :=
  (cap = 0 ∧ l = []) ∨ ∃ b cs, a = some ⟨b, 0, none⟩ ∧ B ≤ b ∧ M b ∧ 0 < cap ∧ Bl h b cs T ∧ cs.length = cap * r.k ∧ l.length ≤ cap ∧ (cap ≤ 9223372036854775807 ∧ l.length ≤ 140737488355328) ∧ ∀ i x, l[i]? = some x → ∃ xs, r.R M h x xs ∧ Pt cs (i * r.k) xs

section ow
variable {α : Type} {B : Nat} {T : TypeId} {r : Rp α} {M M' : Nat → Prop} {h h' : Hp} {a : Option Addr} {cap : Nat} {l : List α}
theorem Ow.nil {a : Option Addr} : Ow B T r M h a 0 ([] : List α) := .inl ⟨rfl, rfl⟩
theorem Ow.cpl (o : Ow B T r M h a cap l) : l.length ≤ cap := by
  rcases o with ⟨rfl, rfl⟩ | ⟨b, cs, rfl, _, _, _, _, _, h1, _⟩
  · exact Nat.le_refl _
  · exact h1
theorem Ow.len' (o : Ow B T r M h a cap l) : l.length ≤ 140737488355328 := by
  rcases o with ⟨rfl, rfl⟩ | ⟨b, cs, rfl, _, _, _, _, _, h1, h2, _⟩
  · simp
  · exact h2.2
theorem Ow.mem (o : Ow B T r M h a cap l) : ∀ b, Ob a cap b → M b := by
  rintro b ⟨h0, rfl⟩
  rcases o with ⟨rfl, rfl⟩ | ⟨b, cs, rfl, _, hm, _⟩
  · omega
  · exact hm
theorem Ow.ge (o : Ow B T r M h a cap l) : ∀ b, Ob a cap b → B ≤ b := by
  rintro b ⟨h0, rfl⟩
  rcases o with ⟨rfl, rfl⟩ | ⟨b, cs, rfl, hB, _⟩
  · omega
  · exact hB
theorem Ow.lt (o : Ow B T r M h a cap l) : ∀ b, Ob a cap b → b < h.size := by
  rintro b ⟨h0, rfl⟩
  rcases o with ⟨rfl, rfl⟩ | ⟨b, cs, rfl, _, _, _, hb, _⟩
  · omega
  · exact hb.lt
theorem Ow.isi (o : Ow B T r M h a cap l) {i : Int} (h0 : 0 ≤ i ∧ i < l.length) : Is a := by
  rcases o with ⟨rfl, rfl⟩ | ⟨b, cs, rfl, _⟩
  · simp at h0; omega
  · rfl
theorem Ow.gr (o : Ow B T r M h a cap l) (g : Gr M h M' h') (hm : ∀ b, Ob a cap b → M' b) (hk : ∀ b, Ob a cap b → h'[b]? = h[b]?) : Ow B T r M' h' a cap l := by
  rcases o with h | ⟨b, cs, rfl, hB, hb, hc, hl, h1, h2, h3, h4⟩
  · exact .inl h
  · refine .inr ⟨b, cs, rfl, hB, hm b ⟨hc, rfl⟩, hc, ?_, h1, h2, h3, fun i x hx => ?_⟩
    · unfold Bl at *; rw [hk b ⟨hc, rfl⟩]; exact hl
    · obtain ⟨xs, e1, e2⟩ := h4 i x hx
      exact ⟨xs, r.gr e1 g, e2⟩
theorem Ow.kp {W : Nat → Prop} (o : Ow B T r M h a cap l) (g : Gr M h M' h') (hs : ∀ b, M b → M' b) (k : Kp W h h') (hW : ∀ b, Ob a cap b → ¬ W b) : Ow B T r M' h' a cap l :=
  o.gr g (fun b hb => hs b (o.mem b hb)) fun b hb => k.keep b (o.lt b hb) (hW b hb)
theorem Ow.ext (o : Ow B T r M h a cap l) (x : Ext h h') : Ow B T r M h' a cap l := o.kp (.ext x) (fun _ h => h) x fun _ _ h => h
theorem Ow.new {b : Nat} {ob : Obj} (o : Ow B T r M h a cap l) (n : New h h' b ob) (m : Nm M h b M') : Ow B T r M' h' a cap l := o.kp (m.gr n) m.sub n.ext fun _ _ h => h
theorem Ow.upd {b : Nat} {cs : List Value} {T' : TypeId} (o : Ow B T r M h a cap l) (u : Upd h h' b cs T') (hm : M b) (hn : ¬ Ob a cap b) : Ow B T r M h' a cap l := o.kp (.upd u hm) (fun _ h => h) u.kp fun c hc e => hn (e ▸ hc)
theorem Ow.mono {B' : Nat} (o : Ow B T r M h a cap l) (hB : B' ≤ B) : Ow B' T r M h a cap l := by
  rcases o with h | ⟨b, cs, rfl, hb, rr⟩
  · exact .inl h
  · exact .inr ⟨b, cs, rfl, Nat.le_trans hB hb, rr⟩
theorem Ow.at_ [Inhabited α] (o : Ow B T r M h a cap l) (i : Int) (h0 : 0 ≤ i ∧ i < l.length) : ∃ cs, r.R M h (gt l i) cs ∧ Ck h (bk a) (of a + i.toNat * r.k) cs := by
  rcases o with ⟨rfl, rfl⟩ | ⟨b, cs, rfl, _, _, _, hb, _, _, _, h4⟩
  · simp at h0; omega
  · obtain ⟨xs, e1, e2⟩ := h4 _ _ (gt_get h0.1 h0.2)
    refine ⟨xs, e1, ?_⟩
    have := hb.ck e2
    rwa [show of (some ⟨b, 0, none⟩) + i.toNat * r.k = i.toNat * r.k from Nat.zero_add _]
/-- What is the call's own is handed out to be read. -/
theorem Ow.sl (o : Ow B T r M h a cap l) (hm : ∀ b, M' b → M b) (hn : ∀ b, Ob a cap b → ¬ M' b) : Sl r M' h a cap l := by
  rcases o with ⟨rfl, rfl⟩ | ⟨b, cs, rfl, hB, hb, hc, hl, h1, h2, h3, h4⟩
  · exact .nil
  · refine ⟨fun _ => rfl, fun _ => hl.lt, fun _ => hn b ⟨hc, rfl⟩, h2, h3.1, h3.2, fun i x hx => ?_⟩
    obtain ⟨xs, e1, e2⟩ := h4 i x hx
    refine ⟨xs, r.gr e1 ⟨Kp.refl _ _, fun c _ h => hm c h⟩, ?_⟩
    have := hl.ck e2
    rwa [show of (some ⟨b, 0, none⟩) + i * r.k = i * r.k from Nat.zero_add _]
end ow

/-- A slice that a call hands out as its caller's own. -/
abbrev Oz {α : Type} (T : TypeId) (r : Rp α) (N : Nat → Prop) (h h' : Hp) (a : Option Addr) (cap : Nat) (l : List α) : Prop := Ow h.size T r (fun b => N b ∨ Ob a cap b) h' a cap l

section st
variable {α : Type} {T : TypeId} {r : Rp α} {N S M : Nat → Prop} {h0 h : Hp} {a : Option Addr} {cap : Nat} {l : List α}
theorem Ow.out (o : Ow h0.size T r M h a cap l) (s : St N h0 S M h) (hN : ∀ b, N b → b < h0.size) : Sl r N h a cap l :=
  o.sl s.sub fun b hb hn => by have := o.ge b hb; have := hN b hn; omega
theorem Ow.ret (o : Ow h0.size T r M h a cap l) (s : St N h0 S M h) : Oz T r N h0 h a cap l :=
  o.gr ⟨Kp.refl _ _, fun b _ hb => hb.elim (s.sub b) (o.mem b)⟩ (fun b hb => .inr hb) fun _ _ => rfl
theorem Sl.out (o : Sl r M h a cap l) (s : St N h0 S M h) : Sl r N h a cap l := o.mono s.sub
theorem Oz.sl {h' : Hp} (o : Oz T r N h h' a cap l) (hN : ∀ b, N b → b < h.size) : Sl r N h' a cap l :=
  Ow.sl o (fun b h => .inl h) fun b hb hn => by have := Ow.ge o b hb; have := hN b hn; omega
/-- A call's result taken as one's own. -/
theorem Oz.own {h' : Hp} (o : Oz T r M h h' a cap l) (s : St N h0 S M h) (x : Ext h h') : ∃ M', Am M h a cap M' ∧ Ow h0.size T r M' h' a cap l := by
  refine ⟨fun b => M b ∨ Ob a cap b, ⟨fun _ h => .inl h, fun b hb h => h.elim id fun e => by have := Ow.ge o b e; omega, fun h => .inr ⟨h, rfl⟩, fun _ h => h⟩, Ow.mono o s.kp.size⟩
theorem St.own {h' : Hp} {M' : Nat → Prop} (s : St N h0 S M h) (x : Ext h h') (m : Am M h a cap M') (o : Ow h0.size T r M' h' a cap l) : St N h0 S M' h' :=
  ⟨s.kp.tr x, fun c hc hm => s.inp c hc (m.old c (Nat.lt_of_lt_of_le hc s.kp.size) hm), fun c hc => m.sub c (s.sub c hc),
    fun c hc => (m.only c hc).elim (fun h => Nat.lt_of_lt_of_le (s.lt c h) x.size) (fun h => o.lt c h), s.sN⟩
theorem Am.gx {h' : Hp} {M' : Nat → Prop} (m : Am M h a cap M') (x : Ext h h') : Gr M h M' h' := ⟨Kp.of_ext x, m.old⟩
end st

/-! ### A slice's cells in a row -/
theorem flat_of {α : Type} {r : Rp α} {M : Nat → Prop} {h : Hp} {b : Nat} : ∀ (l : List α) (o : Nat), (∀ i x, l[i]? = some x → ∃ cs, r.R M h x cs ∧ Ck h b (o + i * r.k) cs) →
    ∃ fs : List Value, fs.length = l.length * r.k ∧ (∀ v ∈ fs, v.oneCell' = true) ∧ Ck h b o fs ∧ ∀ i x, l[i]? = some x → ∃ xs, r.R M h x xs ∧ Pt fs (i * r.k) xs
  | [], o, _ => ⟨[], by simp, by simp, fun j v hv => by simp at hv, fun i x hx => by simp at hx⟩
  | y :: l, o, H => by
    obtain ⟨ys, h1, h2⟩ := H 0 y rfl
    obtain ⟨fs, e1, e2, e3, e4⟩ := flat_of l (o + r.k) (fun i x hx => by
      obtain ⟨xs, g1, g2⟩ := H (i + 1) x (by simpa using hx)
      exact ⟨xs, g1, by rw [show o + r.k + i * r.k = o + (i + 1) * r.k by rw [Nat.add_mul]; omega]; exact g2⟩)
    have hl := r.len h1
    refine ⟨ys ++ fs, by rw [List.length_append, hl, e1, List.length_cons, Nat.add_mul]; omega, fun v hv => ?_, fun j v hv => ?_, fun i x hx => ?_⟩
    · rcases List.mem_append.1 hv with h | h
      · exact r.one h1 v h
      · exact e2 v h
    · by_cases hj : j < ys.length
      · rw [List.getElem?_append_left hj] at hv
        have := h2 j v hv
        rwa [Nat.zero_mul, Nat.add_zero] at this
      · rw [List.getElem?_append_right (by omega), hl] at hv
        have := e3 _ v hv
        rwa [show o + r.k + (j - r.k) = o + j by omega] at this
    · cases i with
      | zero =>
        simp only [List.getElem?_cons_zero, Option.some.injEq] at hx
        subst hx
        refine ⟨ys, h1, fun j v hv => ?_⟩
        rw [Nat.zero_mul, Nat.zero_add]
        have hj : j < ys.length := (List.getElem?_eq_some_iff.1 hv).1
        rw [List.getElem?_append_left hj]; exact hv
      | succ i =>
        obtain ⟨xs, g1, g2⟩ := e4 i x (by simpa using hx)
        refine ⟨xs, g1, fun j v hv => ?_⟩
        rw [List.getElem?_append_right (by rw [hl, Nat.add_mul]; omega), hl, show (i + 1) * r.k + j - r.k = i * r.k + j by rw [Nat.add_mul]; omega]
        exact g2 j v hv
theorem Sl.flat {α : Type} {r : Rp α} {M : Nat → Prop} {h : Hp} {a : Option Addr} {cap : Nat} {l : List α} (s : Sl r M h a cap l) :
    ∃ fs : List Value, fs.length = l.length * r.k ∧ (∀ v ∈ fs, v.oneCell' = true) ∧ Ck h (bk a) (of a) fs ∧ ∀ i x, l[i]? = some x → ∃ xs, r.R M h x xs ∧ Pt fs (i * r.k) xs := flat_of l _ s.el

section
variable {P : Program} {E : Env} {h : Hp} {K : Value → Hp → Prop} {ty : TypeId}
theorem run_first {k n : Nat} {w : World} (hw : w.heap = h) {a : Option Addr} {len cap : Nat} {fs : List Value} (hl : fs.length = n * k) (c : Ck h (bk a) (of a) fs) (hi : fs ≠ [] → Is a) :
    (Builtin.firstCells k n (.slice a len cap)).run P w = .ok fs.toArray w := by
  cases a with
  | none =>
    have : fs = [] := by
      cases fs with
      | nil => rfl
      | cons x r => exact absurd (hi (by simp)) (by simp [Is])
    subst this
    rfl
  | some p =>
    cases fs with
    | nil => simp only [Builtin.firstCells, loadCells]; rw [← hl]; rfl
    | cons x r =>
      have e : some p = some ⟨bk (some p), of (some p), none⟩ := hi (by simp)
      generalize bk (some p) = b at *
      generalize of (some p) = d at *
      obtain rfl := Option.some.inj e
      have := run_loadCellsFrom (P := P) (b := b) (d := d) hw (x :: r) 0 #[] (fun j v hv => by have := c j v hv; simpa using this)
      simp only [Builtin.firstCells, loadCells]
      rw [← hl]
      simpa using this

theorem growBy_le (need : Nat) : ∀ (r c : Nat), Builtin.growBy need r c ≤ 2 ^ r * (c + 768)
  | 0, c => by simp [Builtin.growBy]
  | r + 1, c => by
    simp only [Builtin.growBy]
    split
    · have : 1 ≤ 2 ^ (r + 1) := Nat.one_le_two_pow
      calc c ≤ 1 * (c + 768) := by omega
        _ ≤ 2 ^ (r + 1) * (c + 768) := Nat.mul_le_mul_right _ this
    · have ih := growBy_le need r (c + (c + 768) / 4)
      refine Nat.le_trans ih ?_
      rw [Nat.pow_succ, Nat.mul_assoc]
      exact Nat.mul_le_mul_left _ (by omega)
theorem nextslicecap_le {need cap : Nat} (h : cap < need) : Builtin.nextslicecap need cap ≤ 16 * (need + 768) := by
  unfold Builtin.nextslicecap
  split
  · omega
  · split
    · omega
    · have := growBy_le need 4 cap
      have e : (2 : Nat) ^ 4 = 16 := rfl
      rw [e] at this
      exact Nat.le_trans this (by omega)
theorem bytes_ok {N b : Nat} (h1 : N ≤ 20000000000) (h2 : b ≤ 10000) : ¬ 281474976710656 < N * b := by
  have := Nat.mul_le_mul h1 h2
  omega
end
end Go.Lx
