import Derived.Test.YtpnbdejdkllflaaFf
set_option linter.unusedVariables false
namespace Go.Lx

/-! ### Slices that read as lists -/
/-- The slice at a reads as l; each element has k cells. -/
structure Rd {α : Type} (k : Nat) (enc : α → List Value) (h : Hp) (a : Option Addr) (l : List α) : Prop where
  is : l ≠ [] → Is a
  lt : l ≠ [] → bk a < h.size
  cel : ∀ i x, l[i]? = some x → ∀ j v, (enc x)[j]? = some v → Lx.cel h (bk a) (of a + i * k + j) = some v

theorem Rd.kp {α : Type} {k : Nat} {enc : α → List Value} {S : Nat → Prop} {h h' : Hp} {a : Option Addr} {l : List α} (r : Rd k enc h a l) (x : Kp S h h') (hs : l ≠ [] → ¬ S (bk a)) : Rd k enc h' a l :=
  ⟨r.is, fun hn => Nat.lt_of_lt_of_le (r.lt hn) x.size, fun i y hy j v hv => by
    have hne : l ≠ [] := by intro e; rw [e] at hy; simp at hy
    exact x.cel (hs hne) (r.cel i y hy j v hv)⟩
theorem Rd.lift {α : Type} {k : Nat} {enc : α → List Value} {h h' : Hp} {a : Option Addr} {l : List α} (r : Rd k enc h a l) (x : Ext h h') : Rd k enc h' a l := r.kp x fun _ h => h
theorem Rd.nil {α : Type} {k : Nat} {enc : α → List Value} {h : Hp} {a : Option Addr} : Rd k enc h a ([] : List α) := ⟨fun h => absurd rfl h, fun h => absurd rfl h, fun i x hx => by simp at hx⟩
theorem Rd.is' {α : Type} {k : Nat} {enc : α → List Value} {h : Hp} {a : Option Addr} {l : List α} (r : Rd k enc h a l) {i : Nat} (hi : i < l.length) : Is a := r.is (by intro e; rw [e] at hi; simp at hi)
theorem Rd.at_ {α : Type} {k : Nat} {enc : α → List Value} {h : Hp} {a : Option Addr} {l : List α} (r : Rd k enc h a l) {i : Nat} (hi : i < l.length) {j : Nat} {v : Value} (hv : (enc l[i])[j]? = some v) : Lx.cel h (bk a) (of a + i * k + j) = some v :=
  r.cel i l[i] (by simp) j v hv
theorem Rd.nin {α : Type} {k : Nat} {enc : α → List Value} {h h' : Hp} {a : Option Addr} {l : List α} (r : Rd k enc h a l) {b : Nat} {o : Obj} (n : New h h' b o) : l ≠ [] → bk a ≠ b := fun hn => by
  have := r.lt hn; have := n.at_; omega
theorem Rd.updn {α : Type} {k : Nat} {enc : α → List Value} {h h' : Hp} {a : Option Addr} {l : List α} (r : Rd k enc h a l) {b : Nat} {cs : List Value} {T : TypeId} (u : Upd h h' b cs T) (hn : l ≠ [] → bk a ≠ b) : Rd k enc h' a l := r.kp u.kp hn

/-- The element at a number. -/
def gt {α : Type} [Inhabited α] (l : List α) (i : Int) : α := l.getD i.toNat default
theorem gt_get {α : Type} [Inhabited α] {l : List α} {i : Int} (h0 : 0 ≤ i) (h1 : i < l.length) : l[i.toNat]? = some (gt l i) := by
  have : i.toNat < l.length := by omega
  simp [gt, this]
theorem Rd.ati {α : Type} [Inhabited α] {k : Nat} {enc : α → List Value} {h : Hp} {a : Option Addr} {l : List α} (r : Rd k enc h a l) {i : Int} (h0 : 0 ≤ i) (h1 : i < l.length) {j : Nat} {v : Value} (hv : (enc (gt l i))[j]? = some v) :
    Lx.cel h (bk a) (of a + i.toNat * k + j) = some v := r.cel _ _ (gt_get h0 h1) j v hv
theorem Rd.isi {α : Type} {k : Nat} {enc : α → List Value} {h : Hp} {a : Option Addr} {l : List α} (r : Rd k enc h a l) {i : Int} (h0 : 0 ≤ i) (h1 : i < l.length) : Is a := r.is' (i := i.toNat) (by omega)

/-- A list's cells. -/
def fl {α : Type} (enc : α → List Value) : List α → List Value
  | [] => []
  | x :: r => enc x ++ fl enc r
theorem fl_append {α : Type} (enc : α → List Value) : ∀ (a b : List α), fl enc (a ++ b) = fl enc a ++ fl enc b
  | [], _ => rfl
  | x :: r, b => by simp only [List.cons_append, fl, fl_append enc r b, List.append_assoc]
theorem fl_length {α : Type} {enc : α → List Value} {k : Nat} (hk : ∀ x, (enc x).length = k) : ∀ (l : List α), (fl enc l).length = l.length * k
  | [] => by simp [fl]
  | x :: r => by simp only [fl, List.length_append, hk, fl_length hk r, List.length_cons]; rw [Nat.add_mul]; omega
theorem fl_get {α : Type} {enc : α → List Value} {k : Nat} (hk : ∀ x, (enc x).length = k) : ∀ (l : List α) (i : Nat) (x : α), l[i]? = some x → ∀ j v, (enc x)[j]? = some v → (fl enc l)[i * k + j]? = some v
  | [], i, x, hx, _, _, _ => by simp at hx
  | y :: r, 0, x, hx, j, v, hv => by
    simp only [List.getElem?_cons_zero, Option.some.injEq] at hx
    subst hx
    have hj : j < (enc y).length := by
      rcases Nat.lt_or_ge j (enc y).length with h | h
      · exact h
      · rw [List.getElem?_eq_none h] at hv; cases hv
    simp only [fl, Nat.zero_mul, Nat.zero_add]
    rw [List.getElem?_append_left hj]; exact hv
  | y :: r, i + 1, x, hx, j, v, hv => by
    simp only [List.getElem?_cons_succ] at hx
    have := fl_get hk r i x hx j v hv
    simp only [fl]
    rw [List.getElem?_append_right (by rw [hk]; rw [Nat.add_mul]; omega), hk]
    rw [show (i + 1) * k + j - k = i * k + j by rw [Nat.add_mul]; omega]
    exact this

/-- A slice of the call's own: nil, or the head of a block from B on, that nobody else writes. -/
def Ow {α : Type} (B : Nat) (T : TypeId) (k : Nat) (enc : α → List Value) (h : Hp) (a : Option Addr) (cap : Nat) (l : List α) : Prop :=
  (a = none ∧ cap = 0 ∧ l = []) ∨ ∃ b rest, a = some ⟨b, 0, none⟩ ∧ B ≤ b ∧ Bl h b (fl enc l ++ rest) T ∧ l.length ≤ cap ∧ (fl enc l).length + rest.length = cap * k

theorem Ow.nil {α : Type} {B : Nat} {T : TypeId} {k : Nat} {enc : α → List Value} {h : Hp} : Ow B T k enc h none 0 ([] : List α) := .inl ⟨rfl, rfl, rfl⟩
theorem Ow.rd {α : Type} {B : Nat} {T : TypeId} {k : Nat} {enc : α → List Value} {h : Hp} {a : Option Addr} {cap : Nat} {l : List α} (hk : ∀ x, (enc x).length = k) (o : Ow B T k enc h a cap l) : Rd k enc h a l := by
  rcases o with ⟨rfl, _, rfl⟩ | ⟨b, rest, rfl, _, hb, _, _⟩
  · exact Rd.nil
  · refine ⟨fun _ => rfl, fun _ => hb.lt, fun i x hx j v hv => ?_⟩
    have := fl_get hk l i x hx j v hv
    show cel h b (0 + i * k + j) = some v
    rw [hb.cel, Nat.zero_add]
    rw [List.getElem?_append_left]
    · exact this
    · rcases Nat.lt_or_ge (i * k + j) (fl enc l).length with h | h
      · exact h
      · rw [List.getElem?_eq_none h] at this; cases this
theorem Ow.kp {α : Type} {B : Nat} {T : TypeId} {k : Nat} {enc : α → List Value} {S : Nat → Prop} {h h' : Hp} {a : Option Addr} {cap : Nat} {l : List α} (o : Ow B T k enc h a cap l) (x : Kp S h h') (hs : a ≠ none → ¬ S (bk a)) : Ow B T k enc h' a cap l := by
  rcases o with h | ⟨b, rest, rfl, hB, hb, h1, h2⟩
  · exact .inl h
  · exact .inr ⟨b, rest, rfl, hB, x.bl (hs (by simp)) hb, h1, h2⟩
theorem Ow.lift {α : Type} {B : Nat} {T : TypeId} {k : Nat} {enc : α → List Value} {h h' : Hp} {a : Option Addr} {cap : Nat} {l : List α} (o : Ow B T k enc h a cap l) (x : Ext h h') : Ow B T k enc h' a cap l := o.kp x fun _ h => h
theorem Ow.mono {α : Type} {B B' : Nat} {T : TypeId} {k : Nat} {enc : α → List Value} {h : Hp} {a : Option Addr} {cap : Nat} {l : List α} (o : Ow B T k enc h a cap l) (hB : B' ≤ B) : Ow B' T k enc h a cap l := by
  rcases o with h | ⟨b, rest, rfl, hb, r⟩
  · exact .inl h
  · exact .inr ⟨b, rest, rfl, Nat.le_trans hB hb, r⟩

/-- A slice just built is the call's own. -/
theorem New.ow {α : Type} {B : Nat} {T : TypeId} {k : Nat} {enc : α → List Value} {h h' : Hp} {b : Nat} {ws : List Value} (n : New h h' b (.cells ws.toArray T)) (hB : B ≤ b) (l : List α) (hl : ws = fl enc l) (hk : ∀ x, (enc x).length = k) : Ow B T k enc h' (some ⟨b, 0, none⟩) l.length l :=
  .inr ⟨b, [], rfl, hB, by have := n.bl; rw [hl] at this; simpa using this, Nat.le_refl _, by rw [fl_length hk]; simp⟩

/-- The block of a slice. -/
def At (a : Option Addr) (b : Nat) : Prop := a ≠ none ∧ b = bk a

theorem Kp.at_ {S : Nat → Prop} {h0 h h' : Hp} {a : Option Addr} (x : Kp S h0 h) (y : Kp (At a) h h') (hB : a ≠ none → h0.size ≤ bk a) : Kp S h0 h' :=
  x.own y fun k hk ⟨hn, e⟩ => by have := hB hn; omega
theorem Ow.ge {α : Type} {B : Nat} {T : TypeId} {k : Nat} {enc : α → List Value} {h : Hp} {a : Option Addr} {cap : Nat} {l : List α} (o : Ow B T k enc h a cap l) (hn : a ≠ none) : B ≤ bk a := by
  rcases o with ⟨rfl, _⟩ | ⟨b, rest, rfl, hB, _⟩
  · exact absurd rfl hn
  · exact hB
theorem Ow.lt {α : Type} {B : Nat} {T : TypeId} {k : Nat} {enc : α → List Value} {h : Hp} {a : Option Addr} {cap : Nat} {l : List α} (o : Ow B T k enc h a cap l) (hn : a ≠ none) : bk a < h.size := by
  rcases o with ⟨rfl, _⟩ | ⟨b, rest, rfl, hB, hb, _⟩
  · exact absurd rfl hn
  · exact hb.lt

theorem Ow.nin {α : Type} {B : Nat} {T : TypeId} {k : Nat} {enc : α → List Value} {h h' : Hp} {a : Option Addr} {cap : Nat} {l : List α} (w : Ow B T k enc h a cap l) {b : Nat} {o : Obj} (n : New h h' b o) : a ≠ none → bk a ≠ b := fun hn => by
  have := w.lt hn; have := n.at_; omega
theorem Ow.updn {α : Type} {B : Nat} {T : TypeId} {k : Nat} {enc : α → List Value} {h h' : Hp} {a : Option Addr} {cap : Nat} {l : List α} (w : Ow B T k enc h a cap l) {b : Nat} {cs : List Value} {T' : TypeId} (u : Upd h h' b cs T') (hn : a ≠ none → bk a ≠ b) : Ow B T k enc h' a cap l := w.kp u.kp hn

theorem growBy_le (need : Nat) : ∀ (r c : Nat), Builtin.growBy need r c ≤ 2 ^ r * (c + 768)
  | 0, c => by simp [Builtin.growBy]
  | r + 1, c => by
    simp only [Builtin.growBy]
    split
    · have : 1 ≤ 2 ^ (r + 1) := Nat.one_le_two_pow
      calc c ≤ 1 * (c + 768) := by omega
        _ ≤ 2 ^ (r + 1) * (c + 768) := Nat.mul_le_mul_right _ this
    · have ih := growBy_le need r (c + (c + 768) / 4)
      refine Nat.le_trans ih ?_
      rw [Nat.pow_succ, Nat.mul_assoc]
      exact Nat.mul_le_mul_left _ (by omega)

theorem nextslicecap_le {need cap : Nat} (h : cap < need) : Builtin.nextslicecap need cap ≤ 16 * (need + 768) := by
  unfold Builtin.nextslicecap
  split
  · omega
  · split
    · omega
    · have := growBy_le need 4 cap
      have e : (2 : Nat) ^ 4 = 16 := rfl
      rw [e] at this
      exact Nat.le_trans this (by omega)

section
variable {P : Program} {E : Env} {h : Hp} {K : Value → Hp → Prop} {ty : TypeId}

theorem cells_of_rd {α : Type} {k : Nat} {enc : α → List Value} (hk : ∀ x, (enc x).length = k) {a : Option Addr} {l : List α} (r : Rd k enc h a l) (j : Nat) (v : Value) (hj : (fl enc l)[j]? = some v) : cel h (bk a) (of a + j) = some v := by
  have hlt : j < l.length * k := by
    rw [← fl_length hk]
    rcases Nat.lt_or_ge j (fl enc l).length with h | h
    · exact h
    · rw [List.getElem?_eq_none h] at hj; cases hj
  have k0 : 0 < k := by
    rcases Nat.eq_zero_or_pos k with e | e
    · subst e; simp at hlt
    · exact e
  have hi : j / k < l.length := Nat.div_lt_of_lt_mul (by rw [Nat.mul_comm]; exact hlt)
  have hm : j % k < k := Nat.mod_lt _ k0
  have e := Nat.div_add_mod j k
  have hx : l[j / k]? = some l[j / k] := by simp [hi]
  have hv' : (enc l[j / k])[j % k]? = some ((enc l[j / k])[j % k]'(by rw [hk]; exact hm)) := by simp
  have h1 := r.cel _ _ hx _ _ hv'
  have h2 := fl_get hk l _ _ hx _ _ hv'
  have e2 : j / k * k + j % k = j := by rw [Nat.mul_comm]; exact e
  rw [e2, hj] at h2
  rw [Nat.add_assoc, e2] at h1
  rw [h1]; exact h2.symm

theorem run_firstCells {α : Type} {k : Nat} {enc : α → List Value} (hk : ∀ x, (enc x).length = k) {w : World} (hw : w.heap = h) {a : Option Addr} {cap : Nat} {l : List α} (r : Rd k enc h a l) (h0 : l = [] → k = 0 ∨ True) :
    (Builtin.firstCells k l.length (.slice a l.length cap)).run P w = .ok (fl enc l).toArray w := by
  cases l with
  | nil =>
    cases a with
    | none => rfl
    | some p => simp [Builtin.firstCells, loadCells, loadCellsFrom, fl]
  | cons x r' =>
    have e : a = some ⟨bk a, of a, none⟩ := r.is (by simp)
    have hc := cells_of_rd hk r
    generalize bk a = b at *
    generalize of a = d at *
    subst e
    have := run_loadCellsFrom (P := P) (b := b) (d := d) hw (fl enc (x :: r')) 0 #[] (by intro j v hv; have := hc j v hv; simpa using this)
    rw [fl_length hk] at this
    simp only [Builtin.firstCells, loadCells]
    simpa using this

theorem bytes_ok {N b : Nat} (h1 : N ≤ 20000000000) (h2 : b ≤ 10000) : ¬ 281474976710656 < N * b := by
  have := Nat.mul_le_mul h1 h2
  omega

/-- append to a slice of the call's own. -/
theorem s_appn {α : Type} {B : Nat} {t e t2 : TypeId} {k : Nat} {enc : α → List Value} {ei : TypeInfo} {zs : List Value} {z : Value} {x y : Operand} {a a2 : Option Addr} {cap cap2 : Nat} {l m : List α}
    (hu : ∀ w, (underlying t).run P w = .ok (.slice e) w) (hu2 : ∀ w, (underlying t2).run P w = .ok (.slice e) w) (hs : ∀ w, (sizeOf e).run P w = .ok k w) (hti : ∀ w, (typeInfo e).run P w = .ok ei w) (hz : ∀ w, (zeroValue e).run P w = .ok z w)
    (hzs : z.cells = zs.toArray) (hzl : Nat.beq zs.length k = true) (hby : Nat.ble ei.bytes 10000 = true) (hk : ∀ x, (enc x).length = k) (hone : ∀ x, ∀ v ∈ enc x, v.oneCell' = true)
    (hx : ev E x = some (.slice a l.length cap)) (hy : ev E y = some (.slice a2 m.length cap2)) (ow : Ow B e k enc h a cap l) (rd : Rd k enc h a2 m) (hB : B ≤ h.size) (hlen : l.length + m.length ≤ 1000000000)
    (q : ∀ a' cap' h', Ow B e k enc h' a' cap' (l ++ m) → Kp (At a) h h' → (∀ b, b < h.size → At a' b → At a b) → K (.slice a' (l ++ m).length cap') h') : S P (.call ⟨.builtin .append, #[x, y], #[t, t2]⟩) ty E h K :=
  S.val fun n a' w o ho ht f hw => by
    have fm : (Builtin.firstCells k m.length (.slice a2 m.length cap2)).run P w = .ok (fl enc m).toArray w := run_firstCells hk hw rd (fun _ => .inr trivial)
    have fs : (Builtin.firstCells k l.length (.slice a l.length cap)).run P w = .ok (fl enc l).toArray w := run_firstCells hk hw (ow.rd hk) (fun _ => .inr trivial)
    have hzl' : zs.length = k := Nat.eq_of_beq_eq_true hzl
    have hby' := Nat.le_of_ble_eq_true hby
    by_cases hc : l.length + m.length ≤ cap
    · -- there is room
      rcases ow with ⟨rfl, rfl, rfl⟩ | ⟨b, rest, rfl, hb0, hb, h1, h2⟩
      · have hm : m = [] := by cases m with | nil => rfl | cons _ _ => simp at hc
        subst hm
        refine ⟨.slice none 0 0, w, ?_, Io.refl w, ?_⟩
        · have fm' : (Builtin.firstCells k 0 (.slice a2 0 cap2)).run P w = .ok #[] w := by simpa [fl] using fm
          simp [execOp, ho, resolve, invoke, builtin, f.ev hx, f.ev hy, Builtin.append_, hu, hu2, hs, Builtin.lenOf, fm']
        · have := q none 0 h Ow.nil (Kp.refl _ _) (fun _ _ hh => hh)
          rw [hw]; simpa using this
      · have hl1 := fl_length hk l
        have hl2 := fl_length hk m
        have hcap : l.length * k + m.length * k ≤ cap * k := by rw [← Nat.add_mul]; exact Nat.mul_le_mul_right _ hc
        subst hw
        obtain ⟨w', hr, hi, hu'⟩ := run_storeCells (P := P) (fl enc m) 0 (l.length * k) (fl enc l ++ rest) w hb (by
          intro v hv
          have : ∀ (m : List α), v ∈ fl enc m → v.oneCell' = true := by
            intro m
            induction m with
            | nil => intro h; simp [fl] at h
            | cons x r ih => intro h; simp only [fl, List.mem_append] at h; rcases h with h | h; exact hone x v h; exact ih h
          exact this m hv) (by rw [List.length_append]; omega)
        refine ⟨.slice (some ⟨b, 0, none⟩) (l.length + m.length) cap, w', ?_, hi, ?_⟩
        · have ea : (Addr.mk b 0 none).add (l.length * k) = ⟨b, l.length * k, none⟩ := by rw [add_eq, Nat.zero_add]
          simp [execOp, ho, resolve, invoke, builtin, f.ev hx, f.ev hy, Builtin.append_, hu, hu2, hs, Builtin.lenOf, fm, hc, ea, hr]
        · have hcs : (fl enc l ++ rest).take (l.length * k + 0) ++ fl enc m ++ (fl enc l ++ rest).drop (l.length * k + 0 + (fl enc m).length) = fl enc (l ++ m) ++ rest.drop (m.length * k) := by
            rw [Nat.add_zero, ← hl1, List.take_left, fl_append, List.drop_append]
            rw [List.drop_of_length_le (by omega), List.nil_append, hl2, hl1]
            simp
          rw [hcs] at hu'
          have := q (some ⟨b, 0, none⟩) cap w'.heap (.inr ⟨b, _, rfl, hb0, hu'.bl, by rw [List.length_append]; exact hc, by rw [fl_length hk, List.length_append, List.length_drop, Nat.add_mul]; omega⟩)
            (hu'.kp.mono fun k' _ e => ⟨by simp, e⟩) (fun _ _ hh => hh)
          rw [List.length_append] at this
          exact this
    · have hns : Builtin.nextslicecap (l.length + m.length) cap ≤ 16 * (l.length + m.length + 768) := nextslicecap_le (by omega)
      have hb48 : ¬ 281474976710656 < Builtin.nextslicecap (l.length + m.length) cap * ei.bytes := bytes_ok (Nat.le_trans hns (by omega)) hby'
      have hmax : ¬ (9223372036854775807 < (l.length : Int) + (m.length : Int) ∧ ei.bytes = 0) := by omega
      have hfo : (Question.appendCap (l.length + m.length) cap e).forced = false := rfl
      subst hw
      generalize hnc : (Question.appendCap (l.length + m.length) cap e).cut (w.tape w.drawn (.appendCap (l.length + m.length) cap e)) = nc
      have hnc2 : l.length + m.length ≤ nc := by rw [← hnc]; simp only [Question.cut]; omega
      refine ⟨.slice (some ⟨w.heap.size, 0, none⟩) (l.length + m.length) nc, { w with drawn := w.drawn + 1, heap := w.heap.push (.cells ((fl enc l).toArray ++ ((fl enc m).toArray ++ Builtin.zeroCells zs.toArray (nc - (l.length + m.length)))) e) }, ?_, ⟨rfl, rfl, rfl⟩, ?_⟩
      · have fm' : (Builtin.firstCells k m.length (.slice a2 m.length cap2)).run P w.drew = .ok (fl enc m).toArray w.drew := run_firstCells (w := w.drew) hk rfl rd (fun _ => .inr trivial)
        have fs' : (Builtin.firstCells k l.length (.slice a l.length cap)).run P w.drew = .ok (fl enc l).toArray w.drew := run_firstCells (w := w.drew) hk rfl (ow.rd hk) (fun _ => .inr trivial)
        simp [execOp, ho, resolve, invoke, builtin, f.ev hx, f.ev hy, Builtin.append_, hu, hu2, hs, Builtin.lenOf, hc, hti, hz, hzs, hb48, hmax, hfo, hnc, fm', fs', newRow]
        rfl
      · have hl1 := fl_length hk l
        have hl2 := fl_length hk m
        have := q (some ⟨w.heap.size, 0, none⟩) nc (w.heap.push (.cells ((fl enc l).toArray ++ ((fl enc m).toArray ++ Builtin.zeroCells zs.toArray (nc - (l.length + m.length)))) e))
          (.inr ⟨w.heap.size, (Builtin.zeroCells zs.toArray (nc - (l.length + m.length))).toList, rfl, hB, by
            simp only [Bl, fl_append]
            simp, by rw [List.length_append]; exact hnc2, by
            rw [fl_length hk, List.length_append]
            simp only [Builtin.zeroCells, Array.length_toList, Array.size_map, Array.size_range, List.size_toArray, hzl']
            rw [← Nat.add_mul]
            congr 1
            omega⟩)
          ⟨by simp, fun k' hk' _ => by rw [Array.getElem?_push, if_neg (by omega)]⟩ (fun b hb hat => absurd hat.2 (by show b ≠ w.heap.size; omega))
        rw [List.length_append] at this
        exact this
theorem s_app {α : Type} {B : Nat} {t e t2 : TypeId} {k : Nat} {enc : α → List Value} {ei : TypeInfo} {zs : List Value} {z : Value} {x y : Operand} {a a2 : Option Addr} {cap cap2 : Nat} {l m : List α}
    (hu : ∀ w, (underlying t).run P w = .ok (.slice e) w) (hu2 : ∀ w, (underlying t2).run P w = .ok (.slice e) w) (hs : ∀ w, (sizeOf e).run P w = .ok k w) (hti : ∀ w, (typeInfo e).run P w = .ok ei w) (hz : ∀ w, (zeroValue e).run P w = .ok z w)
    (hzs : z.cells = zs.toArray) (hzl : Nat.beq zs.length k = true) (hby : Nat.ble ei.bytes 10000 = true) (hk : ∀ x, (enc x).length = k) (hone : ∀ x, ∀ v ∈ enc x, v.oneCell' = true)
    (hx : ev E x = some (.slice a l.length cap)) (hy : ev E y = some (.slice a2 m.length cap2)) (ow : Ow B e k enc h a cap l) (rd : Rd k enc h a2 m) (hB : B ≤ h.size) (hlen : l.length + m.length ≤ 1000000000)
    (q : ∀ a' cap' h', Ow B e k enc h' a' cap' (l ++ m) → Kp (At a) h h' → K (.slice a' (l ++ m).length cap') h') : S P (.call ⟨.builtin .append, #[x, y], #[t, t2]⟩) ty E h K :=
  s_appn hu hu2 hs hti hz hzs hzl hby hk hone hx hy ow rd hB hlen fun a' cap' h' w k _ => q a' cap' h' w k
end
end Go.Lx
