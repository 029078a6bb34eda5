import Derived.Test.YteeienbhmkiloaaGreatDoorLF
import Derived.OrdersHeld
set_option linter.unusedSimpArgs false
set_option linter.unusedVariables false
namespace Go.Lx
/-! ### Draw regions, in which some operations change the heap -/
def Dq (n : Nat) (w0 : World) (K : Env → Hp → Prop) : Exit → Act → World → Prop := fun e a' w' => e = .normal ∧ ∃ E', Fits n a' E' ∧ Io w0 w' ∧ K E' w'.heap
structure Dr (P : Program) (ops : Array Oper) (n : Nat) (G : Hp → Prop) (fuel : Nat) (listed : Array Bool) (E : Env) (h : Hp) (K : Env → Hp → Prop) : Prop where
  run : ∀ a w w0, Fits n a E → w.heap = h → Io w0 w → wpAnyH P .any ops (Dq n w0 K) (fun w => G w.heap) fuel listed a w
section
variable {P : Program} {ops : Array Oper} {n : Nat} {G : Hp → Prop} {fuel : Nat} {listed : Array Bool} {E : Env} {h : Hp} {K : Env → Hp → Prop} {op : Op} {ty : TypeId} {pos : String} {af : Array Edge} {v : Value}
theorem Dq_panic {w0 : World} {c : List PanicEntry} {a a' : Act} {w : World} (hq : Dq n w0 K (.panic c) a' w) : Dq n w0 K (.panic c) a w := by cases hq.1
theorem d_done (hr : Region.ready .any ops listed = []) (k : K E h) : Dr P ops n G fuel listed E h K :=
  ⟨fun a w w0 f hw hi => wpAnyH_done hr ⟨rfl, E, f, hi, by rw [hw]; exact k⟩ _⟩
theorem d_take (i : Nat) {d : Nat} (hi : ops[i]? = some ⟨some d, op, ty, pos, af, none⟩) (hs : Region.noSelect ops = true) (hf : Region.free .any ops listed i = true) (hr : (Region.ready .any ops listed).contains i = true)
    (hd : Nat.blt d n = true) (g : G h) (z : ∀ h', G h' → SP P op ty E h' v) (rest : Dr P ops n G fuel (listed.setIfInBounds i true) ((d, v) :: E) h K) : Dr P ops n G (fuel + 1) listed E h K :=
  ⟨fun a w w0 f hw hio => by
    refine wpAnyH_take hi hs hf hr (fun _ _ _ hq => Dq_panic hq) (.inl ⟨by simp [Region.wanted], fun w' hg => (z _ hg).run n a w' _ rfl rfl f rfl⟩) (by rw [hw]; exact g) ?_
    exact rest.run _ w w0 (f.put (by simpa using hd) v) hw hio⟩
theorem d_takeh (i : Nat) {d j dj : Nat} {b want : Bool} (hi : ops[i]? = some ⟨some d, op, ty, pos, af, some (j, want)⟩) (hs : Region.noSelect ops = true) (hf : Region.free .any ops listed i = true) (hr : (Region.ready .any ops listed).contains i = true)
    (hd : Nat.blt d n = true) (hj : (ops[j]?).bind (·.dst) = some dj) (hv : look E dj = some (.bool b)) (hb : b = want) (g : G h) (z : ∀ h', G h' → SP P op ty E h' v) (rest : Dr P ops n G fuel (listed.setIfInBounds i true) ((d, v) :: E) h K) : Dr P ops n G (fuel + 1) listed E h K :=
  ⟨fun a w w0 f hw hio => by
    subst hb
    refine wpAnyH_take hi hs hf hr (fun _ _ _ hq => Dq_panic hq) (.inl ⟨wanted_yes f rfl hj hv, fun w' hg => (z _ hg).run n a w' _ rfl rfl f rfl⟩) (by rw [hw]; exact g) ?_
    exact rest.run _ w w0 (f.put (by simpa using hd) v) hw hio⟩
theorem d_taken (i : Nat) {d j dj : Nat} {b want : Bool} (hi : ops[i]? = some ⟨some d, op, ty, pos, af, some (j, want)⟩) (hs : Region.noSelect ops = true) (hf : Region.free .any ops listed i = true) (hr : (Region.ready .any ops listed).contains i = true)
    (hd : Nat.blt d n = true) (hj : (ops[j]?).bind (·.dst) = some dj) (hv : look E dj = some (.bool b)) (hb : b = !want) (g : G h) (rest : Dr P ops n G fuel (listed.setIfInBounds i true) ((d, undef) :: E) h K) : Dr P ops n G (fuel + 1) listed E h K :=
  ⟨fun a w w0 f hw hio => by
    refine wpAnyH_take hi hs hf hr (fun _ _ _ hq => Dq_panic hq) (.inr ⟨wanted_no f rfl hj hv hb, rfl⟩) (by rw [hw]; exact g) ?_
    exact rest.run _ w w0 (f.put (by simpa using hd) undef) hw hio⟩
theorem d_takeu (i : Nat) {d j dj : Nat} {want : Bool} (hi : ops[i]? = some ⟨some d, op, ty, pos, af, some (j, want)⟩) (hs : Region.noSelect ops = true) (hf : Region.free .any ops listed i = true) (hr : (Region.ready .any ops listed).contains i = true)
    (hd : Nat.blt d n = true) (hj : (ops[j]?).bind (·.dst) = some dj) (hv : look E dj = some undef) (g : G h) (rest : Dr P ops n G fuel (listed.setIfInBounds i true) ((d, undef) :: E) h K) : Dr P ops n G (fuel + 1) listed E h K :=
  ⟨fun a w w0 f hw hio => by
    refine wpAnyH_take hi hs hf hr (fun _ _ _ hq => Dq_panic hq) (.inr ⟨wanted_undef f rfl hj hv, rfl⟩) (by rw [hw]; exact g) ?_
    exact rest.run _ w w0 (f.put (by simpa using hd) undef) hw hio⟩
/-- The one operation that may come up, whatever it does. -/
theorem d_one (i : Nat) {d : Nat} (hr : Region.ready .any ops listed = [i]) (hi : ops[i]? = some ⟨some d, op, ty, pos, af, none⟩) (hd : Nat.blt d n = true)
    (s : S P op ty E h (fun v h' => G h' ∧ Dr P ops n G fuel (listed.setIfInBounds i true) ((d, v) :: E) h' K)) : Dr P ops n G (fuel + 1) listed E h K :=
  ⟨fun a w w0 f hw hio => by
    refine wpAnyH_all hr (by simp) fun k hk => ?_
    have : k = i := by simpa using hk
    subst this
    unfold wpOp
    simp only [hi]
    rw [if_pos (by simp [Region.wanted])]
    refine .inl (s.run .pl n a w _ _ _ rfl rfl f hw fun v w' hio' ⟨g, o⟩ => ⟨g, ?_⟩)
    exact o.run _ w' w0 (f.put (by simpa using hd) v) rfl (hio.trans hio')⟩
theorem d_one0 (i : Nat) (hr : Region.ready .any ops listed = [i]) (hi : ops[i]? = some ⟨none, op, ty, pos, af, none⟩)
    (s : S P op ty E h (fun v h' => G h' ∧ Dr P ops n G fuel (listed.setIfInBounds i true) E h' K)) : Dr P ops n G (fuel + 1) listed E h K :=
  ⟨fun a w w0 f hw hio => by
    refine wpAnyH_all hr (by simp) fun k hk => ?_
    have : k = i := by simpa using hk
    subst this
    unfold wpOp
    simp only [hi]
    rw [if_pos (by simp [Region.wanted])]
    refine .inl (s.run .pl n a w _ _ _ rfl rfl f hw fun v w' hio' ⟨g, o⟩ => ⟨g, ?_⟩)
    exact o.run _ w' w0 f rfl (hio.trans hio')⟩
theorem x_regd (G : Hp → Prop) {id : Nat} {l : List Oper} {Q : Post} (hm : P.follows .mixedOrders = true) (y : Dr P l.toArray n G l.length (Array.replicate l.length false) E h (fun E' h' => Q .normal E' h')) : X none P n (.region id l.toArray true) E h Q :=
  ⟨fun a w f hw => by
    refine (wpIn_wide (n := 0)).2 ?_
    refine Code.wp_mono (fun e a' w' hq => ?_) (wp_region_held (Q := Dq n w (fun E' h' => Q .normal E' h')) hm (y.run a { w with drawn := w.drawn + 1 } w f hw ⟨rfl, rfl, rfl⟩))
    obtain ⟨rfl, E', f', i, q⟩ := hq
    exact ⟨E', f', i, q⟩⟩
end
end Go.Lx
