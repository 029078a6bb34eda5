import Derived.Test.YteeienbhmkiloaaGreatDoorLH
import Derived.StillTail
set_option linter.unusedSimpArgs false
set_option linter.unusedVariables false
namespace Go.Lx
section
variable {P : Program} {ops : Array Oper} {Q : Exit → Act → World → Prop} {md : Region.Mode} {S : World → Prop}
/-- The head of a region, in whatever order, S holding behind each operation; then L. -/
def wpHL (P : Program) (md : Region.Mode) (ops : Array Oper) (Q : Exit → Act → World → Prop) (S : World → Prop) (n : Nat) (L : Array Bool → Act → World → Prop) : Nat → Array Bool → Act → World → Prop
  | 0, listed, a, w => L listed a w
  | f + 1, listed, a, w => Region.ready md ops listed ≠ [] ∧ ∀ i ∈ Region.ready md ops listed, i < n ∧ wpOp P ops Q i (fun a' w' => S w' ∧ wpHL P md ops Q S n L f (listed.setIfInBounds i true) a' w') a w
theorem wpAny_of_HL {n g : Nat} {L : Array Bool → Act → World → Prop} (hL : ∀ listed a w, L listed a w → wpAny P md ops Q g listed a w) :
    ∀ (f : Nat) (listed : Array Bool) (a : Act) (w : World), wpHL P md ops Q S n L f listed a w → wpAny P md ops Q (f + g) listed a w
  | 0, listed, a, w, h => by rw [Nat.zero_add]; exact hL _ _ _ h
  | f + 1, listed, a, w, h => by
    rw [show f + 1 + g = (f + g) + 1 by omega]
    exact ⟨fun h0 => absurd h0 h.1, fun i hi => wpOp_mono (fun a' w' h' => wpAny_of_HL hL f _ a' w' h'.2) (h.2 i hi).2⟩
theorem wpHL_first {n i : Nat} {oi : Oper} {v : Value} {L : Array Bool → Act → World → Prop} (hi : ops[i]? = some oi) (hsel : ∀ (j : Nat) (o : Oper) cs b, ops[j]? = some o → o.op ≠ .select cs b)
    (hQ : ∀ c a w, Q (.panic c) (a.put oi.dst v) w → Q (.panic c) a w)
    (hs : Region.sinkB md ops n = true) (hc : Region.chainB md ops n = true) (hn : n < ops.size) (hin : i < n)
    (hdone : ∀ listed a w, L listed a w → ∀ j ∈ Region.ready md ops listed, n ≤ j) :
    ∀ (f : Nat) (listed : Array Bool) (a : Act) (w : World), HeadInv md ops n listed →
      (∀ j oj, ops[j]? = some oj → j ≠ i → listed.getD j true = false → (∀ e ∈ oj.after, Region.binds md e = true → e.on ≠ i) → oi.apart ops oj = true) →
      i ∈ Region.ready md ops listed → YieldsIf P ops S oi v a → S w →
      wpHL P md ops Q S n L f (listed.setIfInBounds i true) (a.put oi.dst v) w → wpHL P md ops Q S n L (f + 1) listed a w := by
  intro f
  induction f with
  | zero =>
    intro listed a w inv _ hr hy hS H
    have hun := (mem_ready.1 hr).1
    refine ⟨fun h => (by rw [h] at hr; cases hr), fun j hj => ?_⟩
    have hjn : j < n := by
      rcases Nat.lt_or_ge j n with h | h
      · exact h
      · exact absurd hj (tail_waits hs hc hn inv _ i rfl hin hun j h)
    refine ⟨hjn, ?_⟩
    by_cases hji : j = i
    · subst hji; exact hy.wpOp hi hS ⟨hS, H⟩
    · have := hdone _ _ _ H j (ready_mono hj hji)
      omega
  | succ f ih =>
    intro listed a w inv hfree hr hy hS H
    have hun := (mem_ready.1 hr).1
    refine ⟨fun h => (by rw [h] at hr; cases hr), fun j hj => ?_⟩
    have hjn : j < n := by
      rcases Nat.lt_or_ge j n with h | h
      · exact h
      · exact absurd hj (tail_waits hs hc hn inv _ i rfl hin hun j h)
    refine ⟨hjn, ?_⟩
    by_cases hji : j = i
    · subst hji; exact hy.wpOp hi hS ⟨hS, H⟩
    · have h1 := (H.2 j (ready_mono hj hji)).2
      obtain ⟨hjun, oj, hoj, hall⟩ := mem_ready.1 hj
      have hnot : ∀ e ∈ oj.after, Region.binds md e = true → e.on ≠ i := fun e he hb heq => by
        have h1 := hall e he hb
        rw [heq, getD_both hun] at h1
        cases h1
      have h2 := wpOp_putIf hoj (hfree j oj hoj hji hjun hnot) (fun cs b => hsel i oi cs b hi) (fun cs b => hsel j oj cs b hoj) hQ hy h1
      have hfree' : ∀ k ok, ops[k]? = some ok → k ≠ i → (listed.setIfInBounds j true).getD k true = false →
          (∀ e ∈ ok.after, Region.binds md e = true → e.on ≠ i) → oi.apart ops ok = true := fun k ok hk hki hun hno => by
        refine hfree k ok hk hki ?_ hno
        by_cases hjk : j = k
        · subst hjk; exact hjun
        · rw [getD_set_ne true hjk] at hun; exact hun
      refine wpOp_mono (fun a' w' h3 => ⟨h3.2.1, ih (listed.setIfInBounds j true) a' w' (inv.set hj hjn) hfree' (ready_mono hr (Ne.symm hji)) h3.1 h3.2.1 ?_⟩) h2
      rw [Array.setIfInBounds_comm _ _ hji]
      exact h3.2.2
end

/-- A region whose head goes in whatever order, G holding of the heap, and whose tail, from number nt on, is a chain. -/
structure Dt (P : Program) (ops : Array Oper) (n nt : Nat) (G : Hp → Prop) (fuel : Nat) (listed : Array Bool) (E : Env) (h : Hp) (K : Env → Hp → Prop) : Prop where
  run : ∀ a w w0, HeadInv .any ops nt listed → Fits n a E → w.heap = h → Io w0 w →
    wpHL P .any ops (Dq n w0 K) (fun w => G w.heap) nt (fun listed' a' w' => Region.seqB .any ops (ops.size - nt) nt listed' = true ∧ wpList P ops (Dq n w0 K) (ops.toList.drop nt) a' w') fuel listed a w
section
variable {P : Program} {ops : Array Oper} {n nt : Nat} {G : Hp → Prop} {fuel : Nat} {listed : Array Bool} {E : Env} {h : Hp} {K : Env → Hp → Prop} {op : Op} {ty : TypeId} {pos : String} {af : Array Edge} {v : Value}
/-- What is asked once of a region: its operations' order. -/
structure Tl (ops : Array Oper) (nt : Nat) : Prop where
  sel : Region.noSelect ops = true
  lt : Nat.blt nt ops.size = true
  sink : Region.sinkB .any ops nt = true
  chain : Region.chainB .any ops nt = true
theorem e_end (hB : Region.seqB .any ops (ops.size - nt) nt listed = true) (o : O .pl P ops n (ops.toList.drop nt) E h K) : Dt P ops n nt G 0 listed E h K :=
  ⟨fun a w w0 _ f hw hi => ⟨hB, o.run a w _ f hw fun E' a' w' f' i k => ⟨rfl, E', f', hi.trans i, k⟩⟩⟩
theorem e_take (i : Nat) {d : Nat} (tl : Tl ops nt) (hi : ops[i]? = some ⟨some d, op, ty, pos, af, none⟩) (hin : Nat.blt i nt = true) (hf : Region.free .any ops listed i = true) (hr : (Region.ready .any ops listed).contains i = true)
    (hd : Nat.blt d n = true) (g : G h) (z : ∀ h', G h' → SP P op ty E h' v) (rest : Dt P ops n nt G fuel (listed.setIfInBounds i true) ((d, v) :: E) h K) : Dt P ops n nt G (fuel + 1) listed E h K :=
  ⟨fun a w w0 inv f hw hio => by
    have hr' : i ∈ Region.ready .any ops listed := by simpa using hr
    have hin' : i < nt := by simpa using hin
    refine wpHL_first hi (Region.noSelect_spec tl.sel) (fun _ _ _ hq => Dq_panic hq) tl.sink tl.chain (by simpa using tl.lt) hin' (fun _ _ _ hL => seqB_ready hL.1) fuel listed a w inv (Region.free_spec hi hf) hr'
      (.inl ⟨by simp [Region.wanted], fun w' hg => (z _ hg).run n a w' _ rfl rfl f rfl⟩) (by rw [hw]; exact g) ?_
    exact rest.run _ w w0 (inv.set hr' hin') (f.put (by simpa using hd) v) hw hio⟩
theorem e_takeh (i : Nat) {d j dj : Nat} {b want : Bool} (tl : Tl ops nt) (hi : ops[i]? = some ⟨some d, op, ty, pos, af, some (j, want)⟩) (hin : Nat.blt i nt = true) (hf : Region.free .any ops listed i = true) (hr : (Region.ready .any ops listed).contains i = true)
    (hd : Nat.blt d n = true) (hj : (ops[j]?).bind (·.dst) = some dj) (hv : look E dj = some (.bool b)) (hb : b = want) (g : G h) (z : ∀ h', G h' → SP P op ty E h' v) (rest : Dt P ops n nt G fuel (listed.setIfInBounds i true) ((d, v) :: E) h K) : Dt P ops n nt G (fuel + 1) listed E h K :=
  ⟨fun a w w0 inv f hw hio => by
    subst hb
    have hr' : i ∈ Region.ready .any ops listed := by simpa using hr
    have hin' : i < nt := by simpa using hin
    refine wpHL_first hi (Region.noSelect_spec tl.sel) (fun _ _ _ hq => Dq_panic hq) tl.sink tl.chain (by simpa using tl.lt) hin' (fun _ _ _ hL => seqB_ready hL.1) fuel listed a w inv (Region.free_spec hi hf) hr'
      (.inl ⟨wanted_yes f rfl hj hv, fun w' hg => (z _ hg).run n a w' _ rfl rfl f rfl⟩) (by rw [hw]; exact g) ?_
    exact rest.run _ w w0 (inv.set hr' hin') (f.put (by simpa using hd) v) hw hio⟩
theorem e_taken (i : Nat) {d j dj : Nat} {b want : Bool} (tl : Tl ops nt) (hi : ops[i]? = some ⟨some d, op, ty, pos, af, some (j, want)⟩) (hin : Nat.blt i nt = true) (hf : Region.free .any ops listed i = true) (hr : (Region.ready .any ops listed).contains i = true)
    (hd : Nat.blt d n = true) (hj : (ops[j]?).bind (·.dst) = some dj) (hv : look E dj = some (.bool b)) (hb : b = !want) (g : G h) (rest : Dt P ops n nt G fuel (listed.setIfInBounds i true) ((d, undef) :: E) h K) : Dt P ops n nt G (fuel + 1) listed E h K :=
  ⟨fun a w w0 inv f hw hio => by
    have hr' : i ∈ Region.ready .any ops listed := by simpa using hr
    have hin' : i < nt := by simpa using hin
    refine wpHL_first hi (Region.noSelect_spec tl.sel) (fun _ _ _ hq => Dq_panic hq) tl.sink tl.chain (by simpa using tl.lt) hin' (fun _ _ _ hL => seqB_ready hL.1) fuel listed a w inv (Region.free_spec hi hf) hr'
      (.inr ⟨wanted_no f rfl hj hv hb, rfl⟩) (by rw [hw]; exact g) ?_
    exact rest.run _ w w0 (inv.set hr' hin') (f.put (by simpa using hd) undef) hw hio⟩
theorem e_takeu (i : Nat) {d j dj : Nat} {want : Bool} (tl : Tl ops nt) (hi : ops[i]? = some ⟨some d, op, ty, pos, af, some (j, want)⟩) (hin : Nat.blt i nt = true) (hf : Region.free .any ops listed i = true) (hr : (Region.ready .any ops listed).contains i = true)
    (hd : Nat.blt d n = true) (hj : (ops[j]?).bind (·.dst) = some dj) (hv : look E dj = some undef) (g : G h) (rest : Dt P ops n nt G fuel (listed.setIfInBounds i true) ((d, undef) :: E) h K) : Dt P ops n nt G (fuel + 1) listed E h K :=
  ⟨fun a w w0 inv f hw hio => by
    have hr' : i ∈ Region.ready .any ops listed := by simpa using hr
    have hin' : i < nt := by simpa using hin
    refine wpHL_first hi (Region.noSelect_spec tl.sel) (fun _ _ _ hq => Dq_panic hq) tl.sink tl.chain (by simpa using tl.lt) hin' (fun _ _ _ hL => seqB_ready hL.1) fuel listed a w inv (Region.free_spec hi hf) hr'
      (.inr ⟨wanted_undef f rfl hj hv, rfl⟩) (by rw [hw]; exact g) ?_
    exact rest.run _ w w0 (inv.set hr' hin') (f.put (by simpa using hd) undef) hw hio⟩
theorem e_one (i : Nat) {d : Nat} (hr : Region.ready .any ops listed = [i]) (hi : ops[i]? = some ⟨some d, op, ty, pos, af, none⟩) (hin : Nat.blt i nt = true) (hd : Nat.blt d n = true)
    (s : S P op ty E h (fun v h' => G h' ∧ Dt P ops n nt G fuel (listed.setIfInBounds i true) ((d, v) :: E) h' K)) : Dt P ops n nt G (fuel + 1) listed E h K :=
  ⟨fun a w w0 inv f hw hio => by
    have hin' : i < nt := by simpa using hin
    refine ⟨by rw [hr]; simp, fun k hk => ?_⟩
    have e : k = i := by rw [hr] at hk; simpa using hk
    subst e
    refine ⟨hin', ?_⟩
    unfold wpOp
    simp only [hi]
    rw [if_pos (by simp [Region.wanted])]
    refine .inl (s.run .pl n a w _ _ _ rfl rfl f hw fun v w' hio' ⟨g, o⟩ => ⟨g, ?_⟩)
    exact o.run _ w' w0 (inv.set hk hin') (f.put (by simpa using hd) v) rfl (hio.trans hio')⟩
theorem e_one0 (i : Nat) (hr : Region.ready .any ops listed = [i]) (hi : ops[i]? = some ⟨none, op, ty, pos, af, none⟩) (hin : Nat.blt i nt = true)
    (s : S P op ty E h (fun v h' => G h' ∧ Dt P ops n nt G fuel (listed.setIfInBounds i true) E h' K)) : Dt P ops n nt G (fuel + 1) listed E h K :=
  ⟨fun a w w0 inv f hw hio => by
    have hin' : i < nt := by simpa using hin
    refine ⟨by rw [hr]; simp, fun k hk => ?_⟩
    have e : k = i := by rw [hr] at hk; simpa using hk
    subst e
    refine ⟨hin', ?_⟩
    unfold wpOp
    simp only [hi]
    rw [if_pos (by simp [Region.wanted])]
    refine .inl (s.run .pl n a w _ _ _ rfl rfl f hw fun v w' hio' ⟨g, o⟩ => ⟨g, ?_⟩)
    exact o.run _ w' w0 (inv.set hk hin') f rfl (hio.trans hio')⟩
theorem x_regdt (nt : Nat) (G : Hp → Prop) {id : Nat} {l : List Oper} {Q : Post} (hm : P.follows .mixedOrders = true) (tl : Tl l.toArray nt) (y : Tl l.toArray nt → Dt P l.toArray n nt G nt (Array.replicate l.length false) E h (fun E' h' => Q .normal E' h')) : X none P n (.region id l.toArray true) E h Q :=
  ⟨fun a w f hw => by
    have hn : nt < l.toArray.size := by simpa using tl.lt
    have hn' : nt < l.length := by simpa using hn
    have inv0 : HeadInv .any l.toArray nt (Array.replicate l.toArray.size false) :=
      ⟨by simp, fun j oj _ hl => (by rw [getD_replicate_false] at hl; cases hl), fun t _ ht => getD_in (by simpa using ht) (getD_replicate_false _ _)⟩
    have hsz : l.toArray.size = l.length := rfl
    have H := (y tl).run a { w with drawn := w.drawn + 1 } w (by rw [← hsz]; exact inv0) f hw ⟨rfl, rfl, rfl⟩
    have hdl : (l.drop nt).length = l.toArray.size - nt := by simp
    have := wpAny_of_HL (g := l.toArray.size - nt) (fun listed a' w' hL => by
      have := wpAny_of_seq (md := .any) (l.drop nt) nt listed a' w' (fun j => by simp [List.getElem?_drop]) (by rw [hdl]; exact hL.1) hL.2
      rwa [hdl] at this) _ _ _ _ H
    rw [show nt + (l.toArray.size - nt) = l.toArray.size by omega] at this
    refine (wpIn_wide (n := 0)).2 ?_
    refine Code.wp_mono (fun e a' w' hq => ?_) (wp_region_any (Q := Dq n w (fun E' h' => Q .normal E' h')) hm this)
    obtain ⟨rfl, E', f', i, q⟩ := hq
    exact ⟨E', f', i, q⟩⟩
end
end Go.Lx
