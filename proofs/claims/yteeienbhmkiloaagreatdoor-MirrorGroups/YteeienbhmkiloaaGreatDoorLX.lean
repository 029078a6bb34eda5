import Derived.Test.YteeienbhmkiloaaGreatDoorLW
set_option linter.unusedSimpArgs false
set_option linter.unusedVariables false
namespace Go.Lx
/-- One of the operations that may come up. -/
structure Ds (P : Program) (ops : Array Oper) (n : Nat) (G : Hp → Prop) (fuel : Nat) (listed : Array Bool) (i : Nat) (E : Env) (h : Hp) (K : Env → Hp → Prop) : Prop where
  run : ∀ a w w0, Fits n a E → w.heap = h → Io w0 w → wpOp P ops (Dq n w0 K) i (fun a' w' => G w'.heap ∧ wpAnyH P .any ops (Dq n w0 K) (fun w => G w.heap) fuel (listed.setIfInBounds i true) a' w') a w
section
variable {P : Program} {ops : Array Oper} {n : Nat} {G : Hp → Prop} {fuel : Nat} {listed : Array Bool} {E : Env} {h : Hp} {K : Env → Hp → Prop} {op : Op} {ty : TypeId} {pos : String} {af : Array Edge} {v : Value}
theorem ds_one (i : Nat) {d : Nat} (hi : ops[i]? = some ⟨some d, op, ty, pos, af, none⟩) (hd : Nat.blt d n = true)
    (s : S P op ty E h (fun v h' => G h' ∧ Dr P ops n G fuel (listed.setIfInBounds i true) ((d, v) :: E) h' K)) : Ds P ops n G fuel listed i E h K :=
  ⟨fun a w w0 f hw hio => by
    unfold wpOp
    simp only [hi]
    rw [if_pos (by simp [Region.wanted])]
    refine .inl (s.run .pl n a w _ _ _ rfl rfl f hw fun v w' hio' ⟨g, o⟩ => ⟨g, ?_⟩)
    exact o.run _ w' w0 (f.put (by simpa using hd) v) rfl (hio.trans hio')⟩
theorem ds_one0 (i : Nat) (hi : ops[i]? = some ⟨none, op, ty, pos, af, none⟩)
    (s : S P op ty E h (fun v h' => G h' ∧ Dr P ops n G fuel (listed.setIfInBounds i true) E h' K)) : Ds P ops n G fuel listed i E h K :=
  ⟨fun a w w0 f hw hio => by
    unfold wpOp
    simp only [hi]
    rw [if_pos (by simp [Region.wanted])]
    refine .inl (s.run .pl n a w _ _ _ rfl rfl f hw fun v w' hio' ⟨g, o⟩ => ⟨g, ?_⟩)
    exact o.run _ w' w0 f rfl (hio.trans hio')⟩
theorem d_two (i j : Nat) (hr : Region.ready .any ops listed = [i, j]) (x : Ds P ops n G fuel listed i E h K) (y : Ds P ops n G fuel listed j E h K) : Dr P ops n G (fuel + 1) listed E h K :=
  ⟨fun a w w0 f hw hio => by
    refine wpAnyH_all hr (by simp) fun k hk => ?_
    have : k = i ∨ k = j := by simpa using hk
    rcases this with rfl | rfl
    · exact x.run a w w0 f hw hio
    · exact y.run a w w0 f hw hio⟩
end
/-- The same in a region with a tail. -/
structure Es (P : Program) (ops : Array Oper) (n nt : Nat) (G : Hp → Prop) (fuel : Nat) (listed : Array Bool) (i : Nat) (E : Env) (h : Hp) (K : Env → Hp → Prop) : Prop where
  lt : i < nt
  run : ∀ a w w0, HeadInv .any ops nt listed → i ∈ Region.ready .any ops listed → Fits n a E → w.heap = h → Io w0 w →
    wpOp P ops (Dq n w0 K) i (fun a' w' => G w'.heap ∧ wpHL P .any ops (Dq n w0 K) (fun w => G w.heap) nt (fun listed' a' w' => Region.seqB .any ops (ops.size - nt) nt listed' = true ∧ wpList P ops (Dq n w0 K) (ops.toList.drop nt) a' w') fuel (listed.setIfInBounds i true) a' w') a w
section
variable {P : Program} {ops : Array Oper} {n nt : Nat} {G : Hp → Prop} {fuel : Nat} {listed : Array Bool} {E : Env} {h : Hp} {K : Env → Hp → Prop} {op : Op} {ty : TypeId} {pos : String} {af : Array Edge} {v : Value}
theorem es_one (i : Nat) {d : Nat} (hi : ops[i]? = some ⟨some d, op, ty, pos, af, none⟩) (hin : Nat.blt i nt = true) (hd : Nat.blt d n = true)
    (s : S P op ty E h (fun v h' => G h' ∧ Dt P ops n nt G fuel (listed.setIfInBounds i true) ((d, v) :: E) h' K)) : Es P ops n nt G fuel listed i E h K :=
  ⟨by simpa using hin, fun a w w0 inv hk f hw hio => by
    have hin' : i < nt := by simpa using hin
    unfold wpOp
    simp only [hi]
    rw [if_pos (by simp [Region.wanted])]
    refine .inl (s.run .pl n a w _ _ _ rfl rfl f hw fun v w' hio' ⟨g, o⟩ => ⟨g, ?_⟩)
    exact o.run _ w' w0 (inv.set hk hin') (f.put (by simpa using hd) v) rfl (hio.trans hio')⟩
theorem es_one0 (i : Nat) (hi : ops[i]? = some ⟨none, op, ty, pos, af, none⟩) (hin : Nat.blt i nt = true)
    (s : S P op ty E h (fun v h' => G h' ∧ Dt P ops n nt G fuel (listed.setIfInBounds i true) E h' K)) : Es P ops n nt G fuel listed i E h K :=
  ⟨by simpa using hin, fun a w w0 inv hk f hw hio => by
    have hin' : i < nt := by simpa using hin
    unfold wpOp
    simp only [hi]
    rw [if_pos (by simp [Region.wanted])]
    refine .inl (s.run .pl n a w _ _ _ rfl rfl f hw fun v w' hio' ⟨g, o⟩ => ⟨g, ?_⟩)
    exact o.run _ w' w0 (inv.set hk hin') f rfl (hio.trans hio')⟩
theorem e_two (i j : Nat) (hr : Region.ready .any ops listed = [i, j]) (x : Es P ops n nt G fuel listed i E h K) (y : Es P ops n nt G fuel listed j E h K) : Dt P ops n nt G (fuel + 1) listed E h K :=
  ⟨fun a w w0 inv f hw hio => by
    refine ⟨by rw [hr]; simp, fun k hk => ?_⟩
    have e : k = i ∨ k = j := by rw [hr] at hk; simpa using hk
    rcases e with rfl | rfl
    · exact ⟨x.lt, x.run a w w0 inv hk f hw hio⟩
    · exact ⟨y.lt, y.run a w w0 inv hk f hw hio⟩⟩
end
end Go.Lx
