import Derived.Test.YtpnbdejdkllflaaU3
set_option linter.unusedVariables false
namespace Go.Proofs
open Go.Lx Try

/-- What sort.Search hands back. -/
structure Found (n : Int) (p : Int → Bool) (m : Int) : Prop where
  lo : 0 ≤ m
  hi : m ≤ n
  no : ∀ k, 0 ≤ k → k < m → p k = false
  yes : ∀ k, m ≤ k → k < n → p k = true

theorem c61 (n : Int) (p : Int → Bool) (k : FuncId) (us cs : List Value) (h : Hp) (hn : 0 ≤ n ∧ n ≤ 1000000000)
    (hk : ∀ (args : Array Value) w, (callFunc k args).run prog w = .ok (.enter k args) w)
    (hc : ∀ m : Int, 0 ≤ m → m < n → ∀ h', Ext h h' → C prog k (us ++ [.int .i64 m] ++ cs) h' (fun v h'' => v = .bool (p m) ∧ Ext h' h''))
    (hm : ∀ a b : Int, 0 ≤ a → a ≤ b → b < n → p a = true → p b = true) :
    C prog 61 [.int .i64 n, .func (.func k) us.toArray cs.toArray] h fun v h' => (∃ m, v = .int .i64 m ∧ Found n p m) ∧ Ext h h' := by
  refine enter func61 rfl ntmps61 results61 rfl rfl ?_
  refine x_seq ?_
  refine x_region ?_
  refine r1 rfl (p_as rfl) ?_
  refine o_nil ?_
  refine x_seq ?_
  refine x_region ?_
  refine r1 rfl (p_mv rfl) ?_
  refine r1 rfl (p_as rfl) ?_
  refine r1 rfl (p_as rfl) ?_
  refine o_nil ?_
  refine x_seq ?_
  refine x_block ?_
  refine x_loope (σ := Int × Int) (fun s E0 => (5, .int .i64 s.1) :: (6, .int .i64 s.2) :: E0) [(1, _)] (fun s h' => Ext h h' ∧ 0 ≤ s.1 ∧ s.1 ≤ s.2 ∧ s.2 ≤ n ∧ (∀ k, 0 ≤ k → k < s.1 → p k = false) ∧ (∀ k, s.2 ≤ k → k < n → p k = true)) (fun s => (s.2 - s.1).toNat) ((0, n)) ⟨rfl, rfl, rfl, trivial⟩ ?_ ?_
  · exact ⟨Ext.refl _, Int.le_refl _, hn.1, Int.le_refl _, fun k h0 h1 => by omega, fun k h0 h1 => by omega⟩
  rintro ⟨i, j⟩ h' ⟨x0, hi, hij, hjn, hno, hyes⟩
  dsimp only at hi hij hjn hno hyes
  refine x_seq ?_
  refine x_seq ?_
  refine x_region ?_
  refine r1 rfl (p_mv rfl) ?_
  refine r1 rfl (p_mv rfl) ?_
  refine r1 rfl (p_lss rfl rfl) ?_
  refine o_nil ?_
  refine x_cond rfl (fun h1 => ?_) (fun h1 => ?_)
  · skip
    have h1' := of_decide_eq_true h1
    refine x_skip ?_
    refine x_block ?_
    refine x_seq ?_
    refine x_region ?_
    refine r1 rfl (p_mv rfl) ?_
    refine r1 rfl (p_mv rfl) ?_
    refine r1 rfl (p_add64 rfl rfl (by omega)) ?_
    refine r1 rfl (p_conv runUnderlying3 runUnderlying91 rfl (wrap_u64 (by omega))) ?_
    refine r1 rfl (p_shr (s := 1) rfl rfl (by decide)) ?_
    refine r1 rfl (p_conv runUnderlying91 runUnderlying3 rfl (wrap_i64 (by omega))) ?_
    refine r1 rfl (p_as rfl) ?_
    refine o_nil ?_
    refine x_seq ?_
    refine x_region ?_
    refine r1 rfl (p_mv rfl) ?_
    refine r1 rfl (p_mv rfl) ?_
    refine o1 rfl (s_cv hk rfl rfl (hc _ (by omega) (by omega) _ x0) ?_)
    rintro v1 hh1 ⟨rfl, x1⟩
    have x0 := x0.tr (x1)
    refine r1 rfl (p_not rfl) ?_
    refine o_nil ?_
    refine x_cond rfl (fun h2 => ?_) (fun h2 => ?_)
    · skip
      have h2' : p ((i + j) / 2 ^ 1) = false := by simpa using h2
      refine x_region ?_
      refine r1 rfl (p_mv rfl) ?_
      refine r1 rfl (p_add64 rfl rfl (by omega)) ?_
      refine r1 rfl (p_as rfl) ?_
      refine o_nil ?_
      refine ⟨((i + j) / 2 ^ 1 + 1, j), ⟨rfl, rfl, rfl, trivial⟩, ?_, ?_⟩
      rotate_left
      · dsimp only; omega
      refine ⟨x0, by dsimp only; omega, by dsimp only; omega, hjn, ?_, hyes⟩
      intro k h0 h3
      cases hp : p k with
      | false => rfl
      | true =>
        dsimp only at h3
        have := hm k ((i + j) / 2 ^ 1) h0 (by omega) (by omega) hp
        rw [h2'] at this
        cases this
    · skip
      have h2' : p ((i + j) / 2 ^ 1) = true := by simpa using h2
      refine x_region ?_
      refine r1 rfl (p_mv rfl) ?_
      refine r1 rfl (p_as rfl) ?_
      refine o_nil ?_
      refine ⟨(i, (i + j) / 2 ^ 1), ⟨rfl, rfl, rfl, trivial⟩, ?_, ?_⟩
      rotate_left
      · dsimp only; omega
      refine ⟨x0, hi, by dsimp only; omega, by dsimp only; omega, hno, ?_⟩
      intro k h0 h3
      dsimp only at h0
      exact hm _ k (by omega) h0 h3 h2'
  · skip
    have h1' := of_decide_eq_false h1
    refine x_exit ?_
    refine x_seq ?_
    refine x_region ?_
    refine r1 rfl (p_mv rfl) ?_
    refine r1 rfl (p_as rfl) ?_
    refine o_nil ?_
    refine x_ret (fin1 rfl ?_)
    have e : i = j := by omega
    subst e
    exact ⟨⟨_, rfl, hi, hjn, hno, hyes⟩, x0⟩

end Go.Proofs
