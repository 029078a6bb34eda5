import Derived.Test.YtpnbdejdkllflaaU10
import Derived.Test.YtpnbdejdkllflaaG4
set_option linter.unusedVariables false
namespace Go.Proofs
open Go.Lx Try

def e1 (x : Int) : List Value := [.int .i64 x]
theorem lene1 : ∀ x, (e1 x).length = 1 := fun _ => rfl
theorem onee1 : ∀ x, ∀ v ∈ e1 x, v.oneCell' = true := fun x v hv => by simp [e1] at hv; subst hv; rfl
/-- Those of the first k numbers that differ from the one ahead. -/
def dd (l : List Int) : Nat → List Int
  | 0 => []
  | k + 1 => if 0 < k ∧ gt l (k : Int) = gt l ((k : Int) - 1) then dd l k else dd l k ++ [gt l (k : Int)]
theorem dd_len (l : List Int) : ∀ k, (dd l k).length ≤ k
  | 0 => by simp [dd]
  | k + 1 => by
    have := dd_len l k
    unfold dd; split
    · omega
    · simp; omega
theorem gt_lt {l : List Int} {k : Nat} (hk : k < l.length) : gt l (k : Int) = l[k] := by simp [gt, hk]

theorem c67 (B : Nat) (a : Option Addr) (cap : Nat) (l : List Int) (h : Hp) (ow : Ow B 3 1 e1 h a cap l) (hlen : l.length ≤ 100000000) :
    C prog 67 [.slice a l.length cap] h fun v h' => v = .slice a (dd l l.length).length cap ∧ Ow B 3 1 e1 h' a cap (dd l l.length) ∧ Kp (At a) h h' := by
  refine enter func67 rfl ntmps67 results67 rfl rfl ?_
  refine x_seq ?_
  refine x_region ?_
  refine r1 rfl (p_as rfl) ?_
  refine o_nil ?_
  refine x_seq ?_
  refine x_seq ?_
  refine x_region ?_
  refine r1 rfl (p_mv rfl) ?_
  refine r1 rfl (p_len runUnderlying47 rfl) ?_
  refine r1 rfl (p_lss rfl rfl) ?_
  refine o_nil ?_
  refine x_cond rfl (fun h2 => ?_) (fun h2 => ?_)
  · skip
    have h2' : l.length < 2 := by have := of_decide_eq_true h2; omega
    refine x_seq ?_
    refine x_region ?_
    refine r1 rfl (p_mv rfl) ?_
    refine r1 rfl (p_as rfl) ?_
    refine o_nil ?_
    refine x_ret (fin1 rfl ?_)
    have e : dd l l.length = l := by
      match l, h2' with
      | [], _ => rfl
      | [x], _ => simp [dd, gt]
    rw [e]
    exact ⟨rfl, ow, Kp.refl _ _⟩
  · skip
    have h2' : 2 ≤ l.length := by have := of_decide_eq_false h2; omega
    have hl := ow.rd lene1
    have hcap := ow.capge
    refine x_skip ?_
    refine x_seq ?_
    refine x_seq ?_
    refine x_region ?_
    refine r1 rfl (p_as rfl) ?_
    refine o_nil ?_
    refine x_block ?_
    refine x_loope (σ := Nat) (fun k E0 => (3, .int .i64 (k : Int)) :: E0) [(0, _)] (fun k h' => h = h' ∧ 1 ≤ k ∧ k ≤ l.length ∧ dd l k = l.take k) (fun k => l.length - k) (1) ⟨rfl, rfl, trivial⟩ ?_ ?_
    · refine ⟨rfl, by omega, by omega, ?_⟩
      simp [dd]
      match l, h2' with
      | x :: r, _ => rfl
    rintro k h' ⟨hh, hk1, hk2, hdd⟩
    show X _ _ _ ((3, .int .i64 (k : Int)) :: _) _ _
    subst hh
    refine x_seq ?_
    refine x_seq ?_
    refine x_region ?_
    refine r1 rfl (p_mv rfl) ?_
    refine r1 rfl (p_mv rfl) ?_
    refine r1 rfl (p_len runUnderlying47 rfl) ?_
    refine r1 rfl (p_lss rfl rfl) ?_
    refine o_nil ?_
    refine x_cond rfl (fun hc => ?_) (fun hc => ?_)
    · skip
      have hlt : k < l.length := by have := of_decide_eq_true hc; omega
      refine x_skip ?_
      refine x_seq ?_
      refine x_block ?_
      refine x_seq ?_
      refine x_regt (by kernel_rfl) (by kernel_rfl) ?_
      refine t1 rfl (p_mv rfl) ?_
      refine t1 rfl (p_mv rfl) ?_
      refine t1 rfl (p_idx runUnderlying47 sizeOf3 rfl rfl (by omega) (hl.isi (i := (k : Int)) (by omega) (by omega))) ?_
      refine t1 rfl (p_ld isAgg3 rfl (hl.ati (i := (k : Int)) (by omega) (by omega) (j := 0) rfl)) ?_
      refine t1 rfl (p_mv rfl) ?_
      refine t1 rfl (p_mv rfl) ?_
      refine t1 rfl (p_sub64 rfl rfl (by omega)) ?_
      refine t1 rfl (p_idx runUnderlying47 sizeOf3 rfl rfl (by omega) (hl.isi (i := (k : Int) - 1) (by omega) (by omega))) ?_
      refine t1 rfl (p_ld isAgg3 rfl (hl.ati (i := (k : Int) - 1) (by omega) (by omega) (j := 0) rfl)) ?_
      refine t1 rfl (p_eql rfl rfl) ?_
      refine t_nil ?_
      refine x_cond rfl (fun he => ?_) (fun he => ?_)
      · skip
        have he' := of_decide_eq_true he
        have hd0 : dd l (k + 1) = dd l k := by rw [dd, if_pos ⟨by omega, he'⟩]
        have hl0 : (dd l (k + 1)).length = k := by rw [hd0, hdd]; simp; omega
        refine x_seq ?_
        refine x_region ?_
        refine r1 rfl (p_mv rfl) ?_
        refine r1 rfl (p_mv rfl) ?_
        refine r1 rfl (p_slfrom runUnderlying47 sizeOf3 rfl rfl (by omega) hcap) ?_
        refine r1 rfl (p_as rfl) ?_
        refine o_nil ?_
        refine x_seq ?_
        refine x_seq ?_
        refine x_region ?_
        refine r1 rfl (p_as rfl) ?_
        refine o_nil ?_
        refine x_block ?_
        refine x_loope (σ := Nat × List Int) (fun s E0 => match s with | (j, Z) => (5, .int .i64 (j : Int)) :: (3, .int .i64 ((dd l (k + j)).length : Int)) :: E0) [(0, _), (4, _)] (fun s h' => match s with | (j, Z) => Kp (At a) h h' ∧ 1 ≤ j ∧ j ≤ l.length - k ∧ Ow B 3 1 e1 h' a cap Z ∧ Z.length = l.length ∧ Z.take (dd l (k + j)).length = dd l (k + j) ∧ (dd l (k + j)).length + 1 ≤ k + j ∧ (∀ i, k + j - 1 ≤ i → Z[i]? = l[i]?)) (fun s => match s with | (j, Z) => l.length - k - j) ((1, l)) ⟨rfl, (by show some (Value.int .i64 (k : Int)) = some (.int .i64 ((dd l (k + 1)).length : Int)); rw [hl0]), rfl, rfl, trivial⟩ ?_ ?_
        · exact ⟨Kp.refl _ _, by omega, by omega, ow, rfl, by rw [hl0, hd0, hdd], by omega, fun _ _ => rfl⟩
        rintro ⟨j, Z⟩ h' ⟨xk, hj1, hj2, oz, hzl, hzt, hm, hz⟩
        show X _ _ _ ((5, .int .i64 (j : Int)) :: (3, .int .i64 ((dd l (k + j)).length : Int)) :: _) _ _
        have hrz := oz.rd lene1
        have hcl : Z.length ≤ cap := by omega
        have hr2 := hrz.from_ cap k hcl
        have hdl : (Z.drop k).length = l.length - k := by simp; omega
        refine x_seq ?_
        refine x_seq ?_
        refine x_region ?_
        refine r1 rfl (p_mv rfl) ?_
        refine r1 rfl (p_mv rfl) ?_
        refine r1 rfl (p_len runUnderlying47 rfl) ?_
        refine r1 rfl (p_lss rfl rfl) ?_
        refine o_nil ?_
        refine x_cond rfl (fun hd => ?_) (fun hd => ?_)
        · skip
          have hjl : j < l.length - k := by have := of_decide_eq_true hd; omega
          have hg (i : Nat) (hi : k + j - 1 ≤ i) : gt Z (i : Int) = gt l (i : Int) := by
            have := hz i hi
            simp [gt, this]
          have hgd (i : Nat) : gt (Z.drop k) (i : Int) = gt Z ((k + i : Nat) : Int) := by show (Z.drop k).getD i 0 = Z.getD (k + i) 0; simp
          refine x_skip ?_
          refine x_seq ?_
          refine x_block ?_
          refine x_seq ?_
          refine x_regt (by kernel_rfl) (by kernel_rfl) ?_
          refine t1 rfl (p_mv rfl) ?_
          refine t1 rfl (p_mv rfl) ?_
          refine t1 rfl (p_idx runUnderlying47 sizeOf3 rfl rfl (by omega) (hr2.isi (i := (j : Int)) (by omega) (by omega))) ?_
          refine t1 rfl (p_ld isAgg3 rfl (hr2.ati (i := (j : Int)) (by omega) (by omega) (j := 0) rfl)) ?_
          refine t1 rfl (p_mv rfl) ?_
          refine t1 rfl (p_mv rfl) ?_
          refine t1 rfl (p_sub64 rfl rfl (by omega)) ?_
          refine t1 rfl (p_idx runUnderlying47 sizeOf3 rfl rfl (by omega) (hr2.isi (i := (j : Int) - 1) (by omega) (by omega))) ?_
          refine t1 rfl (p_ld isAgg3 rfl (hr2.ati (i := (j : Int) - 1) (by omega) (by omega) (j := 0) rfl)) ?_
          refine t1 rfl (p_neq rfl rfl) ?_
          refine t_nil ?_
          have g1 : gt (Z.drop k) (j : Int) = gt l ((k + j : Nat) : Int) := by rw [hgd, hg _ (by omega)]
          have g2 : gt (Z.drop k) ((j : Int) - 1) = gt l (((k + j : Nat) : Int) - 1) := by
            have e1 : (j : Int) - 1 = ((j - 1 : Nat) : Int) := by omega
            have e2 : ((k + j : Nat) : Int) - 1 = ((k + (j - 1) : Nat) : Int) := by omega
            rw [e1, e2, hgd, hg _ (by omega)]
          rw [g1, g2]
          refine x_cond rfl (fun hn => ?_) (fun hn => ?_)
          · skip
            have hn' := of_decide_eq_true hn
            have hds : dd l (k + j + 1) = dd l (k + j) ++ [gt l ((k + j : Nat) : Int)] := by rw [dd, if_neg (fun hh => hn' hh.2)]
            refine x_seq ?_
            refine x_region ?_
            refine r1 rfl (p_mv rfl) ?_
            refine r1 rfl (p_mv rfl) ?_
            refine r1 rfl (p_mv rfl) ?_
            refine r1 rfl (p_mv rfl) ?_
            refine r1 rfl (p_idx runUnderlying47 sizeOf3 rfl rfl (by omega) (hr2.isi (i := (j : Int)) (by omega) (by omega))) ?_
            refine r1 rfl (p_ld isAgg3 rfl (hr2.ati (i := (j : Int)) (by omega) (by omega) (j := 0) rfl)) ?_
            refine r1 rfl (p_idx runUnderlying47 sizeOf3 rfl rfl (by omega) (hrz.isi (i := ((dd l (k + j)).length : Int)) (by omega) (by omega))) ?_
            refine o0 (s_stow (i := (dd l (k + j)).length) (j := 0) sizeOf3 rfl rfl rfl oz (by omega) (by decide) (gt (Z.drop k) (j : Int)) rfl lene1 ?_)
            intro h9 w9 k9
            refine o_nil ?_
            refine x_region ?_
            refine r1 rfl (p_mv rfl) ?_
            refine r1 rfl (p_add64 rfl rfl (by omega)) ?_
            refine r1 rfl (p_as rfl) ?_
            refine o_nil ?_
            refine x_region ?_
            refine r1 rfl (p_mv rfl) ?_
            refine r1 rfl (p_add64 rfl rfl (by omega)) ?_
            refine r1 rfl (p_as rfl) ?_
            refine o_nil ?_
            rw [g1] at w9
            have hnx : ((dd l (k + j)).length : Int) + 1 = ((dd l (k + j + 1)).length : Int) := by rw [hds]; simp
            refine ⟨(j + 1, Z.set (dd l (k + j)).length (gt l ((k + j : Nat) : Int))), ⟨rfl, (congrArg (fun z => some (Value.int .i64 z)) hnx), rfl, rfl, trivial⟩, ?_, ?_⟩
            · refine ⟨xk.trans k9, by omega, by omega, w9, by simp [hzl], ?_, ?_, ?_⟩
              · rw [← Nat.add_assoc, hds]
                simp only [List.length_append, List.length_cons, List.length_nil, Nat.zero_add]
                rw [take_snoc _ _ (by simp; omega)]
                rw [List.take_set_of_le (Nat.le_refl _), hzt]
                simp
              · rw [← Nat.add_assoc, hds]; simp; omega
              · intro i hi
                rw [List.getElem?_set_ne (by omega)]
                exact hz i (by omega)
            · dsimp only; omega
          · skip
            have hn' : gt l ((k + j : Nat) : Int) = gt l (((k + j : Nat) : Int) - 1) := by simpa using hn
            have hds : dd l (k + j + 1) = dd l (k + j) := by rw [dd, if_pos ⟨by omega, hn'⟩]
            refine x_skip ?_
            refine x_region ?_
            refine r1 rfl (p_mv rfl) ?_
            refine r1 rfl (p_add64 rfl rfl (by omega)) ?_
            refine r1 rfl (p_as rfl) ?_
            refine o_nil ?_
            refine ⟨(j + 1, Z), ⟨rfl, (congrArg (fun z => some (Value.int .i64 z)) (by rw [← Nat.add_assoc, hds])), rfl, rfl, trivial⟩, ?_, ?_⟩
            · have hds : dd l (k + (j + 1)) = dd l (k + j) := hds
              exact ⟨xk, by omega, by omega, oz, hzl, by rw [hds]; exact hzt, by rw [hds]; omega, fun i hi => hz i (by omega)⟩
            · dsimp only; omega
        · skip
          have hjl : k + j = l.length := by have := of_decide_eq_false hd; omega
          rw [hjl] at hzt hm ⊢
          refine x_exit ?_
          refine x_seq ?_
          refine x_region ?_
          refine r1 rfl (p_mv rfl) ?_
          refine r1 rfl (p_mv rfl) ?_
          refine r1 rfl (p_slfrom runUnderlying47 sizeOf3 rfl rfl (by omega) hcap) ?_
          refine o0 (s_clr (l := Z) (m := (dd l l.length).length) 0 runUnderlying47 zeroValue3 rfl lene1 (by decide) onee1 (by rw [hzl]; rfl) (by omega) oz ?_)
          intro h9 w9 k9
          refine o_nil ?_
          refine x_seq ?_
          refine x_region ?_
          refine r1 rfl (p_mv rfl) ?_
          refine r1 rfl (p_mv rfl) ?_
          refine r1 rfl (p_slto runUnderlying47 sizeOf3 rfl rfl (by omega)) ?_
          refine r1 rfl (p_as rfl) ?_
          refine o_nil ?_
          refine x_ret (fin1 rfl ?_)
          rw [hzt] at w9
          have w10 := w9.to (dd l l.length).length
          rw [List.take_left] at w10
          exact ⟨rfl, w10, xk.trans k9⟩
      · skip
        have he' := of_decide_eq_false he
        have hd0 : dd l (k + 1) = dd l k ++ [gt l (k : Int)] := by rw [dd, if_neg (fun hh => he' hh.2)]
        refine x_skip ?_
        refine x_region ?_
        refine r1 rfl (p_mv rfl) ?_
        refine r1 rfl (p_add64 rfl rfl (by omega)) ?_
        refine r1 rfl (p_as rfl) ?_
        refine o_nil ?_
        refine ⟨k + 1, ⟨rfl, rfl, trivial⟩, ?_, ?_⟩
        · refine ⟨rfl, by omega, by omega, ?_⟩
          rw [hd0, hdd, take_snoc l k hlt, gt_lt hlt]
        · omega
    · skip
      have hkl : k = l.length := by have := of_decide_eq_false hc; omega
      subst hkl
      refine x_exit ?_
      refine x_seq ?_
      refine x_region ?_
      refine r1 rfl (p_mv rfl) ?_
      refine r1 rfl (p_as rfl) ?_
      refine o_nil ?_
      refine x_ret (fin1 rfl ?_)
      rw [hdd, List.take_length]
      exact ⟨rfl, ow, Kp.refl _ _⟩
end Go.Proofs
