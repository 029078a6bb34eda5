import Derived.Test.YtpnbdejdkllflaaU2
set_option linter.unusedVariables false
namespace Go.Proofs
open Go.Lx Try

def inL (l : List (Int × Int)) (r : Int) : Bool := l.any fun p => decide (p.1 ≤ r) && decide (r ≤ p.2)
theorem in_yes {l : List (Int × Int)} {r : Int} {i : Nat} (hi : i < l.length) (h : (decide (l[i].1 ≤ r) && decide (r ≤ l[i].2)) = true) : inL l r = true := by
  unfold inL
  exact List.any_eq_true.2 ⟨l[i], List.getElem_mem hi, h⟩
theorem in_no {l : List (Int × Int)} {r : Int} {i : Nat} (hi : i < l.length) (hn : inL (l.take i) r = false) (h : (decide (l[i].1 ≤ r) && decide (r ≤ l[i].2)) = false) : inL (l.take (i + 1)) r = false := by
  have e : l.take (i + 1) = l.take i ++ [l[i]] := by simp
  unfold inL at *
  rw [e, List.any_append, hn]
  simpa using h

theorem c52 (a : Option Addr) (cap : Nat) (l : List (Int × Int)) (r : Int) (h : Hp) (hl : Rd 2 e2 h a l) (hr : B32 r) (hlen : l.length ≤ 1000000) :
    C prog 52 [.slice a l.length cap, .int .i32 r] h fun v h' => v = .bool (inL l r) ∧ Ext h h' := by
  unfold B32 at hr
  refine enter func52 rfl ntmps52 results52 rfl rfl ?_
  refine x_seq ?_
  refine x_region ?_
  refine r1 rfl (p_as rfl) ?_
  refine o_nil ?_
  refine x_seq ?_
  refine x_seq ?_
  refine x_region ?_
  refine r1 rfl (p_as rfl) ?_
  refine o_nil ?_
  refine x_block ?_
  refine x_loope (σ := Nat) (fun i E0 => (5, .int .i64 (i : Int)) :: E0) [(0, _), (1, _)] (fun i h' => h' = h ∧ i ≤ l.length ∧ inL (l.take i) r = false) (fun i => l.length - i) (0) ⟨rfl, rfl, rfl, trivial⟩ ?_ ?_
  · exact ⟨rfl, by omega, by simp [inL]⟩
  rintro i h ⟨rfl, hi, hno⟩
  refine x_seq ?_
  refine x_seq ?_
  refine x_region ?_
  refine r1 rfl (p_mv rfl) ?_
  refine r1 rfl (p_mv rfl) ?_
  refine r1 rfl (p_len runUnderlying73 rfl) ?_
  refine r1 rfl (p_lss rfl rfl) ?_
  refine o_nil ?_
  refine x_cond rfl (fun hc => ?_) (fun hc => ?_)
  · skip
    have hi : i < l.length := by simpa using hc
    have ha := hl.is' hi
    refine x_skip ?_
    refine x_seq ?_
    refine x_block ?_
    refine x_seq ?_
    refine x_region ?_
    refine r1 rfl (p_mv rfl) ?_
    refine r1 rfl (p_conv runUnderlying21 runUnderlying3 rfl (wrap_i64 (by omega))) ?_
    refine r1 rfl (p_mv rfl) ?_
    refine r1 rfl (p_mv rfl) ?_
    refine r1 rfl (p_idx runUnderlying73 sizeOf88 rfl rfl (by omega) (by assumption)) ?_
    refine r1 rfl (p_idxa runUnderlying88 sizeOf3 rfl rfl (by decide)) ?_
    refine r1 rfl (p_ld isAgg3 rfl (hl.at_ hi (j := 0) rfl)) ?_
    refine r1 rfl (p_geq rfl rfl) ?_
    refine r1 rfl (p_mv rfl) ?_
    apply o_and 9 (dj := 20) (d := 29) rfl
    · intro hg1
      refine r1h rfl rfl rfl hg1 (p_mv rfl) ?_
      refine r1h rfl rfl rfl hg1 (p_conv runUnderlying21 runUnderlying3 rfl (wrap_i64 (by omega))) ?_
      refine r1h rfl rfl rfl hg1 (p_mv rfl) ?_
      refine r1h rfl rfl rfl hg1 (p_mv rfl) ?_
      refine r1h rfl rfl rfl hg1 (p_idx runUnderlying73 sizeOf88 rfl rfl (by omega) (by assumption)) ?_
      refine r1h rfl rfl rfl hg1 (p_idxa runUnderlying88 sizeOf3 rfl rfl (by decide)) ?_
      refine r1h rfl rfl rfl hg1 (p_ld isAgg3 rfl (hl.at_ hi (j := 1) rfl)) ?_
      refine r1h rfl rfl rfl hg1 (p_leq rfl rfl) ?_
      refine r1 rfl (p_pickt hg1 rfl rfl rfl) ?_
      exact o_nil ⟨rfl, rfl, by repeat (first | exact le_r _ | refine le_c rfl ?_)⟩
    · intro hg1
      refine o1n rfl rfl rfl hg1 ?_
      refine o1n rfl rfl rfl hg1 ?_
      refine o1n rfl rfl rfl hg1 ?_
      refine o1n rfl rfl rfl hg1 ?_
      refine o1n rfl rfl rfl hg1 ?_
      refine o1n rfl rfl rfl hg1 ?_
      refine o1n rfl rfl rfl hg1 ?_
      refine o1n rfl rfl rfl hg1 ?_
      refine r1 rfl (p_pickf hg1 rfl rfl rfl) ?_
      exact o_nil ⟨rfl, rfl, by repeat (first | exact le_r _ | refine le_c rfl ?_)⟩
    refine o_nil ?_
    refine x_cond rfl (fun h2 => ?_) (fun h2 => ?_)
    · skip
      refine x_seq ?_
      refine x_region ?_
      refine r1 rfl (p_as rfl) ?_
      refine o_nil ?_
      refine x_ret (fin1 rfl ?_)
      exact ⟨by rw [in_yes hi h2], Ext.refl _⟩
    · skip
      refine x_skip ?_
      refine x_region ?_
      refine r1 rfl (p_mv rfl) ?_
      refine r1 rfl (p_add64 rfl rfl (by omega)) ?_
      refine r1 rfl (p_as rfl) ?_
      refine o_nil ?_
      refine ⟨i + 1, ⟨rfl, rfl, rfl, trivial⟩, ?_, ?_⟩
      · exact ⟨rfl, by omega, in_no hi hno h2⟩
      · omega
  · skip
    refine x_exit ?_
    refine x_seq ?_
    refine x_region ?_
    refine r1 rfl (p_as rfl) ?_
    refine o_nil ?_
    refine x_ret (fin1 rfl ?_)
    refine ⟨?_, Ext.refl _⟩
    have hi : i = l.length := by have := of_decide_eq_false hc; omega
    subst hi
    rw [List.take_length] at hno
    rw [hno]

/-- Lists of rows. -/
def eT (x : Option Addr × List (Int × Int)) : List Value := [.slice x.1 x.2.length x.2.length]
theorem leneT (x : Option Addr × List (Int × Int)) : (eT x).length = 1 := rfl
def idx : List (List (Int × Int)) → Int → Int → Int
  | [], _, _ => 0
  | l :: ls, r, k => if inL l r then k + 1 else idx ls r (k + 1)

def splitF (r : Int) : Int × Int × Int := if r < 44032 ∨ 55203 < r then (0, 0, 0) else
  (4352 + (r - 44032) / 588, 4449 + (r - 44032) / 28 % 21, if (r - 44032) % 28 = 0 then 0 else 4519 + (r - 44032) % 28)
theorem c73 (r : Int) (h : Hp) (hr : B32 r) : C prog 73 [.int .i32 r] h fun v h' => v = .tuple #[.int .i64 (splitF r).1, .int .i64 (splitF r).2.1, .int .i64 (splitF r).2.2] ∧ Ext h h' := by
  unfold B32 at hr
  refine enter func73 rfl ntmps73 results73 rfl rfl ?_
  refine x_seq ?_
  refine x_region ?_
  refine r1 rfl (p_as rfl) ?_
  refine r1 rfl (p_as rfl) ?_
  refine r1 rfl (p_as rfl) ?_
  refine o_nil ?_
  refine x_seq ?_
  refine x_region ?_
  refine r1 rfl (p_mv rfl) ?_
  refine r1 rfl (p_conv runUnderlying21 runUnderlying3 rfl (wrap_i64 (by omega))) ?_
  refine r1 rfl (p_as rfl) ?_
  refine o_nil ?_
  refine x_seq ?_
  refine x_seq ?_
  refine x_region ?_
  refine r1 rfl (p_mv rfl) ?_
  refine r1 rfl (p_lss rfl rfl) ?_
  refine r1 rfl (p_mv rfl) ?_
  apply o_or 3 (dj := 14) (d := 17) rfl
  · intro hg1
    refine r1h rfl rfl rfl hg1 (p_mv rfl) ?_
    refine r1h rfl rfl rfl hg1 (p_gtr rfl rfl) ?_
    refine r1 rfl (p_pickf hg1 rfl rfl rfl) ?_
    exact o_nil ⟨rfl, rfl, by repeat (first | exact le_r _ | refine le_c rfl ?_)⟩
  · intro hg1
    refine o1n rfl rfl rfl hg1 ?_
    refine o1n rfl rfl rfl hg1 ?_
    refine r1 rfl (p_pickt hg1 rfl rfl rfl) ?_
    exact o_nil ⟨rfl, rfl, by repeat (first | exact le_r _ | refine le_c rfl ?_)⟩
  refine o_nil ?_
  refine x_cond rfl (fun h1 => ?_) (fun h1 => ?_)
  · skip
    have h1' : r < 44032 ∨ 55203 < r := by simpa using h1
    rw [splitF, if_pos h1']
    refine x_seq ?_
    refine x_region ?_
    refine r1 rfl (p_as rfl) ?_
    refine r1 rfl (p_as rfl) ?_
    refine r1 rfl (p_as rfl) ?_
    refine o_nil ?_
    refine x_ret (fin3 rfl rfl rfl ?_)
    exact ⟨rfl, Ext.refl _⟩
  · skip
    have h1' : ¬ (r < 44032 ∨ 55203 < r) := by simpa using h1
    rw [splitF, if_neg h1']
    refine x_skip ?_
    refine x_seq ?_
    refine x_region ?_
    refine r1 rfl (p_as rfl) ?_
    refine o_nil ?_
    refine x_seq ?_
    refine x_seq ?_
    refine x_region ?_
    refine r1 rfl (p_as rfl) ?_
    refine o_nil ?_
    refine x_block ?_
    refine x_loope (σ := Nat) (fun i E0 => (7, .int .i64 (4352 + (i : Int))) :: (6, .int .i64 (44032 + 588 * (i : Int))) :: E0) [(5, _)] (fun i h' => h' = h ∧ i ≤ 19 ∧ 44032 + 588 * (i : Int) ≤ r) (fun i => 19 - i) (0) ⟨rfl, rfl, rfl, trivial⟩ ?_ ?_
    · exact ⟨rfl, by omega, by omega⟩
    rintro i h ⟨rfl, hi, hlo⟩
    refine x_seq ?_
    refine x_seq ?_
    refine x_region ?_
    refine r1 rfl (p_mv rfl) ?_
    refine r1 rfl (p_leq rfl rfl) ?_
    refine o_nil ?_
    refine x_cond rfl (fun h2 => ?_) (fun h2 => ?_)
    · skip
      have h2' := of_decide_eq_true h2
      refine x_skip ?_
      refine x_seq ?_
      refine x_block ?_
      refine x_seq ?_
      refine x_region ?_
      refine r1 rfl (p_as rfl) ?_
      refine o_nil ?_
      refine x_block ?_
      refine x_loope (σ := Nat) (fun j E0 => (8, .int .i64 (4449 + (j : Int))) :: (6, .int .i64 (44032 + 588 * (i : Int) + 28 * (j : Int))) :: E0) [(5, _), (7, _)] (fun j h' => h' = h ∧ j ≤ 21 ∧ 44032 + 588 * (i : Int) + 28 * (j : Int) ≤ r) (fun j => 21 - j) (0) ⟨rfl, rfl, rfl, rfl, trivial⟩ ?_ ?_
      · exact ⟨rfl, by omega, by omega⟩
      rintro j h ⟨rfl, hj, hlo2⟩
      refine x_seq ?_
      refine x_seq ?_
      refine x_region ?_
      refine r1 rfl (p_mv rfl) ?_
      refine r1 rfl (p_leq rfl rfl) ?_
      refine o_nil ?_
      refine x_cond rfl (fun h3 => ?_) (fun h3 => ?_)
      · skip
        have h3' := of_decide_eq_true h3
        refine x_skip ?_
        refine x_seq ?_
        refine x_block ?_
        refine x_seq ?_
        refine x_seq ?_
        refine x_region ?_
        refine r1 rfl (p_mv rfl) ?_
        refine r1 rfl (p_mv rfl) ?_
        refine r1 rfl (p_add64 rfl rfl (by omega)) ?_
        refine r1 rfl (p_lss rfl rfl) ?_
        refine o_nil ?_
        refine x_cond rfl (fun h4 => ?_) (fun h4 => ?_)
        · skip
          have h4' := of_decide_eq_true h4
          have q1 : (r - 44032) / 588 = i := by omega
          have q2 : (r - 44032) / 28 % 21 = j := by omega
          have q3 : r - 44032 = 588 * (i : Int) + 28 * j + (r - (44032 + 588 * i + 28 * j)) := by omega
          refine x_seq ?_
          refine x_region ?_
          refine r1 rfl (p_mv rfl) ?_
          refine r1 rfl (p_add64 rfl rfl (by omega)) ?_
          refine r1 rfl (p_mv rfl) ?_
          refine r1 rfl (p_sub64 rfl rfl (by omega)) ?_
          refine r1 rfl (p_as rfl) ?_
          refine o_nil ?_
          refine x_seq ?_
          refine x_seq ?_
          refine x_region ?_
          refine r1 rfl (p_mv rfl) ?_
          refine r1 rfl (p_eql rfl rfl) ?_
          refine o_nil ?_
          refine x_cond rfl (fun h5 => ?_) (fun h5 => ?_)
          · skip
            have h5' := of_decide_eq_true h5
            refine x_region ?_
            refine r1 rfl (p_as rfl) ?_
            refine o_nil ?_
            refine x_seq ?_
            refine x_region ?_
            refine r1 rfl (p_mv rfl) ?_
            refine r1 rfl (p_mv rfl) ?_
            refine r1 rfl (p_mv rfl) ?_
            refine r1 rfl (p_as rfl) ?_
            refine r1 rfl (p_as rfl) ?_
            refine r1 rfl (p_as rfl) ?_
            refine o_nil ?_
            refine x_ret (fin3 rfl rfl rfl ?_)
            refine ⟨?_, Ext.refl _⟩
            rw [q1, q2, if_pos (by omega)]
          · skip
            have h5' := of_decide_eq_false h5
            refine x_skip ?_
            refine x_seq ?_
            refine x_region ?_
            refine r1 rfl (p_mv rfl) ?_
            refine r1 rfl (p_mv rfl) ?_
            refine r1 rfl (p_mv rfl) ?_
            refine r1 rfl (p_as rfl) ?_
            refine r1 rfl (p_as rfl) ?_
            refine r1 rfl (p_as rfl) ?_
            refine o_nil ?_
            refine x_ret (fin3 rfl rfl rfl ?_)
            refine ⟨?_, Ext.refl _⟩
            have q4 : (4519 : Int) + r - (44032 + 588 * (i : Int) + 28 * j) = 4519 + (r - 44032) % 28 := by omega
            rw [q1, q2, if_neg (by omega), q4]
        · skip
          have h4' := of_decide_eq_false h4
          refine x_skip ?_
          refine x_region ?_
          refine r1 rfl (p_mv rfl) ?_
          refine r1 rfl (p_add64 rfl rfl (by omega)) ?_
          refine r1 rfl (p_as rfl) ?_
          refine o_nil ?_
          refine x_region ?_
          refine r1 rfl (p_mv rfl) ?_
          refine r1 rfl (p_add64 rfl rfl (by omega)) ?_
          refine r1 rfl (p_as rfl) ?_
          refine o_nil ?_
          refine ⟨j + 1, ⟨by show some (Value.int .i64 (4449 + (j : Int) + 1)) = some (.int .i64 (4449 + ((j + 1 : Nat) : Int))); congr 2 <;> omega, by show some (Value.int .i64 (44032 + 588 * (i : Int) + 28 * j + 28)) = some (.int .i64 (44032 + 588 * (i : Int) + 28 * ((j + 1 : Nat) : Int))); congr 2 <;> omega, rfl, rfl, trivial⟩, ?_, ?_⟩
          · exact ⟨rfl, by omega, by omega⟩
          · omega
      · skip
        have h3' := of_decide_eq_false h3
        refine x_exit ?_
        refine x_region ?_
        refine r1 rfl (p_mv rfl) ?_
        refine r1 rfl (p_add64 rfl rfl (by omega)) ?_
        refine r1 rfl (p_as rfl) ?_
        refine o_nil ?_
        refine ⟨i + 1, ⟨by show some (Value.int .i64 (4352 + (i : Int) + 1)) = some (.int .i64 (4352 + ((i + 1 : Nat) : Int))); congr 2 <;> omega, by show some (Value.int .i64 (44032 + 588 * (i : Int) + 28 * (j : Int))) = some (.int .i64 (44032 + 588 * ((i + 1 : Nat) : Int))); congr 2 <;> omega, rfl, trivial⟩, ?_, ?_⟩
        · exact ⟨rfl, by omega, by omega⟩
        · omega
    · skip
      have h2' := of_decide_eq_false h2
      omega

theorem c53 (r : Int) (h : Hp) (hr : B32 r) : C prog 53 [.int .i32 r] h fun v h' => v = .int .i64 (classF r) ∧ Ext h h' := by
  have hr' := hr
  unfold B32 at hr'
  refine enter func53 rfl ntmps53 results53 rfl rfl ?_
  refine x_seq ?_
  refine x_region ?_
  refine r1 rfl (p_as rfl) ?_
  refine o_nil ?_
  refine x_seq ?_
  refine x_region ?_
  refine r1 rfl (p_mv rfl) ?_
  refine r1 rfl (p_conv runUnderlying21 runUnderlying3 rfl (wrap_i64 (by omega))) ?_
  refine r1 rfl (p_as rfl) ?_
  refine o_nil ?_
  refine x_seq ?_
  refine x_seq ?_
  refine x_region ?_
  refine r1 rfl (p_mv rfl) ?_
  refine r1 rfl (p_geq rfl rfl) ?_
  refine r1 rfl (p_mv rfl) ?_
  apply o_and 3 (dj := 11) (d := 14) rfl
  · intro hg1
    refine r1h rfl rfl rfl hg1 (p_mv rfl) ?_
    refine r1h rfl rfl rfl hg1 (p_leq rfl rfl) ?_
    refine r1 rfl (p_pickt hg1 rfl rfl rfl) ?_
    exact o_nil ⟨rfl, rfl, by repeat (first | exact le_r _ | refine le_c rfl ?_)⟩
  · intro hg1
    refine o1n rfl rfl rfl hg1 ?_
    refine o1n rfl rfl rfl hg1 ?_
    refine r1 rfl (p_pickf hg1 rfl rfl rfl) ?_
    exact o_nil ⟨rfl, rfl, by repeat (first | exact le_r _ | refine le_c rfl ?_)⟩
  refine r1 rfl (p_mv rfl) ?_
  apply o_or 7 (dj := 15) (d := 22) rfl
  · intro hg2
    refine r1h rfl rfl rfl hg2 (p_mv rfl) ?_
    refine r1h rfl rfl rfl hg2 (p_geq rfl rfl) ?_
    refine r1h rfl rfl rfl hg2 (p_mv rfl) ?_
    apply o_and 3 (dj := 18) (d := 21) rfl
    · intro hg3
      refine r1h rfl rfl rfl hg3 (p_mv rfl) ?_
      refine r1h rfl rfl rfl hg3 (p_leq rfl rfl) ?_
      refine r1h rfl rfl rfl hg2 (p_pickt hg3 rfl rfl rfl) ?_
      exact o_nil ⟨rfl, rfl, by repeat (first | exact le_r _ | refine le_c rfl ?_)⟩
    · intro hg3
      refine o1n rfl rfl rfl hg3 ?_
      refine o1n rfl rfl rfl hg3 ?_
      refine r1h rfl rfl rfl hg2 (p_pickf hg3 rfl rfl rfl) ?_
      exact o_nil ⟨rfl, rfl, by repeat (first | exact le_r _ | refine le_c rfl ?_)⟩
    refine r1 rfl (p_pickf hg2 rfl rfl rfl) ?_
    exact o_nil ⟨rfl, rfl, by repeat (first | exact le_r _ | refine le_c rfl ?_)⟩
  · intro hg2
    refine o1n rfl rfl rfl hg2 ?_
    refine o1n rfl rfl rfl hg2 ?_
    refine o1n rfl rfl rfl hg2 ?_
    refine o1u rfl rfl rfl ?_
    refine o1u rfl rfl rfl ?_
    refine o1n rfl rfl rfl hg2 ?_
    refine r1 rfl (p_pickt hg2 rfl rfl rfl) ?_
    exact o_nil ⟨rfl, rfl, by repeat (first | exact le_r _ | refine le_c rfl ?_)⟩
  refine o_nil ?_
  refine x_cond rfl (fun h1 => ?_) (fun h1 => ?_)
  · skip
    have e1 : (inF r 4352 4447 || inF r 43360 43388) = true := h1
    rw [classF, if_pos e1]
    refine x_seq ?_
    refine x_region ?_
    refine r1 rfl (p_as rfl) ?_
    refine o_nil ?_
    refine x_ret (fin1 rfl ?_)
    exact ⟨rfl, Ext.refl _⟩
  · skip
    have e1 : ¬ (inF r 4352 4447 || inF r 43360 43388) = true := by have : (inF r 4352 4447 || inF r 43360 43388) = false := h1; rw [this]; decide
    rw [classF, if_neg e1]
    refine x_skip ?_
    refine x_seq ?_
    refine x_seq ?_
    refine x_region ?_
    refine r1 rfl (p_mv rfl) ?_
    refine r1 rfl (p_geq rfl rfl) ?_
    refine r1 rfl (p_mv rfl) ?_
    apply o_and 3 (dj := 25) (d := 28) rfl
    · intro hg4
      refine r1h rfl rfl rfl hg4 (p_mv rfl) ?_
      refine r1h rfl rfl rfl hg4 (p_leq rfl rfl) ?_
      refine r1 rfl (p_pickt hg4 rfl rfl rfl) ?_
      exact o_nil ⟨rfl, rfl, by repeat (first | exact le_r _ | refine le_c rfl ?_)⟩
    · intro hg4
      refine o1n rfl rfl rfl hg4 ?_
      refine o1n rfl rfl rfl hg4 ?_
      refine r1 rfl (p_pickf hg4 rfl rfl rfl) ?_
      exact o_nil ⟨rfl, rfl, by repeat (first | exact le_r _ | refine le_c rfl ?_)⟩
    refine r1 rfl (p_mv rfl) ?_
    apply o_or 7 (dj := 29) (d := 36) rfl
    · intro hg5
      refine r1h rfl rfl rfl hg5 (p_mv rfl) ?_
      refine r1h rfl rfl rfl hg5 (p_geq rfl rfl) ?_
      refine r1h rfl rfl rfl hg5 (p_mv rfl) ?_
      apply o_and 3 (dj := 32) (d := 35) rfl
      · intro hg6
        refine r1h rfl rfl rfl hg6 (p_mv rfl) ?_
        refine r1h rfl rfl rfl hg6 (p_leq rfl rfl) ?_
        refine r1h rfl rfl rfl hg5 (p_pickt hg6 rfl rfl rfl) ?_
        exact o_nil ⟨rfl, rfl, by repeat (first | exact le_r _ | refine le_c rfl ?_)⟩
      · intro hg6
        refine o1n rfl rfl rfl hg6 ?_
        refine o1n rfl rfl rfl hg6 ?_
        refine r1h rfl rfl rfl hg5 (p_pickf hg6 rfl rfl rfl) ?_
        exact o_nil ⟨rfl, rfl, by repeat (first | exact le_r _ | refine le_c rfl ?_)⟩
      refine r1 rfl (p_pickf hg5 rfl rfl rfl) ?_
      exact o_nil ⟨rfl, rfl, by repeat (first | exact le_r _ | refine le_c rfl ?_)⟩
    · intro hg5
      refine o1n rfl rfl rfl hg5 ?_
      refine o1n rfl rfl rfl hg5 ?_
      refine o1n rfl rfl rfl hg5 ?_
      refine o1u rfl rfl rfl ?_
      refine o1u rfl rfl rfl ?_
      refine o1n rfl rfl rfl hg5 ?_
      refine r1 rfl (p_pickt hg5 rfl rfl rfl) ?_
      exact o_nil ⟨rfl, rfl, by repeat (first | exact le_r _ | refine le_c rfl ?_)⟩
    refine o_nil ?_
    refine x_cond rfl (fun h2 => ?_) (fun h2 => ?_)
    · skip
      have e2 : (inF r 4448 4519 || inF r 55216 55238) = true := h2
      rw [if_pos e2]
      refine x_seq ?_
      refine x_region ?_
      refine r1 rfl (p_as rfl) ?_
      refine o_nil ?_
      refine x_ret (fin1 rfl ?_)
      exact ⟨rfl, Ext.refl _⟩
    · skip
      have e2 : ¬ (inF r 4448 4519 || inF r 55216 55238) = true := by have : (inF r 4448 4519 || inF r 55216 55238) = false := h2; rw [this]; decide
      rw [if_neg e2]
      refine x_skip ?_
      refine x_seq ?_
      refine x_seq ?_
      refine x_region ?_
      refine r1 rfl (p_mv rfl) ?_
      refine r1 rfl (p_geq rfl rfl) ?_
      refine r1 rfl (p_mv rfl) ?_
      apply o_and 3 (dj := 39) (d := 42) rfl
      · intro hg7
        refine r1h rfl rfl rfl hg7 (p_mv rfl) ?_
        refine r1h rfl rfl rfl hg7 (p_leq rfl rfl) ?_
        refine r1 rfl (p_pickt hg7 rfl rfl rfl) ?_
        exact o_nil ⟨rfl, rfl, by repeat (first | exact le_r _ | refine le_c rfl ?_)⟩
      · intro hg7
        refine o1n rfl rfl rfl hg7 ?_
        refine o1n rfl rfl rfl hg7 ?_
        refine r1 rfl (p_pickf hg7 rfl rfl rfl) ?_
        exact o_nil ⟨rfl, rfl, by repeat (first | exact le_r _ | refine le_c rfl ?_)⟩
      refine r1 rfl (p_mv rfl) ?_
      apply o_or 7 (dj := 43) (d := 50) rfl
      · intro hg8
        refine r1h rfl rfl rfl hg8 (p_mv rfl) ?_
        refine r1h rfl rfl rfl hg8 (p_geq rfl rfl) ?_
        refine r1h rfl rfl rfl hg8 (p_mv rfl) ?_
        apply o_and 3 (dj := 46) (d := 49) rfl
        · intro hg9
          refine r1h rfl rfl rfl hg9 (p_mv rfl) ?_
          refine r1h rfl rfl rfl hg9 (p_leq rfl rfl) ?_
          refine r1h rfl rfl rfl hg8 (p_pickt hg9 rfl rfl rfl) ?_
          exact o_nil ⟨rfl, rfl, by repeat (first | exact le_r _ | refine le_c rfl ?_)⟩
        · intro hg9
          refine o1n rfl rfl rfl hg9 ?_
          refine o1n rfl rfl rfl hg9 ?_
          refine r1h rfl rfl rfl hg8 (p_pickf hg9 rfl rfl rfl) ?_
          exact o_nil ⟨rfl, rfl, by repeat (first | exact le_r _ | refine le_c rfl ?_)⟩
        refine r1 rfl (p_pickf hg8 rfl rfl rfl) ?_
        exact o_nil ⟨rfl, rfl, by repeat (first | exact le_r _ | refine le_c rfl ?_)⟩
      · intro hg8
        refine o1n rfl rfl rfl hg8 ?_
        refine o1n rfl rfl rfl hg8 ?_
        refine o1n rfl rfl rfl hg8 ?_
        refine o1u rfl rfl rfl ?_
        refine o1u rfl rfl rfl ?_
        refine o1n rfl rfl rfl hg8 ?_
        refine r1 rfl (p_pickt hg8 rfl rfl rfl) ?_
        exact o_nil ⟨rfl, rfl, by repeat (first | exact le_r _ | refine le_c rfl ?_)⟩
      refine o_nil ?_
      refine x_cond rfl (fun h3 => ?_) (fun h3 => ?_)
      · skip
        have e3 : (inF r 4520 4607 || inF r 55243 55291) = true := h3
        rw [if_pos e3]
        refine x_seq ?_
        refine x_region ?_
        refine r1 rfl (p_as rfl) ?_
        refine o_nil ?_
        refine x_ret (fin1 rfl ?_)
        exact ⟨rfl, Ext.refl _⟩
      · skip
        have e3 : ¬ (inF r 4520 4607 || inF r 55243 55291) = true := by have : (inF r 4520 4607 || inF r 55243 55291) = false := h3; rw [this]; decide
        rw [if_neg e3]
        refine x_skip ?_
        refine x_seq ?_
        refine x_region ?_
        refine r1 rfl (p_mv rfl) ?_
        refine o1 rfl (s_call call73 rfl (c73 _ _ hr) ?_)
        rintro v10 hh10 ⟨rfl, x10⟩
        have x0 := (x10 : Ext _ _)
        refine r1 rfl (p_mv rfl) ?_
        refine r1 rfl (p_ex rfl rfl) ?_
        refine r1 rfl (p_ex rfl rfl) ?_
        refine r1 rfl (p_ex rfl rfl) ?_
        refine r1 rfl (p_as rfl) ?_
        refine r1 rfl (p_as rfl) ?_
        refine r1 rfl (p_as rfl) ?_
        refine o_nil ?_
        refine x_seq ?_
        refine x_seq ?_
        refine x_region ?_
        refine r1 rfl (p_mv rfl) ?_
        refine r1 rfl (p_eql rfl rfl) ?_
        refine o_nil ?_
        refine x_cond rfl (fun h4 => ?_) (fun h4 => ?_)
        · skip
          have h4' := of_decide_eq_true h4
          refine x_seq ?_
          refine x_region ?_
          refine r1 rfl (p_as rfl) ?_
          refine o_nil ?_
          refine x_ret (fin1 rfl ?_)
          have e4 : inF r 44032 55203 = false := by
            unfold splitF at h4'
            split at h4'
            · rename_i hq; simp [inF]; omega
            · dsimp at h4'; omega
          rw [if_pos e4]
          exact ⟨rfl, x0⟩
        · skip
          have h4' := of_decide_eq_false h4
          have hin : ¬ (r < 44032 ∨ 55203 < r) := by
            intro hq
            rw [splitF, if_pos hq] at h4'
            exact h4' rfl
          have e4 : ¬ inF r 44032 55203 = false := by simp [inF]; omega
          rw [if_neg e4]
          refine x_skip ?_
          refine x_seq ?_
          refine x_seq ?_
          refine x_region ?_
          refine r1 rfl (p_mv rfl) ?_
          refine r1 rfl (p_eql rfl rfl) ?_
          refine o_nil ?_
          refine x_cond rfl (fun h5 => ?_) (fun h5 => ?_)
          · skip
            have h5' := of_decide_eq_true h5
            rw [splitF, if_neg hin] at h5'
            refine x_seq ?_
            refine x_region ?_
            refine r1 rfl (p_as rfl) ?_
            refine o_nil ?_
            refine x_ret (fin1 rfl ?_)
            rw [if_pos (by dsimp at h5'; split at h5' <;> omega)]
            exact ⟨rfl, x0⟩
          · skip
            have h5' := of_decide_eq_false h5
            rw [splitF, if_neg hin] at h5'
            refine x_skip ?_
            refine x_seq ?_
            refine x_region ?_
            refine r1 rfl (p_as rfl) ?_
            refine o_nil ?_
            refine x_ret (fin1 rfl ?_)
            rw [if_neg (by dsimp at h5'; split at h5' <;> omega)]
            exact ⟨rfl, x0⟩

theorem c22 (r : Int) (h : Hp) (hr : B32 r) : C prog 22 [.int .i32 r] h fun v h' => v = .int .i64 (if idx [L1, L2, L3, L4, L5, L6, L7, L8] r 0 = 0 then classF r else idx [L1, L2, L3, L4, L5, L6, L7, L8] r 0) ∧ Ext h h' := by
  refine enter func22 rfl ntmps22 results22 rfl rfl ?_
  refine x_seq ?_
  refine x_region ?_
  refine r1 rfl (p_as rfl) ?_
  refine o_nil ?_
  refine x_seq ?_
  refine x_region ?_
  refine o1 rfl (s_call call44 rfl (c44 _) ?_)
  rintro v1 hh1 ⟨a1, rfl, w1, x1⟩
  have x0 := (x1 : Ext _ _)
  have rd1 := (w1.rd lene2)
  refine o1 rfl (s_call call45 rfl (c45 _) ?_)
  rintro v2 hh2 ⟨a2, rfl, w2, x2⟩
  have x0 := x0.trans (x2)
  have rd1 := rd1.lift (x2)
  have rd2 := (w2.rd lene2)
  refine o1 rfl (s_call call46 rfl (c46 _) ?_)
  rintro v3 hh3 ⟨a3, rfl, w3, x3⟩
  have x0 := x0.trans (x3)
  have rd1 := rd1.lift (x3)
  have rd2 := rd2.lift (x3)
  have rd3 := (w3.rd lene2)
  refine o1 rfl (s_call call47 rfl (c47 _) ?_)
  rintro v4 hh4 ⟨a4, rfl, w4, x4⟩
  have x0 := x0.trans (x4)
  have rd1 := rd1.lift (x4)
  have rd2 := rd2.lift (x4)
  have rd3 := rd3.lift (x4)
  have rd4 := (w4.rd lene2)
  refine o1 rfl (s_call call48 rfl (c48 _) ?_)
  rintro v5 hh5 ⟨a5, rfl, w5, x5⟩
  have x0 := x0.trans (x5)
  have rd1 := rd1.lift (x5)
  have rd2 := rd2.lift (x5)
  have rd3 := rd3.lift (x5)
  have rd4 := rd4.lift (x5)
  have rd5 := (w5.rd lene2)
  refine o1 rfl (s_call call49 rfl (c49 _) ?_)
  rintro v6 hh6 ⟨a6, rfl, w6, x6⟩
  have x0 := x0.trans (x6)
  have rd1 := rd1.lift (x6)
  have rd2 := rd2.lift (x6)
  have rd3 := rd3.lift (x6)
  have rd4 := rd4.lift (x6)
  have rd5 := rd5.lift (x6)
  have rd6 := (w6.rd lene2)
  refine o1 rfl (s_call call50 rfl (c50 _) ?_)
  rintro v7 hh7 ⟨a7, rfl, w7, x7⟩
  have x0 := x0.trans (x7)
  have rd1 := rd1.lift (x7)
  have rd2 := rd2.lift (x7)
  have rd3 := rd3.lift (x7)
  have rd4 := rd4.lift (x7)
  have rd5 := rd5.lift (x7)
  have rd6 := rd6.lift (x7)
  have rd7 := (w7.rd lene2)
  refine o1 rfl (s_call call51 rfl (c51 _) ?_)
  rintro v8 hh8 ⟨a8, rfl, w8, x8⟩
  have x0 := x0.trans (x8)
  have rd1 := rd1.lift (x8)
  have rd2 := rd2.lift (x8)
  have rd3 := rd3.lift (x8)
  have rd4 := rd4.lift (x8)
  have rd5 := rd5.lift (x8)
  have rd6 := rd6.lift (x8)
  have rd7 := rd7.lift (x8)
  have rd8 := (w8.rd lene2)
  refine o1 rfl (s_bsl runUnderlying75 sizeOf73 zeroValue73 rfl (by decide) (by decide) rfl rfl ?_)
  intro b13 hb13 n13
  have g13 : _ ≤ b13 := n13.ge x0
  have nf_rd1_13 := rd1.nin n13
  have nf_rd2_13 := rd2.nin n13
  have nf_rd3_13 := rd3.nin n13
  have nf_rd4_13 := rd4.nin n13
  have nf_rd5_13 := rd5.nin n13
  have nf_rd6_13 := rd6.nin n13
  have nf_rd7_13 := rd7.nin n13
  have nf_rd8_13 := rd8.nin n13
  have x0 := x0.trans (n13.ext)
  have rd1 := rd1.lift (n13.ext)
  have rd2 := rd2.lift (n13.ext)
  have rd3 := rd3.lift (n13.ext)
  have rd4 := rd4.lift (n13.ext)
  have rd5 := rd5.lift (n13.ext)
  have rd6 := rd6.lift (n13.ext)
  have rd7 := rd7.lift (n13.ext)
  have rd8 := rd8.lift (n13.ext)
  have l13 := n13.bl
  have w13 := n13.ow (B := h.size) g13 [(a1, L1), (a2, L2), (a3, L3), (a4, L4), (a5, L5), (a6, L6), (a7, L7), (a8, L8)] rfl leneT
  refine r1 rfl (p_as rfl) ?_
  refine o_nil ?_
  refine x_seq ?_
  refine x_seq ?_
  refine x_region ?_
  refine r1 rfl (p_as rfl) ?_
  refine o_nil ?_
  refine x_block ?_
  have hT := w13.rd leneT
  have hb := g13
  have hR : ∀ p ∈ ([(a1, L1), (a2, L2), (a3, L3), (a4, L4), (a5, L5), (a6, L6), (a7, L7), (a8, L8)] : List (Option Addr × List (Int × Int))), Rd 2 e2 hb13 p.1 p.2 ∧ p.2.length ≤ 1000 := by
    intro p hp
    simp only [List.mem_cons, List.not_mem_nil, or_false] at hp
    rcases hp with rfl | rfl | rfl | rfl | rfl | rfl | rfl | rfl
    · refine ⟨rd1, ?_⟩; dsimp only; decide
    · refine ⟨rd2, ?_⟩; dsimp only; decide
    · refine ⟨rd3, ?_⟩; dsimp only; decide
    · refine ⟨rd4, ?_⟩; dsimp only; decide
    · refine ⟨rd5, ?_⟩; dsimp only; decide
    · refine ⟨rd6, ?_⟩; dsimp only; decide
    · refine ⟨rd7, ?_⟩; dsimp only; decide
    · refine ⟨rd8, ?_⟩; dsimp only; decide
  generalize hTs : ([(a1, L1), (a2, L2), (a3, L3), (a4, L4), (a5, L5), (a6, L6), (a7, L7), (a8, L8)] : List (Option Addr × List (Int × Int))) = Ts at hT hR
  have hlen : Ts.length = 8 := by rw [← hTs]; rfl
  have hmap : Ts.map (·.2) = [L1, L2, L3, L4, L5, L6, L7, L8] := by rw [← hTs]; rfl
  rw [← hmap]
  clear hmap hTs
  clear rd1 w1 rd2 w2 rd3 w3 rd4 w4 rd5 w5 rd6 w6 rd7 w7 rd8 w8 w13
  refine x_loope (σ := Nat) (fun i E0 => (4, .int .i64 (i : Int)) :: E0) [(0, _), (3, _)] (fun i h' => Ext hb13 h' ∧ i ≤ 8 ∧ idx ((Ts.drop i).map (·.2)) r i = idx (Ts.map (·.2)) r 0) (fun i => 8 - i) (0) ⟨rfl, rfl, rfl, trivial⟩ ?_ ?_
  · exact ⟨Ext.refl _, by omega, by simp⟩
  rintro i h' ⟨xl, hi, hno⟩
  have x0 := x0.trans xl
  refine x_seq ?_
  refine x_seq ?_
  refine x_region ?_
  refine r1 rfl (p_mv rfl) ?_
  refine r1 rfl (p_mv rfl) ?_
  refine r1 rfl (p_len runUnderlying75 rfl) ?_
  refine r1 rfl (p_lss rfl rfl) ?_
  refine o_nil ?_
  refine x_cond rfl (fun hc => ?_) (fun hc => ?_)
  · skip
    have hi : i < Ts.length := by rw [hlen]; have := of_decide_eq_true hc; omega
    have hT := hT.lift xl
    have ha := hT.is' hi
    obtain ⟨hR1, hR2⟩ := hR Ts[i] (List.getElem_mem hi)
    refine x_skip ?_
    refine x_seq ?_
    refine x_block ?_
    refine x_seq ?_
    refine x_region ?_
    refine r1 rfl (p_mv rfl) ?_
    refine r1 rfl (p_mv rfl) ?_
    refine r1 rfl (p_idx runUnderlying75 sizeOf73 rfl rfl (by have := of_decide_eq_true hc; omega) ha) ?_
    refine r1 rfl (p_ld isAgg73 rfl (hT.at_ hi (j := 0) rfl)) ?_
    refine r1 rfl (p_mv rfl) ?_
    refine o1 rfl (s_call call52 rfl (c52 _ _ _ _ _ (hR1.lift xl) hr (by omega)) ?_)
    rintro v9 hh9 ⟨rfl, x9⟩
    have x0 := x0.trans (x9)
    refine o_nil ?_
    have hd : Ts.drop i = Ts[i] :: Ts.drop (i + 1) := by simp
    rw [hd] at hno
    simp only [List.map_cons, idx] at hno
    refine x_cond rfl (fun h2 => ?_) (fun h2 => ?_)
    · skip
      rw [if_pos h2] at hno
      refine x_seq ?_
      refine x_region ?_
      refine r1 rfl (p_mv rfl) ?_
      refine r1 rfl (p_add64 rfl rfl (by omega)) ?_
      refine r1 rfl (p_as rfl) ?_
      refine o_nil ?_
      refine x_ret (fin1 rfl ?_)
      rw [← hno, if_neg (by omega)]
      exact ⟨rfl, x0⟩
    · skip
      rw [if_neg (by rw [h2]; decide)] at hno
      refine x_skip ?_
      refine x_region ?_
      refine r1 rfl (p_mv rfl) ?_
      refine r1 rfl (p_add64 rfl rfl (by omega)) ?_
      refine r1 rfl (p_as rfl) ?_
      refine o_nil ?_
      refine ⟨i + 1, ⟨rfl, rfl, rfl, trivial⟩, ?_, ?_⟩
      · exact ⟨xl.trans x9, by omega, by simpa using hno⟩
      · omega
  · skip
    have hi : i = 8 := by have := of_decide_eq_false hc; omega
    rw [List.drop_of_length_le (by omega)] at hno
    simp only [List.map_nil, idx] at hno
    rw [if_pos hno.symm]
    refine x_exit ?_
    refine x_seq ?_
    refine x_region ?_
    refine r1 rfl (p_mv rfl) ?_
    refine o1 rfl (s_call call53 rfl (c53 _ _ hr) ?_)
    rintro v10 hh10 ⟨rfl, x10⟩
    have x0 := x0.trans (x10)
    refine r1 rfl (p_as rfl) ?_
    refine o_nil ?_
    refine x_ret (fin1 rfl ?_)
    exact ⟨rfl, x0⟩

theorem c24 (r : Int) (h : Hp) (hr : B32 r) : C prog 24 [.int .i32 r] h fun v h' => v = .int .i64 (if idx [LC1, LC2, LC3] r 0 = 0 then 0 else idx [LC1, LC2, LC3] r 0) ∧ Ext h h' := by
  refine enter func24 rfl ntmps24 results24 rfl rfl ?_
  refine x_seq ?_
  refine x_region ?_
  refine r1 rfl (p_as rfl) ?_
  refine o_nil ?_
  refine x_seq ?_
  refine x_region ?_
  refine o1 rfl (s_call call55 rfl (c55 _) ?_)
  rintro v1 hh1 ⟨a1, rfl, w1, x1⟩
  have x0 := (x1 : Ext _ _)
  have rd1 := (w1.rd lene2)
  refine o1 rfl (s_call call56 rfl (c56 _) ?_)
  rintro v2 hh2 ⟨a2, rfl, w2, x2⟩
  have x0 := x0.trans (x2)
  have rd1 := rd1.lift (x2)
  have rd2 := (w2.rd lene2)
  refine o1 rfl (s_call call57 rfl (c57 _) ?_)
  rintro v3 hh3 ⟨a3, rfl, w3, x3⟩
  have x0 := x0.trans (x3)
  have rd1 := rd1.lift (x3)
  have rd2 := rd2.lift (x3)
  have rd3 := (w3.rd lene2)
  refine o1 rfl (s_bsl runUnderlying75 sizeOf73 zeroValue73 rfl (by decide) (by decide) rfl rfl ?_)
  intro b8 hb8 n8
  have g8 : _ ≤ b8 := n8.ge x0
  have nf_rd1_8 := rd1.nin n8
  have nf_rd2_8 := rd2.nin n8
  have nf_rd3_8 := rd3.nin n8
  have x0 := x0.trans (n8.ext)
  have rd1 := rd1.lift (n8.ext)
  have rd2 := rd2.lift (n8.ext)
  have rd3 := rd3.lift (n8.ext)
  have l8 := n8.bl
  have w8 := n8.ow (B := h.size) g8 [(a1, LC1), (a2, LC2), (a3, LC3)] rfl leneT
  refine r1 rfl (p_as rfl) ?_
  refine o_nil ?_
  refine x_seq ?_
  refine x_seq ?_
  refine x_region ?_
  refine r1 rfl (p_as rfl) ?_
  refine o_nil ?_
  refine x_block ?_
  have hT := w8.rd leneT
  have hb := g8
  have hR : ∀ p ∈ ([(a1, LC1), (a2, LC2), (a3, LC3)] : List (Option Addr × List (Int × Int))), Rd 2 e2 hb8 p.1 p.2 ∧ p.2.length ≤ 1000 := by
    intro p hp
    simp only [List.mem_cons, List.not_mem_nil, or_false] at hp
    rcases hp with rfl | rfl | rfl
    · refine ⟨rd1, ?_⟩; dsimp only; decide
    · refine ⟨rd2, ?_⟩; dsimp only; decide
    · refine ⟨rd3, ?_⟩; dsimp only; decide
  generalize hTs : ([(a1, LC1), (a2, LC2), (a3, LC3)] : List (Option Addr × List (Int × Int))) = Ts at hT hR
  have hlen : Ts.length = 3 := by rw [← hTs]; rfl
  have hmap : Ts.map (·.2) = [LC1, LC2, LC3] := by rw [← hTs]; rfl
  rw [← hmap]
  clear hmap hTs
  clear rd1 w1 rd2 w2 rd3 w3 w8
  refine x_loope (σ := Nat) (fun i E0 => (4, .int .i64 (i : Int)) :: E0) [(0, _), (3, _)] (fun i h' => Ext hb8 h' ∧ i ≤ 3 ∧ idx ((Ts.drop i).map (·.2)) r i = idx (Ts.map (·.2)) r 0) (fun i => 3 - i) (0) ⟨rfl, rfl, rfl, trivial⟩ ?_ ?_
  · exact ⟨Ext.refl _, by omega, by simp⟩
  rintro i h' ⟨xl, hi, hno⟩
  have x0 := x0.trans xl
  refine x_seq ?_
  refine x_seq ?_
  refine x_region ?_
  refine r1 rfl (p_mv rfl) ?_
  refine r1 rfl (p_mv rfl) ?_
  refine r1 rfl (p_len runUnderlying75 rfl) ?_
  refine r1 rfl (p_lss rfl rfl) ?_
  refine o_nil ?_
  refine x_cond rfl (fun hc => ?_) (fun hc => ?_)
  · skip
    have hi : i < Ts.length := by rw [hlen]; have := of_decide_eq_true hc; omega
    have hT := hT.lift xl
    have ha := hT.is' hi
    obtain ⟨hR1, hR2⟩ := hR Ts[i] (List.getElem_mem hi)
    refine x_skip ?_
    refine x_seq ?_
    refine x_block ?_
    refine x_seq ?_
    refine x_region ?_
    refine r1 rfl (p_mv rfl) ?_
    refine r1 rfl (p_mv rfl) ?_
    refine r1 rfl (p_idx runUnderlying75 sizeOf73 rfl rfl (by have := of_decide_eq_true hc; omega) ha) ?_
    refine r1 rfl (p_ld isAgg73 rfl (hT.at_ hi (j := 0) rfl)) ?_
    refine r1 rfl (p_mv rfl) ?_
    refine o1 rfl (s_call call52 rfl (c52 _ _ _ _ _ (hR1.lift xl) hr (by omega)) ?_)
    rintro v4 hh4 ⟨rfl, x4⟩
    have x0 := x0.trans (x4)
    refine o_nil ?_
    have hd : Ts.drop i = Ts[i] :: Ts.drop (i + 1) := by simp
    rw [hd] at hno
    simp only [List.map_cons, idx] at hno
    refine x_cond rfl (fun h2 => ?_) (fun h2 => ?_)
    · skip
      rw [if_pos h2] at hno
      refine x_seq ?_
      refine x_region ?_
      refine r1 rfl (p_mv rfl) ?_
      refine r1 rfl (p_add64 rfl rfl (by omega)) ?_
      refine r1 rfl (p_as rfl) ?_
      refine o_nil ?_
      refine x_ret (fin1 rfl ?_)
      rw [← hno, if_neg (by omega)]
      exact ⟨rfl, x0⟩
    · skip
      rw [if_neg (by rw [h2]; decide)] at hno
      refine x_skip ?_
      refine x_region ?_
      refine r1 rfl (p_mv rfl) ?_
      refine r1 rfl (p_add64 rfl rfl (by omega)) ?_
      refine r1 rfl (p_as rfl) ?_
      refine o_nil ?_
      refine ⟨i + 1, ⟨rfl, rfl, rfl, trivial⟩, ?_, ?_⟩
      · exact ⟨xl.trans x4, by omega, by simpa using hno⟩
      · omega
  · skip
    have hi : i = 3 := by have := of_decide_eq_false hc; omega
    rw [List.drop_of_length_le (by omega)] at hno
    simp only [List.map_nil, idx] at hno
    rw [if_pos hno.symm]
    refine x_exit ?_
    refine x_seq ?_
    refine x_region ?_
    refine r1 rfl (p_as rfl) ?_
    refine o_nil ?_
    refine x_ret (fin1 rfl ?_)
    exact ⟨rfl, x0⟩

theorem c25 (r : Int) (h : Hp) (hr : B32 r) : C prog 25 [.int .i32 r] h fun v h' => v = .int .i64 (if idx [LE1, LE2, LE3] r 0 = 0 then 0 else idx [LE1, LE2, LE3] r 0) ∧ Ext h h' := by
  refine enter func25 rfl ntmps25 results25 rfl rfl ?_
  refine x_seq ?_
  refine x_region ?_
  refine r1 rfl (p_as rfl) ?_
  refine o_nil ?_
  refine x_seq ?_
  refine x_region ?_
  refine o1 rfl (s_call call58 rfl (c58 _) ?_)
  rintro v1 hh1 ⟨a1, rfl, w1, x1⟩
  have x0 := (x1 : Ext _ _)
  have rd1 := (w1.rd lene2)
  refine o1 rfl (s_call call59 rfl (c59 _) ?_)
  rintro v2 hh2 ⟨a2, rfl, w2, x2⟩
  have x0 := x0.trans (x2)
  have rd1 := rd1.lift (x2)
  have rd2 := (w2.rd lene2)
  refine o1 rfl (s_call call60 rfl (c60 _) ?_)
  rintro v3 hh3 ⟨a3, rfl, w3, x3⟩
  have x0 := x0.trans (x3)
  have rd1 := rd1.lift (x3)
  have rd2 := rd2.lift (x3)
  have rd3 := (w3.rd lene2)
  refine o1 rfl (s_bsl runUnderlying75 sizeOf73 zeroValue73 rfl (by decide) (by decide) rfl rfl ?_)
  intro b8 hb8 n8
  have g8 : _ ≤ b8 := n8.ge x0
  have nf_rd1_8 := rd1.nin n8
  have nf_rd2_8 := rd2.nin n8
  have nf_rd3_8 := rd3.nin n8
  have x0 := x0.trans (n8.ext)
  have rd1 := rd1.lift (n8.ext)
  have rd2 := rd2.lift (n8.ext)
  have rd3 := rd3.lift (n8.ext)
  have l8 := n8.bl
  have w8 := n8.ow (B := h.size) g8 [(a1, LE1), (a2, LE2), (a3, LE3)] rfl leneT
  refine r1 rfl (p_as rfl) ?_
  refine o_nil ?_
  refine x_seq ?_
  refine x_seq ?_
  refine x_region ?_
  refine r1 rfl (p_as rfl) ?_
  refine o_nil ?_
  refine x_block ?_
  have hT := w8.rd leneT
  have hb := g8
  have hR : ∀ p ∈ ([(a1, LE1), (a2, LE2), (a3, LE3)] : List (Option Addr × List (Int × Int))), Rd 2 e2 hb8 p.1 p.2 ∧ p.2.length ≤ 1000 := by
    intro p hp
    simp only [List.mem_cons, List.not_mem_nil, or_false] at hp
    rcases hp with rfl | rfl | rfl
    · refine ⟨rd1, ?_⟩; dsimp only; decide
    · refine ⟨rd2, ?_⟩; dsimp only; decide
    · refine ⟨rd3, ?_⟩; dsimp only; decide
  generalize hTs : ([(a1, LE1), (a2, LE2), (a3, LE3)] : List (Option Addr × List (Int × Int))) = Ts at hT hR
  have hlen : Ts.length = 3 := by rw [← hTs]; rfl
  have hmap : Ts.map (·.2) = [LE1, LE2, LE3] := by rw [← hTs]; rfl
  rw [← hmap]
  clear hmap hTs
  clear rd1 w1 rd2 w2 rd3 w3 w8
  refine x_loope (σ := Nat) (fun i E0 => (4, .int .i64 (i : Int)) :: E0) [(0, _), (3, _)] (fun i h' => Ext hb8 h' ∧ i ≤ 3 ∧ idx ((Ts.drop i).map (·.2)) r i = idx (Ts.map (·.2)) r 0) (fun i => 3 - i) (0) ⟨rfl, rfl, rfl, trivial⟩ ?_ ?_
  · exact ⟨Ext.refl _, by omega, by simp⟩
  rintro i h' ⟨xl, hi, hno⟩
  have x0 := x0.trans xl
  refine x_seq ?_
  refine x_seq ?_
  refine x_region ?_
  refine r1 rfl (p_mv rfl) ?_
  refine r1 rfl (p_mv rfl) ?_
  refine r1 rfl (p_len runUnderlying75 rfl) ?_
  refine r1 rfl (p_lss rfl rfl) ?_
  refine o_nil ?_
  refine x_cond rfl (fun hc => ?_) (fun hc => ?_)
  · skip
    have hi : i < Ts.length := by rw [hlen]; have := of_decide_eq_true hc; omega
    have hT := hT.lift xl
    have ha := hT.is' hi
    obtain ⟨hR1, hR2⟩ := hR Ts[i] (List.getElem_mem hi)
    refine x_skip ?_
    refine x_seq ?_
    refine x_block ?_
    refine x_seq ?_
    refine x_region ?_
    refine r1 rfl (p_mv rfl) ?_
    refine r1 rfl (p_mv rfl) ?_
    refine r1 rfl (p_idx runUnderlying75 sizeOf73 rfl rfl (by have := of_decide_eq_true hc; omega) ha) ?_
    refine r1 rfl (p_ld isAgg73 rfl (hT.at_ hi (j := 0) rfl)) ?_
    refine r1 rfl (p_mv rfl) ?_
    refine o1 rfl (s_call call52 rfl (c52 _ _ _ _ _ (hR1.lift xl) hr (by omega)) ?_)
    rintro v4 hh4 ⟨rfl, x4⟩
    have x0 := x0.trans (x4)
    refine o_nil ?_
    have hd : Ts.drop i = Ts[i] :: Ts.drop (i + 1) := by simp
    rw [hd] at hno
    simp only [List.map_cons, idx] at hno
    refine x_cond rfl (fun h2 => ?_) (fun h2 => ?_)
    · skip
      rw [if_pos h2] at hno
      refine x_seq ?_
      refine x_region ?_
      refine r1 rfl (p_mv rfl) ?_
      refine r1 rfl (p_add64 rfl rfl (by omega)) ?_
      refine r1 rfl (p_as rfl) ?_
      refine o_nil ?_
      refine x_ret (fin1 rfl ?_)
      rw [← hno, if_neg (by omega)]
      exact ⟨rfl, x0⟩
    · skip
      rw [if_neg (by rw [h2]; decide)] at hno
      refine x_skip ?_
      refine x_region ?_
      refine r1 rfl (p_mv rfl) ?_
      refine r1 rfl (p_add64 rfl rfl (by omega)) ?_
      refine r1 rfl (p_as rfl) ?_
      refine o_nil ?_
      refine ⟨i + 1, ⟨rfl, rfl, rfl, trivial⟩, ?_, ?_⟩
      · exact ⟨xl.trans x4, by omega, by simpa using hno⟩
      · omega
  · skip
    have hi : i = 3 := by have := of_decide_eq_false hc; omega
    rw [List.drop_of_length_le (by omega)] at hno
    simp only [List.map_nil, idx] at hno
    rw [if_pos hno.symm]
    refine x_exit ?_
    refine x_seq ?_
    refine x_region ?_
    refine r1 rfl (p_as rfl) ?_
    refine o_nil ?_
    refine x_ret (fin1 rfl ?_)
    exact ⟨rfl, x0⟩


theorem c23 (r : Int) (h : Hp) (hr : B32 r) : C prog 23 [.int .i32 r] h fun v h' => v = .bool (inL LP r) ∧ Ext h h' := by
  refine enter func23 rfl ntmps23 results23 rfl rfl ?_
  refine x_seq ?_
  refine x_region ?_
  refine r1 rfl (p_as rfl) ?_
  refine o_nil ?_
  refine x_seq ?_
  refine x_region ?_
  refine o1 rfl (s_call call54 rfl (c54 _) ?_)
  rintro v1 hh1 ⟨a1, rfl, w1, x1⟩
  have x0 := (x1 : Ext _ _)
  refine r1 rfl (p_mv rfl) ?_
  refine o1 rfl (s_call call52 rfl (c52 _ _ _ _ _ (w1.rd lene2) hr (by decide)) ?_)
  rintro v2 hh2 ⟨rfl, x2⟩
  have x0 := x0.trans (x2)
  refine r1 rfl (p_as rfl) ?_
  refine o_nil ?_
  refine x_ret (fin1 rfl ?_)
  exact ⟨rfl, x0⟩

end Go.Proofs
