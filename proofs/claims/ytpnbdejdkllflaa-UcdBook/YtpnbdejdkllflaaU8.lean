import Derived.Test.YtpnbdejdkllflaaU7
set_option linter.unusedVariables false
namespace Go.Proofs
open Go.Lx Try

theorem rgt_mem : ∀ {l : List Sp} {last : Int}, rgt last l = true → ∀ s ∈ l, last < s.lo ∧ s.lo ≤ s.hi ∧ s.hi ≤ 1114111 ∧ 1 ≤ s.val ∧ s.val ≤ 65535
  | [], _, _, s, hs => by cases hs
  | t :: r, last, h, s, hs => by
    simp only [rgt] at h
    split at h
    · cases h
    · rename_i hn
      cases hs with
      | head => omega
      | tail _ hs =>
        have := rgt_mem h s hs
        omega
theorem rgt_up : ∀ {l : List Sp} {last : Int}, rgt last l = true → upB l = true
  | [], _, _ => rfl
  | [_], _, _ => rfl
  | a :: b :: r, last, h => by
    simp only [rgt] at h
    split at h
    · cases h
    · rename_i h1
      split at h
      · cases h
      · rename_i h2
        simp only [upB, Bool.and_eq_true, decide_eq_true_eq]
        refine ⟨by omega, rgt_up (last := a.hi) ?_⟩
        rw [rgt, if_neg h2]
        exact h
theorem layF_len (l : List Sp) (s : Sp) : (layF l s).length ≤ l.length + 1 := by
  unfold layF
  split
  · split <;> simp
  · simp
theorem fold_len : ∀ (l acc : List Sp), (l.foldl layF acc).length ≤ acc.length + l.length
  | [], acc => by simp
  | s :: r, acc => by
    simp only [List.foldl_cons, List.length_cons]
    have := fold_len r (layF acc s)
    have := layF_len acc s
    omega
theorem fold_take (l : List Sp) (i : Nat) (hi : i < l.length) : (l.take (i + 1)).foldl layF [] = layF ((l.take i).foldl layF []) l[i] := by
  have e : l.take (i + 1) = l.take i ++ [l[i]] := by simp
  rw [e, List.foldl_append]
  rfl

def fewF (l : List Sp) : List Sp := if rgt (-1) l = true then l.foldl layF [] else []
theorem few_len (l : List Sp) : (fewF l).length ≤ l.length := by
  unfold fewF
  split
  · have := fold_len l []; simpa using this
  · simp

theorem c36 (a : Option Addr) (cap : Nat) (l : List Sp) (h : Hp) (hl : Rd 3 eSp h a l) (hlen : l.length ≤ 800000000) :
    C prog 36 [.slice a l.length cap] h fun v h' => ∃ a' cap', v = .slice a' (fewF l).length cap' ∧ Ow h.size 52 3 eSp h' a' cap' (fewF l) ∧ Ext h h' := by
  refine enter func36 rfl ntmps36 results36 rfl rfl ?_
  have hl0 := hl
  refine x_seq ?_
  refine x_region ?_
  refine r1 rfl (p_as rfl) ?_
  refine o_nil ?_
  refine x_seq ?_
  refine x_seq ?_
  refine x_region ?_
  refine r1 rfl (p_mv rfl) ?_
  refine o1 rfl (s_call call31 rfl (c31 _ _ _ _ hl (by omega)) ?_)
  rintro v1 hh1 ⟨rfl, x1⟩
  have x0 := (x1 : Ext _ _)
  have hl := hl.lift (x1)
  refine r1 rfl (p_not rfl) ?_
  refine o_nil ?_
  refine x_cond rfl (fun h1 => ?_) (fun h1 => ?_)
  · skip
    have h1' : ¬ rgt (-1) l = true := by simpa using h1
    rw [fewF, if_neg h1']
    refine x_seq ?_
    refine x_region ?_
    refine r1 rfl (p_as rfl) ?_
    refine o_nil ?_
    refine x_ret (fin1 rfl ?_)
    exact ⟨none, 0, rfl, Ow.nil, x0⟩
  · skip
    have h1' : rgt (-1) l = true := by simpa using h1
    have hmem := rgt_mem h1'
    rw [fewF, if_pos h1']
    refine x_skip ?_
    refine x_seq ?_
    refine x_region ?_
    refine r1 rfl (p_as rfl) ?_
    refine o_nil ?_
    refine x_seq ?_
    refine x_seq ?_
    refine x_region ?_
    refine r1 rfl (p_mv rfl) ?_
    refine r1 rfl (p_len runUnderlying33 rfl) ?_
    refine r1 rfl (p_mv rfl) ?_
    refine o_nil ?_
    refine x_block ?_
    refine x_loope (σ := Nat × Option Addr × Nat) (fun s E0 => match s with | (i, ao, co) => (3, .slice ao ((l.take i).foldl layF []).length co) :: (11, .int .i64 (i : Int)) :: E0) [(9, _), (10, _)] (fun s h' => match s with | (i, ao, co) => Ext h h' ∧ i ≤ l.length ∧ Ow h.size 52 3 eSp h' ao co ((l.take i).foldl layF [])) (fun s => match s with | (i, ao, co) => l.length - i) ((0, none, 0)) ⟨rfl, rfl, rfl, rfl, trivial⟩ ?_ ?_
    · exact ⟨x0, by omega, by simpa using Ow.nil⟩
    rintro ⟨i, ao, co⟩ h' ⟨x0, hi, ow⟩
    show X _ _ _ ((3, .slice ao ((l.take i).foldl layF []).length co) :: (11, .int .i64 (i : Int)) :: _) _ _
    have hl := hl0.lift x0
    refine x_seq ?_
    refine x_region ?_
    refine r1 rfl (p_lss rfl rfl) ?_
    refine o_nil ?_
    refine x_seq ?_
    refine x_cond rfl (fun hc => ?_) (fun hc => ?_)
    · skip
      have hlt : i < l.length := by have := of_decide_eq_true hc; omega
      have hx : l[i]? = some l[i] := by simp [hlt]
      have hm := hmem l[i] (List.getElem_mem hlt)
      have hfl := fold_len (l.take i) []
      refine x_skip ?_
      refine x_seq ?_
      refine x_block ?_
      refine x_seq ?_
      refine x_region ?_
      refine r1 rfl (p_idx runUnderlying33 sizeOf52 rfl rfl (by omega) (hl.is' hlt)) ?_
      refine r1 rfl (p_lda isAgg52 rfl (hl.cel _ _ hx) sizeOf52) ?_
      refine o1 rfl (s_al zeroValue52 rfl ?_)
      intro b5 hb5 n5
      have g5 : _ ≤ b5 := n5.ge x0
      have nf_hl_5 := hl.nin n5
      have nf_ow_5 := ow.nin n5
      have x0 := x0.tr (n5.ext)
      have hl := hl.lift (n5.ext)
      have ow := ow.lift (n5.ext)
      have l5 := n5.bl
      refine o0 (s_sta rfl rfl sizeOf52 rfl l5 rfl ?_)
      intro hh2 u2
      have x0 := x0.upd u2 g5
      have l5 := u2.bl
      have hl := hl.updn u2 nf_hl_5
      have ow := ow.updn u2 nf_ow_5
      refine o_nil ?_
      refine x_region ?_
      refine r1 rfl (p_mv rfl) ?_
      refine r1 rfl (p_lda isAgg52 rfl (l5.gets rfl) sizeOf52) ?_
      refine o1 rfl (s_call call34 rfl (c34 h.size _ _ _ l[i] _ ow (Kp.size x0) (by simp at hfl; omega) (by omega)) ?_)
      rintro v3 hh3 ⟨a3, c3, rfl, w3, k3⟩
      have x0 := x0.at_ k3 (fun hn => Ow.ge ow hn)
      refine r1 rfl (p_as rfl) ?_
      refine o_nil ?_
      refine x_region ?_
      refine r1 rfl (p_add64 rfl rfl (by omega)) ?_
      refine r1 rfl (p_mv rfl) ?_
      refine o_nil ?_
      rw [← fold_take l i hlt] at w3 ⊢
      refine ⟨(i + 1, a3, c3), ⟨rfl, rfl, rfl, rfl, trivial⟩, ?_, ?_⟩
      · exact ⟨x0, by omega, w3⟩
      · dsimp only; omega
    · skip
      have hlt : i = l.length := by have := of_decide_eq_false hc; omega
      subst hlt
      rw [List.take_length] at ow ⊢
      refine x_exit ?_
      refine x_seq ?_
      refine x_region ?_
      refine r1 rfl (p_mv rfl) ?_
      refine r1 rfl (p_as rfl) ?_
      refine o_nil ?_
      refine x_ret (fin1 rfl ?_)
      exact ⟨ao, co, rfl, ow, x0⟩

end Go.Proofs
