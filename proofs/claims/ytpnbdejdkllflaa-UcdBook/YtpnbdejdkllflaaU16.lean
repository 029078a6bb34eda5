import Derived.Test.YtpnbdejdkllflaaU15
set_option linter.unusedVariables false
namespace Go.Proofs
open Go.Lx Try

def sylAll : List Sp := (([] ++ syl 4352 256) ++ syl 43360 29) ++ syl 44032 11260
theorem c19 (h : Hp) : C prog 19 [] h fun v h' => ∃ a' cap', v = .slice a' (fewF sylAll).length cap' ∧ Ow h.size 52 3 eSp h' a' cap' (fewF sylAll) ∧ Ext h h' := by
  refine enter func19 rfl ntmps19 results19 rfl rfl ?_
  refine x_seq ?_
  refine x_region ?_
  refine r1 rfl (p_as rfl) ?_
  refine o_nil ?_
  refine x_seq ?_
  refine x_region ?_
  refine o1 rfl (s_al zeroValue33 rfl ?_)
  intro b1 hb1 n1
  have g1 : _ ≤ b1 := n1.ge (Ext.refl _)
  have x0 := (n1.ext : Ext _ _)
  have l1 := n1.bl
  refine o_nil ?_
  refine x_seq ?_
  refine x_region ?_
  refine r1 rfl (p_mf rfl rfl) ?_
  refine r1 rfl (p_as rfl) ?_
  refine o_nil ?_
  refine x_seq ?_
  refine x_region ?_
  refine r1 rfl (p_mv rfl) ?_
  refine o1 rfl (s_cv call41 rfl rfl (c41 h.size 4352 4607 256 b1 none 0 [] _ l1 Ow.nil g1 (by decide) (by decide) (by decide)) ?_)
  rintro v1 hh1 ⟨aA, cA, rfl, lA, wA, kA⟩
  have x0 := Kp.fr x0 kA (Nat.le_refl _)
  have hA : ([] ++ syl 4352 256 : List Sp).length ≤ 256 := syl_len 256 4352
  generalize hSA : ([] ++ syl 4352 256 : List Sp) = SA at *
  have l1 := lA
  refine o_nil ?_
  refine x_seq ?_
  refine x_region ?_
  refine r1 rfl (p_mv rfl) ?_
  refine o1 rfl (s_cv call41 rfl rfl (c41 h.size 43360 43388 29 b1 aA cA SA _ l1 wA g1 (by decide) (by decide) (by omega)) ?_)
  rintro v2 hh2 ⟨aB, cB, rfl, lB, wB, kB⟩
  have x0 := Kp.fr x0 kB (Nat.le_refl _)
  have hB : (SA ++ syl 43360 29 : List Sp).length ≤ 300 := by have := syl_len 29 43360; rw [List.length_append]; omega
  generalize hSB : (SA ++ syl 43360 29 : List Sp) = SB at *
  have l1 := lB
  refine o_nil ?_
  refine x_seq ?_
  refine x_region ?_
  refine r1 rfl (p_mv rfl) ?_
  refine o1 rfl (s_cv call41 rfl rfl (c41 h.size 44032 55291 11260 b1 aB cB SB _ l1 wB g1 (by decide) (by decide) (by omega)) ?_)
  rintro v3 hh3 ⟨aC, cC, rfl, lC, wC, kC⟩
  have x0 := Kp.fr x0 kC (Nat.le_refl _)
  have hC : (SB ++ syl 44032 11260 : List Sp).length ≤ 12000 := by have := syl_len 11260 44032; rw [List.length_append]; omega
  have hall : sylAll = SB ++ syl 44032 11260 := by rw [← hSB, ← hSA]; rfl
  rw [← hall] at lC wC hC
  generalize sylAll = SC at *
  have l1 := lC
  refine o_nil ?_
  refine x_seq ?_
  refine x_region ?_
  refine r1 rfl (p_ld isAgg33 rfl (l1.get rfl)) ?_
  refine o1 rfl (s_call call36 rfl (c36 _ _ _ _ (wC.rd leneSp) (by omega)) ?_)
  rintro v4 hh4 ⟨aq, cq, rfl, wq, x4⟩
  have x0 := x0.tr (x4)
  have l1 := l1.lift (x4)
  refine r1 rfl (p_as rfl) ?_
  refine o_nil ?_
  refine x_ret (fin1 rfl ?_)
  have hsz := Kp.size (show Ext h hh3 from by assumption)
  exact ⟨_, _, rfl, wq.mono hsz, x0⟩
end Go.Proofs
