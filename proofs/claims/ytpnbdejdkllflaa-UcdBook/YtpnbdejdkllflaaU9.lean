import Derived.Test.YtpnbdejdkllflaaU8
set_option linter.unusedVariables false
namespace Go.Proofs
open Go.Lx Try

theorem take_snoc {α : Type} (l : List α) (i : Nat) (hi : i < l.length) : l.take (i + 1) = l.take i ++ [l[i]] := by simp
def p37 (x : Int × Int) : Sp := ⟨x.1, x.2, 1⟩
theorem t37b32 : T37.all (fun x => decide (0 ≤ x.1) && decide (x.1 ≤ 2000000) && (decide (0 ≤ x.2) && decide (x.2 ≤ 2000000))) = true := by decide +kernel

theorem c13 (h : Hp) : C prog 13 [] h fun v h' => ∃ a' cap', v = .slice a' (fewF (T35)).length cap' ∧ Ow h.size 52 3 eSp h' a' cap' (fewF (T35)) ∧ Ext h h' := by
  refine enter func13 rfl ntmps13 results13 rfl rfl ?_
  refine x_seq ?_
  refine x_region ?_
  refine r1 rfl (p_as rfl) ?_
  refine o_nil ?_
  refine x_seq ?_
  refine x_region ?_
  refine r1 rfl (p_as rfl) ?_
  refine o_nil ?_
  refine x_seq ?_
  refine x_seq ?_
  refine x_region ?_
  refine o1 rfl (s_call call35 rfl (c35 _) ?_)
  rintro v1 hh1 ⟨a1, rfl, w1, x1⟩
  have x0 := (x1 : Ext _ _)
  refine r1 rfl (p_len runUnderlying53 rfl) ?_
  refine r1 rfl (p_mv rfl) ?_
  refine o_nil ?_
  refine x_block ?_
  have hl0 := w1.rd leneSp
  have htl := t35len
  clear w1
  generalize T35 = L at *
  have hsz := Kp.size x1
  refine x_loope (σ := Nat × Option Addr × Nat) (fun s E0 => match s with | (i, ao, co) => (1, .slice ao (L.take i).length co) :: (6, .int .i64 (i : Int)) :: E0) [(4, _), (5, _)] (fun s h' => match s with | (i, ao, co) => Ext hh1 h' ∧ Ext h h' ∧ i ≤ L.length ∧ Ow hh1.size 52 3 eSp h' ao co (L.take i)) (fun s => match s with | (i, ao, co) => L.length - i) ((0, none, 0)) ⟨rfl, rfl, rfl, rfl, trivial⟩ ?_ ?_
  · exact ⟨Ext.refl _, x0, by omega, Ow.nil⟩
  rintro ⟨i, ao, co⟩ h' ⟨xl, x0, hi, ow⟩
  show X _ _ _ ((1, .slice ao (L.take i).length co) :: (6, .int .i64 (i : Int)) :: _) _ _
  have hl := hl0.lift xl
  refine x_seq ?_
  refine x_region ?_
  refine r1 rfl (p_lss rfl rfl) ?_
  refine o_nil ?_
  refine x_seq ?_
  refine x_cond rfl (fun hc => ?_) (fun hc => ?_)
  · skip
    have hlt : i < L.length := by have := of_decide_eq_true hc; omega
    have hx : L[i]? = some L[i] := by simp [hlt]
    have htk : (L.take i).length = i := by simp; omega
    refine x_skip ?_
    refine x_seq ?_
    refine x_block ?_
    refine x_seq ?_
    refine x_region ?_
    refine r1 rfl (p_idx runUnderlying53 sizeOf55 rfl rfl (by omega) (hl.is' hlt)) ?_
    refine r1 rfl (p_lda isAgg55 rfl (hl.cel _ _ hx) sizeOf55) ?_
    refine o1 rfl (s_al zeroValue55 rfl ?_)
    intro b3 hb3 n3
    have g3 : _ ≤ b3 := n3.ge x0
    have g3_xl := n3.ge xl
    have nf_ow_3 := ow.nin n3
    have x0 := x0.tr (n3.ext)
    have xl := xl.trans (n3.ext)
    have ow := ow.lift (n3.ext)
    have l3 := n3.bl
    refine o0 (s_sta rfl rfl sizeOf55 rfl l3 rfl ?_)
    intro hh2 u2
    have x0 := x0.upd u2 g3
    have xl := xl.upd u2 g3_xl
    have l3 := u2.bl
    have ow := ow.updn u2 nf_ow_3
    refine o_nil ?_
    refine x_region ?_
    refine r1 rfl (p_mv rfl) ?_
    refine r1 rfl (p_idxa runUnderlying55 sizeOf3 rfl rfl (by decide)) ?_
    refine r1 rfl (p_ld isAgg3 rfl (l3.get rfl)) ?_
    refine r1 rfl (p_idxa runUnderlying55 sizeOf3 rfl rfl (by decide)) ?_
    refine r1 rfl (p_ld isAgg3 rfl (l3.get rfl)) ?_
    refine r1 rfl (p_idxa runUnderlying55 sizeOf3 rfl rfl (by decide)) ?_
    refine r1 rfl (p_ld isAgg3 rfl (l3.get rfl)) ?_
    refine r1 rfl (p_bs runUnderlying52 zeroValue52 pl52 rfl) ?_
    show O _ _ _ _ ((_, .agg #[_, _, _]) :: _) _ _
    refine o1 rfl (s_bsl runUnderlying33 sizeOf52 zeroValue52 rfl (by decide) (by decide) rfl rfl ?_)
    intro b18 hb18 n18
    have g18 : _ ≤ b18 := n18.ge x0
    have g18_xl := n18.ge xl
    have ne18_3 : b18 ≠ b3 := n18.ne l3
    have nf_ow_18 := ow.nin n18
    have x0 := x0.tr (n18.ext)
    have xl := xl.trans (n18.ext)
    have l3 := l3.lift (n18.ext)
    have ow := ow.lift (n18.ext)
    have l18 := n18.bl
    have w18 := n18.ow (B := 0) (Nat.zero_le _) [L[i]] rfl leneSp
    refine o1 rfl (s_app runUnderlying33 runUnderlying33 sizeOf52 typeInfo52 zeroValue52 rfl rfl rfl leneSp oneeSp rfl rfl ow (w18.rd leneSp) (Kp.size xl) (by first | omega | (simp; omega)) ?_)
    intro a19 c19 ha19 w19 k19
    have x0 := x0.at_ k19 (fun hn => by have := Ow.ge ow hn; omega)
    have xl := xl.at_ k19 (fun hn => by have := Ow.ge ow hn; omega)
    refine r1 rfl (p_as rfl) ?_
    refine o_nil ?_
    refine x_region ?_
    refine r1 rfl (p_add64 rfl rfl (by omega)) ?_
    refine r1 rfl (p_mv rfl) ?_
    refine o_nil ?_
    have htk2 : L.take (i + 1) = L.take i ++ [L[i]] := by exact take_snoc L i hlt
    rw [← htk2] at w19 ⊢
    refine ⟨(i + 1, a19, c19), ⟨rfl, rfl, rfl, rfl, trivial⟩, ?_, ?_⟩
    · exact ⟨xl, x0, by omega, w19⟩
    · dsimp only; omega
  · skip
    have hlt : i = L.length := by have := of_decide_eq_false hc; omega
    have htk : L.take i = L := List.take_of_length_le (by first | omega | (simp; omega))
    rw [htk] at ow ⊢
    have hxs := Kp.size x0
    refine x_exit ?_
    refine x_seq ?_
    refine x_region ?_
    refine r1 rfl (p_mv rfl) ?_
    refine o1 rfl (s_call call36 rfl (c36 _ _ _ _ (ow.rd leneSp) (by first | omega | (simp; omega))) ?_)
    rintro v3 hh3 ⟨aq, cq, rfl, wq, x3⟩
    have x0 := x0.tr (x3)
    have xl := xl.trans (x3)
    have ow := ow.lift (x3)
    refine r1 rfl (p_as rfl) ?_
    refine o_nil ?_
    refine x_ret (fin1 rfl ?_)
    exact ⟨_, _, rfl, wq.mono hxs, x0⟩

theorem c16 (h : Hp) : C prog 16 [] h fun v h' => ∃ a' cap', v = .slice a' (fewF (T38)).length cap' ∧ Ow h.size 52 3 eSp h' a' cap' (fewF (T38)) ∧ Ext h h' := by
  refine enter func16 rfl ntmps16 results16 rfl rfl ?_
  refine x_seq ?_
  refine x_region ?_
  refine r1 rfl (p_as rfl) ?_
  refine o_nil ?_
  refine x_seq ?_
  refine x_region ?_
  refine r1 rfl (p_as rfl) ?_
  refine o_nil ?_
  refine x_seq ?_
  refine x_seq ?_
  refine x_region ?_
  refine o1 rfl (s_call call38 rfl (c38 _) ?_)
  rintro v1 hh1 ⟨a1, rfl, w1, x1⟩
  have x0 := (x1 : Ext _ _)
  refine r1 rfl (p_len runUnderlying53 rfl) ?_
  refine r1 rfl (p_mv rfl) ?_
  refine o_nil ?_
  refine x_block ?_
  have hl0 := w1.rd leneSp
  have htl := t38len
  clear w1
  generalize T38 = L at *
  have hsz := Kp.size x1
  refine x_loope (σ := Nat × Option Addr × Nat) (fun s E0 => match s with | (i, ao, co) => (1, .slice ao (L.take i).length co) :: (6, .int .i64 (i : Int)) :: E0) [(4, _), (5, _)] (fun s h' => match s with | (i, ao, co) => Ext hh1 h' ∧ Ext h h' ∧ i ≤ L.length ∧ Ow hh1.size 52 3 eSp h' ao co (L.take i)) (fun s => match s with | (i, ao, co) => L.length - i) ((0, none, 0)) ⟨rfl, rfl, rfl, rfl, trivial⟩ ?_ ?_
  · exact ⟨Ext.refl _, x0, by omega, Ow.nil⟩
  rintro ⟨i, ao, co⟩ h' ⟨xl, x0, hi, ow⟩
  show X _ _ _ ((1, .slice ao (L.take i).length co) :: (6, .int .i64 (i : Int)) :: _) _ _
  have hl := hl0.lift xl
  refine x_seq ?_
  refine x_region ?_
  refine r1 rfl (p_lss rfl rfl) ?_
  refine o_nil ?_
  refine x_seq ?_
  refine x_cond rfl (fun hc => ?_) (fun hc => ?_)
  · skip
    have hlt : i < L.length := by have := of_decide_eq_true hc; omega
    have hx : L[i]? = some L[i] := by simp [hlt]
    have htk : (L.take i).length = i := by simp; omega
    refine x_skip ?_
    refine x_seq ?_
    refine x_block ?_
    refine x_seq ?_
    refine x_region ?_
    refine r1 rfl (p_idx runUnderlying53 sizeOf55 rfl rfl (by omega) (hl.is' hlt)) ?_
    refine r1 rfl (p_lda isAgg55 rfl (hl.cel _ _ hx) sizeOf55) ?_
    refine o1 rfl (s_al zeroValue55 rfl ?_)
    intro b3 hb3 n3
    have g3 : _ ≤ b3 := n3.ge x0
    have g3_xl := n3.ge xl
    have nf_ow_3 := ow.nin n3
    have x0 := x0.tr (n3.ext)
    have xl := xl.trans (n3.ext)
    have ow := ow.lift (n3.ext)
    have l3 := n3.bl
    refine o0 (s_sta rfl rfl sizeOf55 rfl l3 rfl ?_)
    intro hh2 u2
    have x0 := x0.upd u2 g3
    have xl := xl.upd u2 g3_xl
    have l3 := u2.bl
    have ow := ow.updn u2 nf_ow_3
    refine o_nil ?_
    refine x_region ?_
    refine r1 rfl (p_mv rfl) ?_
    refine r1 rfl (p_idxa runUnderlying55 sizeOf3 rfl rfl (by decide)) ?_
    refine r1 rfl (p_ld isAgg3 rfl (l3.get rfl)) ?_
    refine r1 rfl (p_idxa runUnderlying55 sizeOf3 rfl rfl (by decide)) ?_
    refine r1 rfl (p_ld isAgg3 rfl (l3.get rfl)) ?_
    refine r1 rfl (p_idxa runUnderlying55 sizeOf3 rfl rfl (by decide)) ?_
    refine r1 rfl (p_ld isAgg3 rfl (l3.get rfl)) ?_
    refine r1 rfl (p_bs runUnderlying52 zeroValue52 pl52 rfl) ?_
    show O _ _ _ _ ((_, .agg #[_, _, _]) :: _) _ _
    refine o1 rfl (s_bsl runUnderlying33 sizeOf52 zeroValue52 rfl (by decide) (by decide) rfl rfl ?_)
    intro b18 hb18 n18
    have g18 : _ ≤ b18 := n18.ge x0
    have g18_xl := n18.ge xl
    have ne18_3 : b18 ≠ b3 := n18.ne l3
    have nf_ow_18 := ow.nin n18
    have x0 := x0.tr (n18.ext)
    have xl := xl.trans (n18.ext)
    have l3 := l3.lift (n18.ext)
    have ow := ow.lift (n18.ext)
    have l18 := n18.bl
    have w18 := n18.ow (B := 0) (Nat.zero_le _) [L[i]] rfl leneSp
    refine o1 rfl (s_app runUnderlying33 runUnderlying33 sizeOf52 typeInfo52 zeroValue52 rfl rfl rfl leneSp oneeSp rfl rfl ow (w18.rd leneSp) (Kp.size xl) (by first | omega | (simp; omega)) ?_)
    intro a19 c19 ha19 w19 k19
    have x0 := x0.at_ k19 (fun hn => by have := Ow.ge ow hn; omega)
    have xl := xl.at_ k19 (fun hn => by have := Ow.ge ow hn; omega)
    refine r1 rfl (p_as rfl) ?_
    refine o_nil ?_
    refine x_region ?_
    refine r1 rfl (p_add64 rfl rfl (by omega)) ?_
    refine r1 rfl (p_mv rfl) ?_
    refine o_nil ?_
    have htk2 : L.take (i + 1) = L.take i ++ [L[i]] := by exact take_snoc L i hlt
    rw [← htk2] at w19 ⊢
    refine ⟨(i + 1, a19, c19), ⟨rfl, rfl, rfl, rfl, trivial⟩, ?_, ?_⟩
    · exact ⟨xl, x0, by omega, w19⟩
    · dsimp only; omega
  · skip
    have hlt : i = L.length := by have := of_decide_eq_false hc; omega
    have htk : L.take i = L := List.take_of_length_le (by first | omega | (simp; omega))
    rw [htk] at ow ⊢
    have hxs := Kp.size x0
    refine x_exit ?_
    refine x_seq ?_
    refine x_region ?_
    refine r1 rfl (p_mv rfl) ?_
    refine o1 rfl (s_call call36 rfl (c36 _ _ _ _ (ow.rd leneSp) (by first | omega | (simp; omega))) ?_)
    rintro v3 hh3 ⟨aq, cq, rfl, wq, x3⟩
    have x0 := x0.tr (x3)
    have xl := xl.trans (x3)
    have ow := ow.lift (x3)
    refine r1 rfl (p_as rfl) ?_
    refine o_nil ?_
    refine x_ret (fin1 rfl ?_)
    exact ⟨_, _, rfl, wq.mono hxs, x0⟩

theorem c17 (h : Hp) : C prog 17 [] h fun v h' => ∃ a' cap', v = .slice a' (fewF (T39)).length cap' ∧ Ow h.size 52 3 eSp h' a' cap' (fewF (T39)) ∧ Ext h h' := by
  refine enter func17 rfl ntmps17 results17 rfl rfl ?_
  refine x_seq ?_
  refine x_region ?_
  refine r1 rfl (p_as rfl) ?_
  refine o_nil ?_
  refine x_seq ?_
  refine x_region ?_
  refine r1 rfl (p_as rfl) ?_
  refine o_nil ?_
  refine x_seq ?_
  refine x_seq ?_
  refine x_region ?_
  refine o1 rfl (s_call call39 rfl (c39 _) ?_)
  rintro v1 hh1 ⟨a1, rfl, w1, x1⟩
  have x0 := (x1 : Ext _ _)
  refine r1 rfl (p_len runUnderlying53 rfl) ?_
  refine r1 rfl (p_mv rfl) ?_
  refine o_nil ?_
  refine x_block ?_
  have hl0 := w1.rd leneSp
  have htl := t39len
  clear w1
  generalize T39 = L at *
  have hsz := Kp.size x1
  refine x_loope (σ := Nat × Option Addr × Nat) (fun s E0 => match s with | (i, ao, co) => (1, .slice ao (L.take i).length co) :: (6, .int .i64 (i : Int)) :: E0) [(4, _), (5, _)] (fun s h' => match s with | (i, ao, co) => Ext hh1 h' ∧ Ext h h' ∧ i ≤ L.length ∧ Ow hh1.size 52 3 eSp h' ao co (L.take i)) (fun s => match s with | (i, ao, co) => L.length - i) ((0, none, 0)) ⟨rfl, rfl, rfl, rfl, trivial⟩ ?_ ?_
  · exact ⟨Ext.refl _, x0, by omega, Ow.nil⟩
  rintro ⟨i, ao, co⟩ h' ⟨xl, x0, hi, ow⟩
  show X _ _ _ ((1, .slice ao (L.take i).length co) :: (6, .int .i64 (i : Int)) :: _) _ _
  have hl := hl0.lift xl
  refine x_seq ?_
  refine x_region ?_
  refine r1 rfl (p_lss rfl rfl) ?_
  refine o_nil ?_
  refine x_seq ?_
  refine x_cond rfl (fun hc => ?_) (fun hc => ?_)
  · skip
    have hlt : i < L.length := by have := of_decide_eq_true hc; omega
    have hx : L[i]? = some L[i] := by simp [hlt]
    have htk : (L.take i).length = i := by simp; omega
    refine x_skip ?_
    refine x_seq ?_
    refine x_block ?_
    refine x_seq ?_
    refine x_region ?_
    refine r1 rfl (p_idx runUnderlying53 sizeOf55 rfl rfl (by omega) (hl.is' hlt)) ?_
    refine r1 rfl (p_lda isAgg55 rfl (hl.cel _ _ hx) sizeOf55) ?_
    refine o1 rfl (s_al zeroValue55 rfl ?_)
    intro b3 hb3 n3
    have g3 : _ ≤ b3 := n3.ge x0
    have g3_xl := n3.ge xl
    have nf_ow_3 := ow.nin n3
    have x0 := x0.tr (n3.ext)
    have xl := xl.trans (n3.ext)
    have ow := ow.lift (n3.ext)
    have l3 := n3.bl
    refine o0 (s_sta rfl rfl sizeOf55 rfl l3 rfl ?_)
    intro hh2 u2
    have x0 := x0.upd u2 g3
    have xl := xl.upd u2 g3_xl
    have l3 := u2.bl
    have ow := ow.updn u2 nf_ow_3
    refine o_nil ?_
    refine x_region ?_
    refine r1 rfl (p_mv rfl) ?_
    refine r1 rfl (p_idxa runUnderlying55 sizeOf3 rfl rfl (by decide)) ?_
    refine r1 rfl (p_ld isAgg3 rfl (l3.get rfl)) ?_
    refine r1 rfl (p_idxa runUnderlying55 sizeOf3 rfl rfl (by decide)) ?_
    refine r1 rfl (p_ld isAgg3 rfl (l3.get rfl)) ?_
    refine r1 rfl (p_idxa runUnderlying55 sizeOf3 rfl rfl (by decide)) ?_
    refine r1 rfl (p_ld isAgg3 rfl (l3.get rfl)) ?_
    refine r1 rfl (p_bs runUnderlying52 zeroValue52 pl52 rfl) ?_
    show O _ _ _ _ ((_, .agg #[_, _, _]) :: _) _ _
    refine o1 rfl (s_bsl runUnderlying33 sizeOf52 zeroValue52 rfl (by decide) (by decide) rfl rfl ?_)
    intro b18 hb18 n18
    have g18 : _ ≤ b18 := n18.ge x0
    have g18_xl := n18.ge xl
    have ne18_3 : b18 ≠ b3 := n18.ne l3
    have nf_ow_18 := ow.nin n18
    have x0 := x0.tr (n18.ext)
    have xl := xl.trans (n18.ext)
    have l3 := l3.lift (n18.ext)
    have ow := ow.lift (n18.ext)
    have l18 := n18.bl
    have w18 := n18.ow (B := 0) (Nat.zero_le _) [L[i]] rfl leneSp
    refine o1 rfl (s_app runUnderlying33 runUnderlying33 sizeOf52 typeInfo52 zeroValue52 rfl rfl rfl leneSp oneeSp rfl rfl ow (w18.rd leneSp) (Kp.size xl) (by first | omega | (simp; omega)) ?_)
    intro a19 c19 ha19 w19 k19
    have x0 := x0.at_ k19 (fun hn => by have := Ow.ge ow hn; omega)
    have xl := xl.at_ k19 (fun hn => by have := Ow.ge ow hn; omega)
    refine r1 rfl (p_as rfl) ?_
    refine o_nil ?_
    refine x_region ?_
    refine r1 rfl (p_add64 rfl rfl (by omega)) ?_
    refine r1 rfl (p_mv rfl) ?_
    refine o_nil ?_
    have htk2 : L.take (i + 1) = L.take i ++ [L[i]] := by exact take_snoc L i hlt
    rw [← htk2] at w19 ⊢
    refine ⟨(i + 1, a19, c19), ⟨rfl, rfl, rfl, rfl, trivial⟩, ?_, ?_⟩
    · exact ⟨xl, x0, by omega, w19⟩
    · dsimp only; omega
  · skip
    have hlt : i = L.length := by have := of_decide_eq_false hc; omega
    have htk : L.take i = L := List.take_of_length_le (by first | omega | (simp; omega))
    rw [htk] at ow ⊢
    have hxs := Kp.size x0
    refine x_exit ?_
    refine x_seq ?_
    refine x_region ?_
    refine r1 rfl (p_mv rfl) ?_
    refine o1 rfl (s_call call36 rfl (c36 _ _ _ _ (ow.rd leneSp) (by first | omega | (simp; omega))) ?_)
    rintro v3 hh3 ⟨aq, cq, rfl, wq, x3⟩
    have x0 := x0.tr (x3)
    have xl := xl.trans (x3)
    have ow := ow.lift (x3)
    refine r1 rfl (p_as rfl) ?_
    refine o_nil ?_
    refine x_ret (fin1 rfl ?_)
    exact ⟨_, _, rfl, wq.mono hxs, x0⟩

theorem c15 (h : Hp) : C prog 15 [] h fun v h' => ∃ a' cap', v = .slice a' (fewF (T37.map p37)).length cap' ∧ Ow h.size 52 3 eSp h' a' cap' (fewF (T37.map p37)) ∧ Ext h h' := by
  refine enter func15 rfl ntmps15 results15 rfl rfl ?_
  refine x_seq ?_
  refine x_region ?_
  refine r1 rfl (p_as rfl) ?_
  refine o_nil ?_
  refine x_seq ?_
  refine x_region ?_
  refine r1 rfl (p_as rfl) ?_
  refine o_nil ?_
  refine x_seq ?_
  refine x_seq ?_
  refine x_region ?_
  refine o1 rfl (s_call call37 rfl (c37 _) ?_)
  rintro v1 hh1 ⟨a1, rfl, w1, x1⟩
  have x0 := (x1 : Ext _ _)
  refine r1 rfl (p_len runUnderlying57 rfl) ?_
  refine r1 rfl (p_mv rfl) ?_
  refine o_nil ?_
  refine x_block ?_
  have hl0 := w1.rd lenr2
  have htl := t37len
  have hbd := t37b32
  clear w1
  generalize T37 = L at *
  have hsz := Kp.size x1
  refine x_loope (σ := Nat × Option Addr × Nat) (fun s E0 => match s with | (i, ao, co) => (1, .slice ao ((L.map p37).take i).length co) :: (6, .int .i64 (i : Int)) :: E0) [(4, _), (5, _)] (fun s h' => match s with | (i, ao, co) => Ext hh1 h' ∧ Ext h h' ∧ i ≤ L.length ∧ Ow hh1.size 52 3 eSp h' ao co ((L.map p37).take i)) (fun s => match s with | (i, ao, co) => L.length - i) ((0, none, 0)) ⟨rfl, rfl, rfl, rfl, trivial⟩ ?_ ?_
  · exact ⟨Ext.refl _, x0, by omega, Ow.nil⟩
  rintro ⟨i, ao, co⟩ h' ⟨xl, x0, hi, ow⟩
  show X _ _ _ ((1, .slice ao ((L.map p37).take i).length co) :: (6, .int .i64 (i : Int)) :: _) _ _
  have hl := hl0.lift xl
  refine x_seq ?_
  refine x_region ?_
  refine r1 rfl (p_lss rfl rfl) ?_
  refine o_nil ?_
  refine x_seq ?_
  refine x_cond rfl (fun hc => ?_) (fun hc => ?_)
  · skip
    have hlt : i < L.length := by have := of_decide_eq_true hc; omega
    have hx : L[i]? = some L[i] := by simp [hlt]
    have htk : ((L.map p37).take i).length = i := by simp; omega
    have hb : (0 ≤ L[i].1 ∧ L[i].1 ≤ 2000000) ∧ (0 ≤ L[i].2 ∧ L[i].2 ≤ 2000000) := by
      have := List.all_eq_true.1 hbd L[i] (List.getElem_mem hlt)
      simpa using this
    refine x_skip ?_
    refine x_seq ?_
    refine x_block ?_
    refine x_seq ?_
    refine x_region ?_
    refine r1 rfl (p_idx runUnderlying57 sizeOf59 rfl rfl (by omega) (hl.is' hlt)) ?_
    refine r1 rfl (p_lda isAgg59 rfl (hl.cel _ _ hx) sizeOf59) ?_
    refine o1 rfl (s_al zeroValue59 rfl ?_)
    intro b3 hb3 n3
    have g3 : _ ≤ b3 := n3.ge x0
    have g3_xl := n3.ge xl
    have nf_ow_3 := ow.nin n3
    have x0 := x0.tr (n3.ext)
    have xl := xl.trans (n3.ext)
    have ow := ow.lift (n3.ext)
    have l3 := n3.bl
    refine o0 (s_sta rfl rfl sizeOf59 rfl l3 rfl ?_)
    intro hh2 u2
    have x0 := x0.upd u2 g3
    have xl := xl.upd u2 g3_xl
    have l3 := u2.bl
    have ow := ow.updn u2 nf_ow_3
    refine o_nil ?_
    refine x_region ?_
    refine r1 rfl (p_mv rfl) ?_
    refine r1 rfl (p_idxa runUnderlying59 sizeOf21 rfl rfl (by decide)) ?_
    refine r1 rfl (p_ld isAgg21 rfl (l3.get rfl)) ?_
    refine r1 rfl (p_conv runUnderlying21 runUnderlying3 rfl (wrap_i64 (by omega))) ?_
    refine r1 rfl (p_idxa runUnderlying59 sizeOf21 rfl rfl (by decide)) ?_
    refine r1 rfl (p_ld isAgg21 rfl (l3.get rfl)) ?_
    refine r1 rfl (p_conv runUnderlying21 runUnderlying3 rfl (wrap_i64 (by omega))) ?_
    refine r1 rfl (p_bs runUnderlying52 zeroValue52 pl52 rfl) ?_
    show O _ _ _ _ ((_, .agg #[_, _, _]) :: _) _ _
    refine o1 rfl (s_bsl runUnderlying33 sizeOf52 zeroValue52 rfl (by decide) (by decide) rfl rfl ?_)
    intro b18 hb18 n18
    have g18 : _ ≤ b18 := n18.ge x0
    have g18_xl := n18.ge xl
    have ne18_3 : b18 ≠ b3 := n18.ne l3
    have nf_ow_18 := ow.nin n18
    have x0 := x0.tr (n18.ext)
    have xl := xl.trans (n18.ext)
    have l3 := l3.lift (n18.ext)
    have ow := ow.lift (n18.ext)
    have l18 := n18.bl
    have w18 := n18.ow (B := 0) (Nat.zero_le _) [p37 L[i]] rfl leneSp
    refine o1 rfl (s_app runUnderlying33 runUnderlying33 sizeOf52 typeInfo52 zeroValue52 rfl rfl rfl leneSp oneeSp rfl rfl ow (w18.rd leneSp) (Kp.size xl) (by first | omega | (simp; omega)) ?_)
    intro a19 c19 ha19 w19 k19
    have x0 := x0.at_ k19 (fun hn => by have := Ow.ge ow hn; omega)
    have xl := xl.at_ k19 (fun hn => by have := Ow.ge ow hn; omega)
    refine r1 rfl (p_as rfl) ?_
    refine o_nil ?_
    refine x_region ?_
    refine r1 rfl (p_add64 rfl rfl (by omega)) ?_
    refine r1 rfl (p_mv rfl) ?_
    refine o_nil ?_
    have htk2 : (L.map p37).take (i + 1) = (L.map p37).take i ++ [p37 L[i]] := by rw [take_snoc (L.map p37) i (by simpa using hlt)]; simp
    rw [← htk2] at w19 ⊢
    refine ⟨(i + 1, a19, c19), ⟨rfl, rfl, rfl, rfl, trivial⟩, ?_, ?_⟩
    · exact ⟨xl, x0, by omega, w19⟩
    · dsimp only; omega
  · skip
    have hlt : i = L.length := by have := of_decide_eq_false hc; omega
    have htk : (L.map p37).take i = (L.map p37) := List.take_of_length_le (by first | omega | (simp; omega))
    rw [htk] at ow ⊢
    have hxs := Kp.size x0
    refine x_exit ?_
    refine x_seq ?_
    refine x_region ?_
    refine r1 rfl (p_mv rfl) ?_
    refine o1 rfl (s_call call36 rfl (c36 _ _ _ _ (ow.rd leneSp) (by first | omega | (simp; omega))) ?_)
    rintro v3 hh3 ⟨aq, cq, rfl, wq, x3⟩
    have x0 := x0.tr (x3)
    have xl := xl.trans (x3)
    have ow := ow.lift (x3)
    refine r1 rfl (p_as rfl) ?_
    refine o_nil ?_
    refine x_ret (fin1 rfl ?_)
    exact ⟨_, _, rfl, wq.mono hxs, x0⟩

end Go.Proofs
