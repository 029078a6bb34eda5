import Derived.Test.YtpnbdejdkllflaaU12
set_option linter.unusedVariables false
namespace Go.Proofs
open Go.Lx Try

abbrev Sl := Option Addr × Nat × List Sp
/-- A slice of spans, as one cell. -/
def eS (x : Sl) : List Value := [.slice x.1 x.2.2.length x.2.1]
theorem leneS : ∀ x, (eS x).length = 1 := fun _ => rfl
theorem oneeS : ∀ x, ∀ v ∈ eS x, v.oneCell' = true := fun x v hv => by simp [eS] at hv; subst hv; rfl
def edg (l : List Sp) : List Int := l.flatMap fun s => [s.lo, s.hi + 1]
def edgs (L : List Sl) : List Int := L.flatMap fun x => edg x.2.2
theorem edg_len : ∀ l : List Sp, (edg l).length = 2 * l.length
  | [] => rfl
  | s :: r => by
    have := edg_len r
    unfold edg at this ⊢
    rw [List.flatMap_cons, List.length_append, this]
    simp; omega
theorem edg_snoc (l : List Sp) (s : Sp) : edg (l ++ [s]) = edg l ++ [s.lo, s.hi + 1] := by simp [edg]
theorem edgs_snoc (L : List Sl) (x : Sl) : edgs (L ++ [x]) = edgs L ++ edg x.2.2 := by simp [edgs]
def tot (L : List Sl) : Nat := (L.map fun x => x.2.2.length).sum
theorem edgs_len : ∀ L : List Sl, (edgs L).length = 2 * tot L
  | [] => rfl
  | x :: r => by
    have := edgs_len r
    unfold edgs at this ⊢
    rw [List.flatMap_cons, List.length_append, this, edg_len]
    simp [tot]; omega
theorem tot_take (L : List Sl) (i : Nat) (hi : i < L.length) : tot (L.take i) + L[i].2.2.length ≤ tot L := by
  have e : L = L.take i ++ (L[i] :: L.drop (i + 1)) := by simp
  have e2 : tot L = tot (L.take i ++ (L[i] :: L.drop (i + 1))) := by rw [← e]
  rw [e2]
  unfold tot
  rw [List.map_append, List.sum_append, List.map_cons, List.sum_cons]
  omega

theorem c32 (a : Option Addr) (cap : Nat) (L : List Sl) (h : Hp) (hL : Rd 1 eS h a L) (hS : ∀ x ∈ L, Rd 3 eSp h x.1 x.2.2) (hr : ∀ x ∈ L, rgt (-1) x.2.2 = true) (hne : edgs L ≠ []) (hlen : L.length ≤ 1000) (htot : tot L ≤ 1000000) :
    C prog 32 [.slice a L.length cap] h fun v h' => ∃ a' cap', v = .slice a' (dd (srt (edgs L)) (edgs L).length).length cap' ∧ Ow h.size 3 1 e1 h' a' cap' (dd (srt (edgs L)) (edgs L).length) ∧ Ext h h' := by
  refine enter func32 rfl ntmps32 results32 rfl rfl ?_
  refine x_seq ?_
  refine x_region ?_
  refine r1 rfl (p_as rfl) ?_
  refine o_nil ?_
  refine x_seq ?_
  refine x_region ?_
  refine r1 rfl (p_as rfl) ?_
  refine o_nil ?_
  refine x_seq ?_
  refine x_seq ?_
  refine x_region ?_
  refine r1 rfl (p_mv rfl) ?_
  refine r1 rfl (p_len runUnderlying45 rfl) ?_
  refine r1 rfl (p_mv rfl) ?_
  refine o_nil ?_
  refine x_block ?_
  refine x_loope (σ := Nat × Option Addr × Nat) (fun s E0 => match s with | (i, ao, co) => (3, .slice ao (edgs (L.take i)).length co) :: (10, .int .i64 (i : Int)) :: E0) [(8, _), (9, _)] (fun s h' => match s with | (i, ao, co) => Ext h h' ∧ i ≤ L.length ∧ Ow h.size 3 1 e1 h' ao co (edgs (L.take i))) (fun s => match s with | (i, ao, co) => L.length - i) ((0, none, 0)) ⟨rfl, rfl, rfl, rfl, trivial⟩ ?_ ?_
  · exact ⟨Ext.refl _, by omega, Ow.nil⟩
  rintro ⟨i, ao, co⟩ h' ⟨x0, hi, ow⟩
  show X _ _ _ ((3, .slice ao (edgs (L.take i)).length co) :: (10, .int .i64 (i : Int)) :: _) _ _
  have hl := hL.lift x0
  refine x_seq ?_
  refine x_region ?_
  refine r1 rfl (p_lss rfl rfl) ?_
  refine o_nil ?_
  refine x_seq ?_
  refine x_cond rfl (fun hc => ?_) (fun hc => ?_)
  · skip
    have hlt : i < L.length := by have := of_decide_eq_true hc; omega
    have hx : L[i]? = some L[i] := by simp [hlt]
    have hmi : L[i] ∈ L := List.getElem_mem hlt
    have hs0 := hS _ hmi
    have hri := rgt_mem (hr _ hmi)
    have htk := tot_take L i hlt
    have hes := edgs_snoc (L.take i) L[i]
    rw [← take_snoc L i hlt] at hes
    generalize L[i] = x at *
    refine x_skip ?_
    refine x_seq ?_
    refine x_block ?_
    refine x_seq ?_
    refine x_region ?_
    refine r1 rfl (p_idx runUnderlying45 sizeOf33 rfl rfl (by omega) (hl.is' hlt)) ?_
    refine r1 rfl (p_ld isAgg33 rfl (hl.cel _ _ hx 0 _ rfl)) ?_
    refine r1 rfl (p_as rfl) ?_
    refine o_nil ?_
    refine x_seq ?_
    refine x_region ?_
    refine r1 rfl (p_mv rfl) ?_
    refine r1 rfl (p_len runUnderlying33 rfl) ?_
    refine r1 rfl (p_mv rfl) ?_
    refine o_nil ?_
    refine x_block ?_
    have hel := edgs_len (L.take i)
    refine x_loope (σ := Nat × Option Addr × Nat) (fun s E0 => match s with | (j, ao, co) => (3, .slice ao (edgs (L.take i) ++ edg (x.2.2.take j)).length co) :: (16, .int .i64 (j : Int)) :: E0) [(8, _), (9, _), (10, _), (14, _), (15, _)] (fun s h' => match s with | (j, ao, co) => Ext h h' ∧ j ≤ x.2.2.length ∧ Ow h.size 3 1 e1 h' ao co (edgs (L.take i) ++ edg (x.2.2.take j))) (fun s => match s with | (j, ao, co) => x.2.2.length - j) ((0, ao, co)) ⟨(by simp [edg]; rfl), rfl, rfl, rfl, rfl, rfl, rfl, trivial⟩ ?_ ?_
    · exact ⟨x0, by omega, by simpa [edg] using ow⟩
    rintro ⟨j, ao, co⟩ h' ⟨x0, hj, ow⟩
    show X _ _ _ ((3, .slice ao (edgs (L.take i) ++ edg (x.2.2.take j)).length co) :: (16, .int .i64 (j : Int)) :: _) _ _
    have hs := hs0.lift x0
    refine x_seq ?_
    refine x_region ?_
    refine r1 rfl (p_lss rfl rfl) ?_
    refine o_nil ?_
    refine x_seq ?_
    refine x_cond rfl (fun hd => ?_) (fun hd => ?_)
    · skip
      have hjl : j < x.2.2.length := by have := of_decide_eq_true hd; omega
      have hxs : x.2.2[j]? = some x.2.2[j] := by simp [hjl]
      have hm := hri x.2.2[j] (List.getElem_mem hjl)
      have hed := edg_snoc (x.2.2.take j) x.2.2[j]
      rw [← take_snoc _ j hjl] at hed
      have hel2 := edg_len (x.2.2.take j)
      have hel3 : (x.2.2.take j).length = j := by simp; omega
      generalize x.2.2[j] = s at *
      refine x_skip ?_
      refine x_seq ?_
      refine x_block ?_
      refine x_seq ?_
      refine x_region ?_
      refine r1 rfl (p_idx runUnderlying33 sizeOf52 rfl rfl (by omega) (hs.is' hjl)) ?_
      refine r1 rfl (p_lda isAgg52 rfl (hs.cel _ _ hxs) sizeOf52) ?_
      refine o1 rfl (s_al zeroValue52 rfl ?_)
      intro b7 hb7 n7
      have g7 : _ ≤ b7 := n7.ge x0
      have nf_ow_7 := ow.nin n7
      have x0 := x0.tr (n7.ext)
      have ow := ow.lift (n7.ext)
      have l7 := n7.bl
      refine o0 (s_sta rfl rfl sizeOf52 rfl l7 rfl ?_)
      intro hh1 u1
      have x0 := x0.upd u1 g7
      have l7 := u1.bl
      have ow := ow.updn u1 nf_ow_7
      refine o_nil ?_
      refine x_region ?_
      refine r1 rfl (p_mv rfl) ?_
      refine r1 rfl (p_fld runUnderlying52 rfl sizeOf3 (by decide) rfl rfl) ?_
      refine r1 rfl (p_ld isAgg3 rfl (l7.get rfl)) ?_
      refine r1 rfl (p_fld runUnderlying52 rfl sizeOf3 (by decide) rfl rfl) ?_
      refine r1 rfl (p_ld isAgg3 rfl (l7.get rfl)) ?_
      refine r1 rfl (p_add64 rfl rfl (by omega)) ?_
      refine o1 rfl (s_bsl runUnderlying47 sizeOf3 zeroValue3 rfl (by decide) (by decide) rfl rfl ?_)
      intro b26 hb26 n26
      have g26 : _ ≤ b26 := n26.ge x0
      have ne26_7 : b26 ≠ b7 := n26.ne l7
      have nf_ow_26 := ow.nin n26
      have x0 := x0.tr (n26.ext)
      have l7 := l7.lift (n26.ext)
      have ow := ow.lift (n26.ext)
      have l26 := n26.bl
      have w26 := n26.ow (B := 0) (Nat.zero_le _) [s.lo, s.hi + 1] rfl lene1
      refine o1 rfl (s_app runUnderlying47 runUnderlying47 sizeOf3 typeInfo3 zeroValue3 rfl rfl rfl lene1 onee1 rfl rfl ow (w26.rd lene1) (Kp.size x0) (by rw [List.length_append]; simp only [List.length_cons, List.length_nil]; omega) ?_)
      intro a27 c27 ha27 w27 k27
      have x0 := x0.at_ k27 (fun hn => by have := Ow.ge ow hn; omega)
      refine r1 rfl (p_as rfl) ?_
      refine o_nil ?_
      refine x_region ?_
      refine r1 rfl (p_add64 rfl rfl (by omega)) ?_
      refine r1 rfl (p_mv rfl) ?_
      refine o_nil ?_
      rw [List.append_assoc, ← hed] at w27 ⊢
      refine ⟨(j + 1, a27, c27), ⟨rfl, rfl, rfl, rfl, rfl, rfl, rfl, trivial⟩, ?_, ?_⟩
      · exact ⟨x0, by omega, w27⟩
      · dsimp only; omega
    · skip
      have hjl : j = x.2.2.length := by have := of_decide_eq_false hd; omega
      subst hjl
      rw [List.take_length] at ow ⊢
      rw [← hes] at ow ⊢
      refine x_exit ?_
      refine x_region ?_
      refine r1 rfl (p_add64 rfl rfl (by omega)) ?_
      refine r1 rfl (p_mv rfl) ?_
      refine o_nil ?_
      refine ⟨(i + 1, ao, co), ⟨rfl, rfl, rfl, rfl, trivial⟩, ?_, ?_⟩
      · exact ⟨x0, by omega, ow⟩
      · dsimp only; omega
  · skip
    have hlt : i = L.length := by have := of_decide_eq_false hc; omega
    subst hlt
    rw [List.take_length] at ow ⊢
    have hel := edgs_len L
    have hsl := srt_len (edgs L)
    refine x_exit ?_
    refine x_seq ?_
    refine x_region ?_
    refine r1 rfl (p_mv rfl) ?_
    refine o1 rfl (s_call call66 rfl (c66 h.size ao co (edgs L) _ ow hne (by omega)) ?_)
    rintro v2 hh2 ⟨rfl, wA, kA⟩
    have x0 := x0.at_ kA (fun hn => Ow.ge ow hn)
    rw [← hsl]
    refine o_nil ?_
    refine x_seq ?_
    refine x_region ?_
    refine r1 rfl (p_mv rfl) ?_
    refine o1 rfl (s_call call67 rfl (c67 h.size ao co (srt (edgs L)) _ wA (by omega)) ?_)
    rintro v3 hh3 ⟨rfl, wB, kB⟩
    have x0 := x0.at_ kB (fun hn => Ow.ge wA hn)
    refine r1 rfl (p_as rfl) ?_
    refine o_nil ?_
    refine x_ret (fin1 rfl ?_)
    exact ⟨ao, co, rfl, wB, x0⟩
end Go.Proofs
