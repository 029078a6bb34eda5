import Derived.Test.YtpnbdejdkllflaaU21
set_option linter.unusedVariables false
namespace Go.Proofs
open Go.Lx Try

def e32 (x : Int) : List Value := [.int .i32 x]
def wantF (n : Int) : Pr := if n < 0 ∨ 1114111 < n then ⟨0, false, 0, 0⟩ else refF n
theorem want_eq {F : List Int} {Bk : List (List Int)} {n : Int} (h : getF F Bk n = if n < 0 ∨ 1114111 < n then 0 else tv n + classF n) : propF (getF F Bk n) = wantF n := by
  rw [h]
  unfold wantF
  split
  · rfl
  · exact ref_eq n
theorem c3 (a : Option Addr) (cap : Nat) (l : List Int) (h : Hp) (hl : Rd 1 e32 h a l) (hb : ∀ x ∈ l, B32 x) (hlen : l.length ≤ 9223372036854775807) : C prog 3 [.slice a l.length cap] h fun v h' => v = .bool true ∧ Ext h h' := by
  refine enter func3 rfl ntmps3 results3 rfl rfl ?_
  refine x_seq ?_
  refine x_region ?_
  refine r1 rfl (p_as rfl) ?_
  refine o_nil ?_
  refine x_seq ?_
  refine x_seq ?_
  refine x_region ?_
  refine o1 rfl (s_call call4 rfl (c4 _) ?_)
  rintro v1 hh1 ⟨rfl, x1⟩
  have x0 := (x1 : Ext _ _)
  refine r1 rfl (p_not rfl) ?_
  refine r1 rfl (p_mv rfl) ?_
  apply o_or 4 (dj := 9) (d := 13) rfl
  · intro hg1_3
    refine r1h rfl rfl rfl hg1_3 (p_mv rfl) ?_
    refine r1h rfl rfl rfl hg1_3 (p_len runUnderlying22 rfl) ?_
    refine r1h rfl rfl rfl hg1_3 (p_gtr rfl rfl) ?_
    refine r1 rfl (p_pickf hg1_3 rfl rfl rfl) ?_
    exact o_nil ⟨rfl, rfl, by repeat (first | exact le_r _ | refine le_c rfl ?_)⟩
  · intro hg1_3
    refine o1n rfl rfl rfl hg1_3 ?_
    refine o1n rfl rfl rfl hg1_3 ?_
    refine o1n rfl rfl rfl hg1_3 ?_
    refine r1 rfl (p_pickt hg1_3 rfl rfl rfl) ?_
    exact o_nil ⟨rfl, rfl, by repeat (first | exact le_r _ | refine le_c rfl ?_)⟩
  refine o_nil ?_
  refine x_cond rfl (fun h1 => ?_) (fun h1 => ?_)
  · skip
    refine x_seq ?_
    refine x_region ?_
    refine o1 rfl (s_call call4 rfl (c4 _) ?_)
    rintro v2 hh2 ⟨rfl, x2⟩
    have x0 := x0.tr (x2)
    refine r1 rfl (p_as rfl) ?_
    refine o_nil ?_
    refine x_ret (fin1 rfl ?_)
    exact ⟨rfl, x0⟩
  · skip
    have h1' : l.length ≤ 500 := by simp at h1; omega
    refine x_skip ?_
    refine x_seq ?_
    refine x_region ?_
    refine o1 rfl (s_call call5 rfl (c5 _) ?_)
    rintro v3 hh3 ⟨bK, tb, ba, bc, M, B, rfl, lK, tB, mr, mv, x3⟩
    have x0 := x0.tr (x3)
    have ts := tab_spec mr mv
    generalize (bldF M 4352).1 = F at *
    generalize (bldF M 4352).2.2.1 = Bk at *
    refine r1 rfl (p_as rfl) ?_
    refine o_nil ?_
    refine x_seq ?_
    refine x_seq ?_
    refine x_region ?_
    refine r1 rfl (p_mv rfl) ?_
    refine r1 rfl (p_eqlp runUnderlying24 rfl rfl) ?_
    refine r1 rfl (p_mv rfl) ?_
    apply o_orx 4 (dj := 18) (d := 22) rfl
    · intro hg4_3
      have ghg4_3 := Ext.refl hh3
      refine r1h rfl rfl rfl hg4_3 (p_mv rfl) ?_
      refine o1h rfl rfl rfl hg4_3 (s_call call6 rfl (c6 B bK tb F ba bc Bk _ lK tB) ?_)
      rintro v4 hh4 ⟨rfl, x4⟩
      have x0 := x0.tr (x4)
      have ghg4_3 := ghg4_3.trans (x4)
      have lK := lK.lift (x4)
      have tB := tB.lift (x4)
      refine r1h rfl rfl rfl hg4_3 (p_lss rfl rfl) ?_
      refine r1 rfl (p_pickf hg4_3 rfl rfl rfl) ?_
      exact o_nil ⟨rfl, ghg4_3, by repeat (first | exact le_r _ | refine le_c rfl ?_)⟩
    · intro hg4_3
      have ghg4_3 := Ext.refl hh3
      refine o1n rfl rfl rfl hg4_3 ?_
      refine o1n rfl rfl rfl hg4_3 ?_
      refine o1n rfl rfl rfl hg4_3 ?_
      refine r1 rfl (p_pickt hg4_3 rfl rfl rfl) ?_
      exact o_nil ⟨rfl, ghg4_3, by repeat (first | exact le_r _ | refine le_c rfl ?_)⟩
    intro hx5 xx5
    have x0 := x0.tr (xx5)
    have lK := lK.lift (xx5)
    have tB := tB.lift (xx5)
    refine r1 rfl (p_mv rfl) ?_
    apply o_orx 4 (dj := 23) (d := 27) rfl
    · intro hg4_8
      have ghg4_8 := Ext.refl hx5
      refine r1h rfl rfl rfl hg4_8 (p_mv rfl) ?_
      refine o1h rfl rfl rfl hg4_8 (s_call call6 rfl (c6 B bK tb F ba bc Bk _ lK tB) ?_)
      rintro v6 hh6 ⟨rfl, x6⟩
      have x0 := x0.tr (x6)
      have ghg4_8 := ghg4_8.trans (x6)
      have lK := lK.lift (x6)
      have tB := tB.lift (x6)
      refine r1h rfl rfl rfl hg4_8 (p_gtr rfl rfl) ?_
      refine r1 rfl (p_pickf hg4_8 rfl rfl rfl) ?_
      exact o_nil ⟨rfl, ghg4_8, by repeat (first | exact le_r _ | refine le_c rfl ?_)⟩
    · intro hg4_8
      have ghg4_8 := Ext.refl hx5
      refine o1n rfl rfl rfl hg4_8 ?_
      refine o1n rfl rfl rfl hg4_8 ?_
      refine o1n rfl rfl rfl hg4_8 ?_
      refine r1 rfl (p_pickt hg4_8 rfl rfl rfl) ?_
      exact o_nil ⟨rfl, ghg4_8, by repeat (first | exact le_r _ | refine le_c rfl ?_)⟩
    intro hx7 xx7
    have x0 := x0.tr (xx7)
    have lK := lK.lift (xx7)
    have tB := tB.lift (xx7)
    refine o_nil ?_
    refine x_cond_f (congrArg (fun b => some (Value.bool b)) (by simp; omega)) ?_
    refine x_skip ?_
    refine x_seq ?_
    refine x_seq ?_
    refine x_region ?_
    refine r1 rfl (p_as rfl) ?_
    refine o_nil ?_
    refine x_block ?_
    refine x_loope (σ := Nat) (fun i E0 => (4, .int .i64 (i : Int)) :: E0) [(0, _), (3, _)] (fun i h' => Ext h h' ∧ i ≤ l.length ∧ Bl h' bK [.pointer (some ⟨tb, 0, none⟩)] 41 ∧ TB B h' tb F ba bc Bk) (fun i => l.length - i) (0) ⟨rfl, rfl, rfl, trivial⟩ ?_ ?_
    · exact ⟨x0, by omega, lK, tB⟩
    rintro i h' ⟨x0, hi, lK, tB⟩
    show X _ _ _ ((4, .int .i64 (i : Int)) :: _) _ _
    have rl := hl.lift x0
    refine x_seq ?_
    refine x_seq ?_
    refine x_region ?_
    refine r1 rfl (p_mv rfl) ?_
    refine r1 rfl (p_mv rfl) ?_
    refine r1 rfl (p_len runUnderlying22 rfl) ?_
    refine r1 rfl (p_lss rfl rfl) ?_
    refine o_nil ?_
    refine x_cond rfl (fun hc => ?_) (fun hc => ?_)
    · skip
      have hlt : i < l.length := by have := of_decide_eq_true hc; omega
      have hx : l[i]? = some l[i] := by simp [hlt]
      have hbx := hb l[i] (List.getElem_mem hlt)
      have hw := want_eq (ts.2.2 l[i])
      generalize l[i] = n at *
      refine x_skip ?_
      refine x_seq ?_
      refine x_block ?_
      refine x_seq ?_
      refine x_region ?_
      refine r1 rfl (p_mv rfl) ?_
      refine r1 rfl (p_mv rfl) ?_
      refine r1 rfl (p_idx runUnderlying22 sizeOf21 rfl rfl (by omega) (rl.is' hlt)) ?_
      refine r1 rfl (p_ld isAgg21 rfl (rl.cel _ _ hx 0 _ rfl)) ?_
      refine o1 rfl (s_call call7 rfl (c7 n _ hbx) ?_)
      rintro v8 hh8 ⟨rfl, x8⟩
      have x0 := x0.tr (x8)
      have lK := lK.lift (x8)
      have tB := tB.lift (x8)
      have rl := rl.lift (x8)
      refine o1 rfl (s_al zeroValue28 rfl ?_)
      intro b5 hb5 n5
      have g5 : _ ≤ b5 := n5.ge x0
      have ne5_K : b5 ≠ bK := n5.ne lK
      have nf_tB_5 := tB.nin n5
      have nf_rl_5 := rl.nin n5
      have x0 := x0.tr (n5.ext)
      have lK := lK.lift (n5.ext)
      have tB := tB.lift (n5.ext)
      have rl := rl.lift (n5.ext)
      have l5 := n5.bl
      refine o0 (s_sta rfl rfl sizeOf28 rfl l5 rfl ?_)
      intro hh9 u9
      have x0 := x0.upd u9 g5
      have lK := u9.kp.bl (Ne.symm ne5_K) lK
      have l5 := u9.bl
      have tB := tB.updn u9 nf_tB_5
      have rl := rl.updn u9 nf_rl_5
      refine o_nil ?_
      refine x_seq ?_
      refine x_seq ?_
      refine x_region ?_
      refine r1 rfl (p_mv rfl) ?_
      refine r1 rfl (p_mv rfl) ?_
      refine r1 rfl (p_idx runUnderlying22 sizeOf21 rfl rfl (by omega) (rl.is' hlt)) ?_
      refine r1 rfl (p_ld isAgg21 rfl (rl.cel _ _ hx 0 _ rfl)) ?_
      refine r1 rfl (p_lss rfl rfl) ?_
      refine r1 rfl (p_mv rfl) ?_
      apply o_or 6 (dj := 44) (d := 50) rfl
      · intro hg10_6
        refine r1h rfl rfl rfl hg10_6 (p_mv rfl) ?_
        refine r1h rfl rfl rfl hg10_6 (p_mv rfl) ?_
        refine r1h rfl rfl rfl hg10_6 (p_idx runUnderlying22 sizeOf21 rfl rfl (by omega) (rl.is' hlt)) ?_
        refine r1h rfl rfl rfl hg10_6 (p_ld isAgg21 rfl (rl.cel _ _ hx 0 _ rfl)) ?_
        refine r1h rfl rfl rfl hg10_6 (p_gtr rfl rfl) ?_
        refine r1 rfl (p_pickf hg10_6 rfl rfl rfl) ?_
        exact o_nil ⟨rfl, rfl, by repeat (first | exact le_r _ | refine le_c rfl ?_)⟩
      · intro hg10_6
        refine o1n rfl rfl rfl hg10_6 ?_
        refine o1n rfl rfl rfl hg10_6 ?_
        refine o1n rfl rfl rfl hg10_6 ?_
        refine o1n rfl rfl rfl hg10_6 ?_
        refine o1n rfl rfl rfl hg10_6 ?_
        refine r1 rfl (p_pickt hg10_6 rfl rfl rfl) ?_
        exact o_nil ⟨rfl, rfl, by repeat (first | exact le_r _ | refine le_c rfl ?_)⟩
      refine o_nil ?_
      refine x_cond rfl (fun h2 => ?_) (fun h2 => ?_)
      · skip
        have h2' : n < 0 ∨ 1114111 < n := by simpa using h2
        have hwn : wantF n = ⟨0, false, 0, 0⟩ := if_pos h2'
        refine x_region ?_
        refine r1 rfl (p_bs runUnderlying28 zeroValue28 pl28 rfl) ?_
        show O _ _ _ _ ((_, .agg #[_, _, _, _]) :: _) _ _
        refine o0 (s_sta rfl rfl sizeOf28 rfl l5 rfl ?_)
        intro hh10 u10
        have x0 := x0.upd u10 g5
        have lK := u10.kp.bl (Ne.symm ne5_K) lK
        have l5 := u10.bl
        have tB := tB.updn u10 nf_tB_5
        have rl := rl.updn u10 nf_rl_5
        refine o_nil ?_
        refine x_seq ?_
        refine x_regq (by kernel_rfl) (by kernel_rfl) ?_
        refine y1 rfl (zp fun h' x => p_mv rfl) ?_
        refine y1 rfl (zp fun h' x => p_mv rfl) ?_
        refine y1 rfl (zp fun h' x => p_mv rfl) ?_
        refine y1 rfl (zp fun h' x => p_idx runUnderlying22 sizeOf21 rfl rfl (by omega) (rl.is' hlt)) ?_
        refine y1 rfl (zp fun h' x => p_ld isAgg21 rfl ((rl.lift x).cel _ _ hx 0 _ rfl)) ?_
        refine y1 rfl (z_call call8 rfl (fun h' x => (c8 B bK tb F ba bc Bk n _ (lK.lift x) (tB.lift x) ts.1 hbx))) ?_
        refine y1 rfl (zp fun h' x => p_lda isAgg28 rfl ((l5.lift x).gets rfl) sizeOf28) ?_
        refine y1 rfl (zp fun h' x => p_neqs eqGuardType28 (heq28 _ _ _ _ _ _ _ _) rfl rfl) ?_
        refine y_nil (fun hy12 xy12 => ?_)
        have x0 := x0.tr (xy12)
        have lK := lK.lift (xy12)
        have l5 := l5.lift (xy12)
        have tB := tB.lift (xy12)
        have rl := rl.lift (xy12)
        refine x_cond_f (congrArg (fun b => some (Value.bool b)) (by rw [hw, hwn]; simp)) ?_
        refine x_skip ?_
        refine x_region ?_
        refine r1 rfl (p_mv rfl) ?_
        refine r1 rfl (p_add64 rfl rfl (by omega)) ?_
        refine r1 rfl (p_as rfl) ?_
        refine o_nil ?_
        refine ⟨i + 1, ⟨rfl, rfl, rfl, trivial⟩, ?_, ?_⟩
        · exact ⟨x0, by omega, lK, tB⟩
        · omega
      · skip
        have h2' : ¬ (n < 0 ∨ 1114111 < n) := by simpa using h2
        have hwn : wantF n = refF n := if_neg h2'
        refine x_skip ?_
        refine x_seq ?_
        refine x_regq (by kernel_rfl) (by kernel_rfl) ?_
        refine y1 rfl (zp fun h' x => p_mv rfl) ?_
        refine y1 rfl (zp fun h' x => p_mv rfl) ?_
        refine y1 rfl (zp fun h' x => p_mv rfl) ?_
        refine y1 rfl (zp fun h' x => p_idx runUnderlying22 sizeOf21 rfl rfl (by omega) (rl.is' hlt)) ?_
        refine y1 rfl (zp fun h' x => p_ld isAgg21 rfl ((rl.lift x).cel _ _ hx 0 _ rfl)) ?_
        refine y1 rfl (z_call call8 rfl (fun h' x => (c8 B bK tb F ba bc Bk n _ (lK.lift x) (tB.lift x) ts.1 hbx))) ?_
        refine y1 rfl (zp fun h' x => p_lda isAgg28 rfl ((l5.lift x).gets rfl) sizeOf28) ?_
        refine y1 rfl (zp fun h' x => p_neqs eqGuardType28 (heq28 _ _ _ _ _ _ _ _) rfl rfl) ?_
        refine y_nil (fun hy14 xy14 => ?_)
        have x0 := x0.tr (xy14)
        have lK := lK.lift (xy14)
        have l5 := l5.lift (xy14)
        have tB := tB.lift (xy14)
        have rl := rl.lift (xy14)
        refine x_cond_f (congrArg (fun b => some (Value.bool b)) (by rw [hw, hwn]; simp)) ?_
        refine x_skip ?_
        refine x_region ?_
        refine r1 rfl (p_mv rfl) ?_
        refine r1 rfl (p_add64 rfl rfl (by omega)) ?_
        refine r1 rfl (p_as rfl) ?_
        refine o_nil ?_
        refine ⟨i + 1, ⟨rfl, rfl, rfl, trivial⟩, ?_, ?_⟩
        · exact ⟨x0, by omega, lK, tB⟩
        · omega
    · skip
      refine x_exit ?_
      refine x_seq ?_
      refine x_region ?_
      refine r1 rfl (p_as rfl) ?_
      refine o_nil ?_
      refine x_seq ?_
      refine x_region ?_
      refine r1 rfl (p_mv rfl) ?_
      refine o1 rfl (s_call call8 rfl (c8n _ _) ?_)
      rintro v15 hh15 ⟨rfl, x15⟩
      have x0 := x0.tr (x15)
      have lK := lK.lift (x15)
      have tB := tB.lift (x15)
      have rl := rl.lift (x15)
      refine r1 rfl (p_bs runUnderlying28 zeroValue28 pl28 rfl) ?_
      show O _ _ _ _ ((_, .agg #[_, _, _, _]) :: _) _ _
      refine r1 rfl (p_eqls eqGuardType28 (heq28 _ _ _ _ _ _ _ _) rfl rfl) ?_
      refine r1 rfl (p_mv rfl) ?_
      apply o_andx 4 (dj := 64) (d := 68) rfl
      · intro hg15_5
        have ghg15_5 := Ext.refl hh15
        refine r1h rfl rfl rfl hg15_5 (p_mv rfl) ?_
        refine o1h rfl rfl rfl hg15_5 (s_call call6 rfl (c6n _) ?_)
        rintro v16 hh16 ⟨rfl, x16⟩
        have x0 := x0.tr (x16)
        have ghg15_5 := ghg15_5.trans (x16)
        have lK := lK.lift (x16)
        have tB := tB.lift (x16)
        have rl := rl.lift (x16)
        refine r1h rfl rfl rfl hg15_5 (p_eql rfl rfl) ?_
        refine r1 rfl (p_pickt hg15_5 rfl rfl rfl) ?_
        exact o_nil ⟨rfl, ghg15_5, by repeat (first | exact le_r _ | refine le_c rfl ?_)⟩
      · intro hg15_5
        have ghg15_5 := Ext.refl hh15
        refine o1n rfl rfl rfl hg15_5 ?_
        refine o1n rfl rfl rfl hg15_5 ?_
        refine o1n rfl rfl rfl hg15_5 ?_
        refine r1 rfl (p_pickf hg15_5 rfl rfl rfl) ?_
        exact o_nil ⟨rfl, ghg15_5, by repeat (first | exact le_r _ | refine le_c rfl ?_)⟩
      intro hx17 xx17
      have x0 := x0.tr (xx17)
      have lK := lK.lift (xx17)
      have tB := tB.lift (xx17)
      have rl := rl.lift (xx17)
      refine r1 rfl (p_as rfl) ?_
      refine o_nil ?_
      refine x_ret (fin1 rfl ?_)
      exact ⟨rfl, x0⟩
end Go.Proofs
