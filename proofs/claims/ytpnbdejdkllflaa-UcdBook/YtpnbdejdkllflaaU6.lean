import Derived.Test.YtpnbdejdkllflaaE28
set_option linter.unusedVariables false
namespace Go.Proofs
open Go.Lx Try

theorem t37mono (r : Int) : ∀ a b : Int, 0 ≤ a → a ≤ b → b < T37.length → decide (r ≤ (gt T37 a).2) = true → decide (r ≤ (gt T37 b).2) = true := by
  have u : Up (T37.map fun p => (⟨p.1, p.2, 0⟩ : Sp)) := up_of (by decide +kernel)
  intro a b h0 h1 h2 h3
  have e : ∀ i : Int, 0 ≤ i → i < T37.length → (gt (T37.map fun p => (⟨p.1, p.2, 0⟩ : Sp)) i).hi = (gt T37 i).2 := by
    intro i hi hl
    have : i.toNat < T37.length := by omega
    simp [gt, this]
  have := u a b h0 h1 (by simpa using h2)
  rw [e a h0 (by omega), e b (by omega) h2] at this
  simp only [decide_eq_true_eq] at *
  omega

theorem c28 (r : Int) (h : Hp) (hr : B32 r) : C prog 28 [.int .i32 r] h fun v h' => v = .bool (pfind T37 r) ∧ Ext h h' := by
  refine enter func28 rfl ntmps28 results28 rfl rfl ?_
  refine x_seq ?_
  refine x_region ?_
  refine o1 rfl (s_box rfl rfl ?_)
  intro b1 hb1 n1
  have g1 : _ ≤ b1 := n1.ge (Ext.refl _)
  have x0 := (n1.ext : Ext _ _)
  have l1 := n1.bl
  refine r1 rfl (p_as rfl) ?_
  refine o_nil ?_
  refine x_seq ?_
  refine x_region ?_
  refine o1 rfl (s_call call37 rfl (c37 _) ?_)
  rintro v1 hh1 ⟨a1, rfl, w1, x1⟩
  have x0 := x0.tr (x1)
  have l1 := l1.lift (x1)
  have rd := (w1.rd lenr2)
  refine o1 rfl (s_al zeroValue57 rfl ?_)
  intro b3 hb3 n3
  have g3 : _ ≤ b3 := n3.ge x0
  have ne3_1 : b3 ≠ b1 := n3.ne l1
  have nf_rd_3 := rd.nin n3
  have x0 := x0.tr (n3.ext)
  have l1 := l1.lift (n3.ext)
  have rd := rd.lift (n3.ext)
  have l3 := n3.bl
  refine o0 (s_sto sizeOf57 rfl rfl rfl l3 rfl ?_)
  intro hh2 u2
  have x0 := x0.upd u2 g3
  have l1 := u2.kp.bl (Ne.symm ne3_1) l1
  have l3 := u2.bl
  have rd := rd.updn u2 nf_rd_3
  refine o_nil ?_
  refine x_seq ?_
  refine x_region ?_
  refine r1 rfl (p_ld isAgg57 rfl (l3.get rfl)) ?_
  refine r1 rfl (p_len runUnderlying57 rfl) ?_
  refine r1 rfl (p_mf rfl rfl) ?_
  refine o1 rfl (s_call call61 rfl (c61 T37.length (fun i => decide (r ≤ (gt T37 i).2)) 63 [] _ _ (by have := t37len; omega) call63 (fun m h0 h1 h' x => c63 m r _ _ T37 _ _ _ _ _ (l3.lift x) (l1.lift x) (rd.lift x) h0 h1) (t37mono r)) ?_)
  rintro v3 hh3 ⟨⟨m, rfl, fm⟩, x3⟩
  have x0 := x0.tr (x3)
  have l1 := l1.lift (x3)
  have l3 := l3.lift (x3)
  have rd := rd.lift (x3)
  refine r1 rfl (p_as rfl) ?_
  refine o_nil ?_
  refine x_seq ?_
  have hfind := found_find T37 (fun s => decide (r ≤ s.2)) m fm
  have hm0 := fm.lo
  refine x_regt (by kernel_rfl) (by kernel_rfl) ?_
  refine t1 rfl (p_mv rfl) ?_
  refine t1 rfl (p_ld isAgg57 rfl (l3.get rfl)) ?_
  refine t1 rfl (p_len runUnderlying57 rfl) ?_
  refine t1 rfl (p_lss rfl rfl) ?_
  refine t1 rfl (p_mv rfl) ?_
  apply t_and 8 (dj := 14) (d := 22) rfl
  · intro hg3_5
    refine t1h rfl rfl rfl hg3_5 (p_ld isAgg57 rfl (l3.get rfl)) ?_
    refine t1h rfl rfl rfl hg3_5 (p_mv rfl) ?_
    refine t1h rfl rfl rfl hg3_5 (p_idx runUnderlying57 sizeOf59 rfl rfl (by have := of_decide_eq_true hg3_5; omega) (rd.isi hm0 (of_decide_eq_true hg3_5))) ?_
    refine t1h rfl rfl rfl hg3_5 (p_idxa runUnderlying59 sizeOf21 rfl rfl (by decide)) ?_
    refine t1h rfl rfl rfl hg3_5 (p_ld isAgg21 rfl (rd.ati hm0 (of_decide_eq_true hg3_5) (j := 0) rfl)) ?_
    refine t1h rfl rfl rfl hg3_5 (p_ld isAgg21 rfl (l1.get rfl)) ?_
    refine t1h rfl rfl rfl hg3_5 (p_leq rfl rfl) ?_
    refine t1 rfl (p_pickt hg3_5 rfl rfl rfl) ?_
    exact t_nil ⟨rfl, by repeat (first | exact le_r _ | refine le_c rfl ?_)⟩
  · intro hg3_5
    refine t1n rfl rfl rfl hg3_5 ?_
    refine t1n rfl rfl rfl hg3_5 ?_
    refine t1n rfl rfl rfl hg3_5 ?_
    refine t1n rfl rfl rfl hg3_5 ?_
    refine t1n rfl rfl rfl hg3_5 ?_
    refine t1n rfl rfl rfl hg3_5 ?_
    refine t1n rfl rfl rfl hg3_5 ?_
    refine t1 rfl (p_pickf hg3_5 rfl rfl rfl) ?_
    exact t_nil ⟨rfl, by repeat (first | exact le_r _ | refine le_c rfl ?_)⟩
  refine t1 rfl (p_as rfl) ?_
  refine t_nil ?_
  refine x_ret (fin1 rfl ?_)
  refine ⟨?_, x0⟩
  unfold pfind
  rw [hfind]
  by_cases hlt : m < T37.length
  · rw [if_pos hlt]
    simp [hlt]
  · rw [if_neg hlt]
    simp [hlt]

/-- What is known of a number. -/
structure Pr where
  br : Int
  pic : Bool
  con : Int
  ea : Int
def ePr (p : Pr) : List Value := [.int .i64 p.br, .bool p.pic, .int .i64 p.con, .int .i64 p.ea]
def vPr (p : Pr) : Value := .agg #[.int .i64 p.br, .bool p.pic, .int .i64 p.con, .int .i64 p.ea]

def ofF (r : Int) : Pr := ⟨gOf r, pfind T37 r, cOf r, eOf r⟩
theorem c10 (r : Int) (h : Hp) (hr : B32 r) : C prog 10 [.int .i32 r] h fun v h' => v = vPr (ofF r) ∧ Ext h h' := by
  refine enter func10 rfl ntmps10 results10 rfl rfl ?_
  refine x_seq ?_
  refine x_region ?_
  refine o1 rfl (s_al zeroValue28 rfl ?_)
  intro b2 hb2 n2
  have g2 : _ ≤ b2 := n2.ge (Ext.refl _)
  have x0 := (n2.ext : Ext _ _)
  have l2 := n2.bl
  refine o_nil ?_
  refine x_seq ?_
  refine x_region ?_
  refine r1 rfl (p_mv rfl) ?_
  refine o1 rfl (s_call call27 rfl (c27 _ _ hr) ?_)
  rintro v1 hh1 ⟨rfl, x1⟩
  have x0 := x0.tr (x1)
  have l2 := l2.lift (x1)
  refine r1 rfl (p_mv rfl) ?_
  refine o1 rfl (s_call call28 rfl (c28 _ _ hr) ?_)
  rintro v2 hh2 ⟨rfl, x2⟩
  have x0 := x0.tr (x2)
  have l2 := l2.lift (x2)
  refine r1 rfl (p_mv rfl) ?_
  refine o1 rfl (s_call call29 rfl (c29 _ _ hr) ?_)
  rintro v3 hh3 ⟨rfl, x3⟩
  have x0 := x0.tr (x3)
  have l2 := l2.lift (x3)
  refine r1 rfl (p_mv rfl) ?_
  refine o1 rfl (s_call call30 rfl (c30 _ _ hr) ?_)
  rintro v4 hh4 ⟨rfl, x4⟩
  have x0 := x0.tr (x4)
  have l2 := l2.lift (x4)
  refine r1 rfl (p_bs runUnderlying28 zeroValue28 pl28 rfl) ?_
  show O _ _ _ _ ((_, .agg #[_, _, _, _]) :: _) _ _
  refine o0 (s_sta rfl rfl sizeOf28 rfl l2 rfl ?_)
  intro hh5 u5
  have x0 := x0.upd u5 g2
  have l2 := u5.bl
  refine o_nil ?_
  refine x_ret (fin1 (ret_cell isAgg28 rfl (l2.gets rfl) sizeOf28) ?_)
  exact ⟨rfl, x0⟩

def refF (r : Int) : Pr := ⟨if idx [L1, L2, L3, L4, L5, L6, L7, L8] r 0 = 0 then classF r else idx [L1, L2, L3, L4, L5, L6, L7, L8] r 0, inL LP r, if idx [LC1, LC2, LC3] r 0 = 0 then 0 else idx [LC1, LC2, LC3] r 0,
  if idx [LE1, LE2, LE3] r 0 = 0 then 0 else idx [LE1, LE2, LE3] r 0⟩
theorem c7 (r : Int) (h : Hp) (hr : B32 r) : C prog 7 [.int .i32 r] h fun v h' => v = vPr (refF r) ∧ Ext h h' := by
  refine enter func7 rfl ntmps7 results7 rfl rfl ?_
  refine x_seq ?_
  refine x_region ?_
  refine o1 rfl (s_al zeroValue28 rfl ?_)
  intro b2 hb2 n2
  have g2 : _ ≤ b2 := n2.ge (Ext.refl _)
  have x0 := (n2.ext : Ext _ _)
  have l2 := n2.bl
  refine o_nil ?_
  refine x_seq ?_
  refine x_region ?_
  refine r1 rfl (p_mv rfl) ?_
  refine o1 rfl (s_call call22 rfl (c22 _ _ hr) ?_)
  rintro v1 hh1 ⟨rfl, x1⟩
  have x0 := x0.tr (x1)
  have l2 := l2.lift (x1)
  refine r1 rfl (p_mv rfl) ?_
  refine o1 rfl (s_call call23 rfl (c23 _ _ hr) ?_)
  rintro v2 hh2 ⟨rfl, x2⟩
  have x0 := x0.tr (x2)
  have l2 := l2.lift (x2)
  refine r1 rfl (p_mv rfl) ?_
  refine o1 rfl (s_call call24 rfl (c24 _ _ hr) ?_)
  rintro v3 hh3 ⟨rfl, x3⟩
  have x0 := x0.tr (x3)
  have l2 := l2.lift (x3)
  refine r1 rfl (p_mv rfl) ?_
  refine o1 rfl (s_call call25 rfl (c25 _ _ hr) ?_)
  rintro v4 hh4 ⟨rfl, x4⟩
  have x0 := x0.tr (x4)
  have l2 := l2.lift (x4)
  refine r1 rfl (p_bs runUnderlying28 zeroValue28 pl28 rfl) ?_
  show O _ _ _ _ ((_, .agg #[_, _, _, _]) :: _) _ _
  refine o0 (s_sta rfl rfl sizeOf28 rfl l2 rfl ?_)
  intro hh5 u5
  have x0 := x0.upd u5 g2
  have l2 := u5.bl
  refine o_nil ?_
  refine x_ret (fin1 (ret_cell isAgg28 rfl (l2.gets rfl) sizeOf28) ?_)
  exact ⟨rfl, x0⟩

def propF (n : Int) : Pr := if n < 0 ∨ 512 ≤ n ∨ 13 < n % 16 then ⟨0, false, 0, 0⟩ else ⟨n % 16, decide (n / 16 % 2 = 1), n / 32 % 4, n / 128⟩
theorem c11 (n : Int) (h : Hp) : C prog 11 [.int .i64 n] h fun v h' => v = vPr (propF n) ∧ Ext h h' := by
  refine enter func11 rfl ntmps11 results11 rfl rfl ?_
  refine x_seq ?_
  refine x_region ?_
  refine o1 rfl (s_al zeroValue28 rfl ?_)
  intro b2 hb2 n2
  have g2 : _ ≤ b2 := n2.ge (Ext.refl _)
  have x0 := (n2.ext : Ext _ _)
  have l2 := n2.bl
  refine o_nil ?_
  refine x_seq ?_
  refine x_seq ?_
  refine x_region ?_
  refine r1 rfl (p_mv rfl) ?_
  refine r1 rfl (p_lss rfl rfl) ?_
  refine r1 rfl (p_mv rfl) ?_
  apply o_or 3 (dj := 5) (d := 8) rfl
  · intro hg1_3
    refine r1h rfl rfl rfl hg1_3 (p_mv rfl) ?_
    refine r1h rfl rfl rfl hg1_3 (p_geq rfl rfl) ?_
    refine r1 rfl (p_pickf hg1_3 rfl rfl rfl) ?_
    exact o_nil ⟨rfl, rfl, by repeat (first | exact le_r _ | refine le_c rfl ?_)⟩
  · intro hg1_3
    refine o1n rfl rfl rfl hg1_3 ?_
    refine o1n rfl rfl rfl hg1_3 ?_
    refine r1 rfl (p_pickt hg1_3 rfl rfl rfl) ?_
    exact o_nil ⟨rfl, rfl, by repeat (first | exact le_r _ | refine le_c rfl ?_)⟩
  refine r1 rfl (p_mv rfl) ?_
  apply o_or 4 (dj := 9) (d := 13) rfl
  · intro hg1_7
    refine r1h rfl rfl rfl hg1_7 (p_mv rfl) ?_
    refine r1h rfl rfl rfl hg1_7 (p_rem rfl rfl (by simp at hg1_7; omega) (by omega)) ?_
    refine r1h rfl rfl rfl hg1_7 (p_gtr rfl rfl) ?_
    refine r1 rfl (p_pickf hg1_7 rfl rfl rfl) ?_
    exact o_nil ⟨rfl, rfl, by repeat (first | exact le_r _ | refine le_c rfl ?_)⟩
  · intro hg1_7
    refine o1n rfl rfl rfl hg1_7 ?_
    refine o1n rfl rfl rfl hg1_7 ?_
    refine o1n rfl rfl rfl hg1_7 ?_
    refine r1 rfl (p_pickt hg1_7 rfl rfl rfl) ?_
    exact o_nil ⟨rfl, rfl, by repeat (first | exact le_r _ | refine le_c rfl ?_)⟩
  refine o_nil ?_
  refine x_cond rfl (fun h1 => ?_) (fun h1 => ?_)
  · skip
    have h1' : n < 0 ∨ 512 ≤ n ∨ 13 < n % 16 := by simpa [or_assoc] using h1
    rw [propF, if_pos h1']
    refine x_seq ?_
    refine x_region ?_
    refine r1 rfl (p_bs runUnderlying28 zeroValue28 pl28 rfl) ?_
    show O _ _ _ _ ((_, .agg #[_, _, _, _]) :: _) _ _
    refine o0 (s_sta rfl rfl sizeOf28 rfl l2 rfl ?_)
    intro hh1 u1
    have x0 := x0.upd u1 g2
    have l2 := u1.bl
    refine o_nil ?_
    refine x_ret (fin1 (ret_cell isAgg28 rfl (l2.gets rfl) sizeOf28) ?_)
    exact ⟨rfl, x0⟩
  · skip
    have h1' : ¬ (n < 0 ∨ 512 ≤ n ∨ 13 < n % 16) := by have := h1; simp at this; omega
    rw [propF, if_neg h1']
    refine x_skip ?_
    refine x_seq ?_
    refine x_region ?_
    refine r1 rfl (p_mv rfl) ?_
    refine r1 rfl (p_rem rfl rfl (by omega) (by omega)) ?_
    refine r1 rfl (p_mv rfl) ?_
    refine r1 rfl (p_quo rfl rfl (by omega) (by omega) (wrap_i64 (by omega))) ?_
    refine r1 rfl (p_rem rfl rfl (by omega) (by omega)) ?_
    refine r1 rfl (p_eql rfl rfl) ?_
    refine r1 rfl (p_mv rfl) ?_
    refine r1 rfl (p_quo rfl rfl (by omega) (by omega) (wrap_i64 (by omega))) ?_
    refine r1 rfl (p_rem rfl rfl (by omega) (by omega)) ?_
    refine r1 rfl (p_mv rfl) ?_
    refine r1 rfl (p_quo rfl rfl (by omega) (by omega) (wrap_i64 (by omega))) ?_
    refine r1 rfl (p_bs runUnderlying28 zeroValue28 pl28 rfl) ?_
    show O _ _ _ _ ((_, .agg #[_, _, _, _]) :: _) _ _
    refine o0 (s_sta rfl rfl sizeOf28 rfl l2 rfl ?_)
    intro hh2 u2
    have x0 := x0.upd u2 g2
    have l2 := u2.bl
    refine o_nil ?_
    refine x_ret (fin1 (ret_cell isAgg28 rfl (l2.gets rfl) sizeOf28) ?_)
    exact ⟨rfl, x0⟩

def codeF (p : Pr) : Int := if p.br < 0 ∨ 13 < p.br ∨ p.con < 0 ∨ 3 < p.con ∨ p.ea < 0 ∨ 3 < p.ea then -1 else p.br + 32 * p.con + 128 * p.ea + (if p.pic then 16 else 0)
theorem c9 (p : Pr) (h : Hp) : C prog 9 [vPr p] h fun v h' => v = .int .i64 (codeF p) ∧ Ext h h' := by
  refine enter func9 rfl ntmps9 results9 rfl rfl ?_
  refine x_seq ?_
  refine x_region ?_
  refine o1 rfl (s_box rfl rfl ?_)
  intro b1 hb1 n1
  have g1 : _ ≤ b1 := n1.ge (Ext.refl _)
  have x0 := (n1.ext : Ext _ _)
  have l1 := n1.bl
  refine r1 rfl (p_as rfl) ?_
  refine o_nil ?_
  refine x_seq ?_
  refine x_seq ?_
  refine x_region ?_
  refine r1 rfl (p_fld runUnderlying28 rfl sizeOf3 (by decide) rfl rfl) ?_
  refine r1 rfl (p_ld isAgg3 rfl (l1.get rfl)) ?_
  refine r1 rfl (p_lss rfl rfl) ?_
  refine r1 rfl (p_mv rfl) ?_
  apply o_or 4 (dj := 7) (d := 11) rfl
  · intro hg1_4
    refine r1h rfl rfl rfl hg1_4 (p_fld runUnderlying28 rfl sizeOf3 (by decide) rfl rfl) ?_
    refine r1h rfl rfl rfl hg1_4 (p_ld isAgg3 rfl (l1.get rfl)) ?_
    refine r1h rfl rfl rfl hg1_4 (p_gtr rfl rfl) ?_
    refine r1 rfl (p_pickf hg1_4 rfl rfl rfl) ?_
    exact o_nil ⟨rfl, rfl, by repeat (first | exact le_r _ | refine le_c rfl ?_)⟩
  · intro hg1_4
    refine o1n rfl rfl rfl hg1_4 ?_
    refine o1n rfl rfl rfl hg1_4 ?_
    refine o1n rfl rfl rfl hg1_4 ?_
    refine r1 rfl (p_pickt hg1_4 rfl rfl rfl) ?_
    exact o_nil ⟨rfl, rfl, by repeat (first | exact le_r _ | refine le_c rfl ?_)⟩
  refine r1 rfl (p_mv rfl) ?_
  apply o_or 4 (dj := 12) (d := 16) rfl
  · intro hg1_9
    refine r1h rfl rfl rfl hg1_9 (p_fld runUnderlying28 rfl sizeOf3 (by decide) rfl rfl) ?_
    refine r1h rfl rfl rfl hg1_9 (p_ld isAgg3 rfl (l1.get rfl)) ?_
    refine r1h rfl rfl rfl hg1_9 (p_lss rfl rfl) ?_
    refine r1 rfl (p_pickf hg1_9 rfl rfl rfl) ?_
    exact o_nil ⟨rfl, rfl, by repeat (first | exact le_r _ | refine le_c rfl ?_)⟩
  · intro hg1_9
    refine o1n rfl rfl rfl hg1_9 ?_
    refine o1n rfl rfl rfl hg1_9 ?_
    refine o1n rfl rfl rfl hg1_9 ?_
    refine r1 rfl (p_pickt hg1_9 rfl rfl rfl) ?_
    exact o_nil ⟨rfl, rfl, by repeat (first | exact le_r _ | refine le_c rfl ?_)⟩
  refine r1 rfl (p_mv rfl) ?_
  apply o_or 4 (dj := 17) (d := 21) rfl
  · intro hg1_14
    refine r1h rfl rfl rfl hg1_14 (p_fld runUnderlying28 rfl sizeOf3 (by decide) rfl rfl) ?_
    refine r1h rfl rfl rfl hg1_14 (p_ld isAgg3 rfl (l1.get rfl)) ?_
    refine r1h rfl rfl rfl hg1_14 (p_gtr rfl rfl) ?_
    refine r1 rfl (p_pickf hg1_14 rfl rfl rfl) ?_
    exact o_nil ⟨rfl, rfl, by repeat (first | exact le_r _ | refine le_c rfl ?_)⟩
  · intro hg1_14
    refine o1n rfl rfl rfl hg1_14 ?_
    refine o1n rfl rfl rfl hg1_14 ?_
    refine o1n rfl rfl rfl hg1_14 ?_
    refine r1 rfl (p_pickt hg1_14 rfl rfl rfl) ?_
    exact o_nil ⟨rfl, rfl, by repeat (first | exact le_r _ | refine le_c rfl ?_)⟩
  refine r1 rfl (p_mv rfl) ?_
  apply o_or 4 (dj := 22) (d := 26) rfl
  · intro hg1_19
    refine r1h rfl rfl rfl hg1_19 (p_fld runUnderlying28 rfl sizeOf3 (by decide) rfl rfl) ?_
    refine r1h rfl rfl rfl hg1_19 (p_ld isAgg3 rfl (l1.get rfl)) ?_
    refine r1h rfl rfl rfl hg1_19 (p_lss rfl rfl) ?_
    refine r1 rfl (p_pickf hg1_19 rfl rfl rfl) ?_
    exact o_nil ⟨rfl, rfl, by repeat (first | exact le_r _ | refine le_c rfl ?_)⟩
  · intro hg1_19
    refine o1n rfl rfl rfl hg1_19 ?_
    refine o1n rfl rfl rfl hg1_19 ?_
    refine o1n rfl rfl rfl hg1_19 ?_
    refine r1 rfl (p_pickt hg1_19 rfl rfl rfl) ?_
    exact o_nil ⟨rfl, rfl, by repeat (first | exact le_r _ | refine le_c rfl ?_)⟩
  refine r1 rfl (p_mv rfl) ?_
  apply o_or 4 (dj := 27) (d := 31) rfl
  · intro hg1_24
    refine r1h rfl rfl rfl hg1_24 (p_fld runUnderlying28 rfl sizeOf3 (by decide) rfl rfl) ?_
    refine r1h rfl rfl rfl hg1_24 (p_ld isAgg3 rfl (l1.get rfl)) ?_
    refine r1h rfl rfl rfl hg1_24 (p_gtr rfl rfl) ?_
    refine r1 rfl (p_pickf hg1_24 rfl rfl rfl) ?_
    exact o_nil ⟨rfl, rfl, by repeat (first | exact le_r _ | refine le_c rfl ?_)⟩
  · intro hg1_24
    refine o1n rfl rfl rfl hg1_24 ?_
    refine o1n rfl rfl rfl hg1_24 ?_
    refine o1n rfl rfl rfl hg1_24 ?_
    refine r1 rfl (p_pickt hg1_24 rfl rfl rfl) ?_
    exact o_nil ⟨rfl, rfl, by repeat (first | exact le_r _ | refine le_c rfl ?_)⟩
  refine o_nil ?_
  refine x_cond rfl (fun h1 => ?_) (fun h1 => ?_)
  · skip
    have h1' : p.br < 0 ∨ 13 < p.br ∨ p.con < 0 ∨ 3 < p.con ∨ p.ea < 0 ∨ 3 < p.ea := by simpa [or_assoc] using h1
    rw [codeF, if_pos h1']
    refine x_seq ?_
    refine x_region ?_
    refine r1 rfl (p_as rfl) ?_
    refine o_nil ?_
    refine x_ret (fin1 rfl ?_)
    exact ⟨rfl, x0⟩
  · skip
    have h1' : ¬ (p.br < 0 ∨ 13 < p.br ∨ p.con < 0 ∨ 3 < p.con ∨ p.ea < 0 ∨ 3 < p.ea) := by have := h1; simp at this; omega
    rw [codeF, if_neg h1']
    refine x_skip ?_
    refine x_seq ?_
    refine x_region ?_
    refine r1 rfl (p_fld runUnderlying28 rfl sizeOf3 (by decide) rfl rfl) ?_
    refine r1 rfl (p_ld isAgg3 rfl (l1.get rfl)) ?_
    refine r1 rfl (p_fld runUnderlying28 rfl sizeOf3 (by decide) rfl rfl) ?_
    refine r1 rfl (p_ld isAgg3 rfl (l1.get rfl)) ?_
    refine r1 rfl (p_mul64 rfl rfl (by omega)) ?_
    refine r1 rfl (p_add64 rfl rfl (by omega)) ?_
    refine r1 rfl (p_fld runUnderlying28 rfl sizeOf3 (by decide) rfl rfl) ?_
    refine r1 rfl (p_ld isAgg3 rfl (l1.get rfl)) ?_
    refine r1 rfl (p_mul64 rfl rfl (by omega)) ?_
    refine r1 rfl (p_add64 rfl rfl (by omega)) ?_
    refine r1 rfl (p_as rfl) ?_
    refine o_nil ?_
    refine x_seq ?_
    refine x_seq ?_
    refine x_region ?_
    refine r1 rfl (p_fld runUnderlying28 rfl sizeOf4 (by decide) rfl rfl) ?_
    refine r1 rfl (p_ld isAgg4 rfl (l1.get rfl)) ?_
    refine o_nil ?_
    refine x_cond rfl (fun h2 => ?_) (fun h2 => ?_)
    · skip
      have h2 : p.pic = true := h2
      rw [h2]
      refine x_region ?_
      refine r1 rfl (p_mv rfl) ?_
      refine r1 rfl (p_add64 rfl rfl (by omega)) ?_
      refine r1 rfl (p_as rfl) ?_
      refine o_nil ?_
      refine x_seq ?_
      refine x_region ?_
      refine r1 rfl (p_mv rfl) ?_
      refine r1 rfl (p_as rfl) ?_
      refine o_nil ?_
      refine x_ret (fin1 rfl ?_)
      exact ⟨rfl, x0⟩
    · skip
      have h2 : p.pic = false := h2
      rw [h2]
      refine x_skip ?_
      refine x_seq ?_
      refine x_region ?_
      refine r1 rfl (p_mv rfl) ?_
      refine r1 rfl (p_as rfl) ?_
      refine o_nil ?_
      refine x_ret (fin1 rfl ?_)
      refine ⟨?_, x0⟩
      simp

theorem c4 (h : Hp) : C prog 4 [] h fun v h' => v = .bool true ∧ Ext h h' := by
  refine enter func4 rfl ntmps4 results4 rfl rfl ?_
  refine x_seq ?_
  refine x_region ?_
  refine r1 rfl (p_as rfl) ?_
  refine o_nil ?_
  refine x_seq ?_
  refine x_region ?_
  refine o1 rfl (s_call call10 rfl (c10 _ _ (by unfold B32; decide)) ?_)
  rintro v1 hh1 ⟨rfl, x1⟩
  have x0 := (x1 : Ext _ _)
  refine o1 rfl (s_call call9 rfl (c9 _ _) ?_)
  rintro v2 hh2 ⟨rfl, x2⟩
  have x0 := x0.tr (x2)
  refine r1 rfl (p_eql rfl rfl) ?_
  refine r1 rfl (p_mv rfl) ?_
  apply o_andx 4 (dj := 4) (d := 8) rfl
  · intro hg1_4
    have ghg1_4 := Ext.refl hh2
    refine o1h rfl rfl rfl hg1_4 (s_call call10 rfl (c10 _ _ (by unfold B32; decide)) ?_)
    rintro v3 hh3 ⟨rfl, x3⟩
    have x0 := x0.tr (x3)
    have ghg1_4 := ghg1_4.trans (x3)
    refine o1h rfl rfl rfl hg1_4 (s_call call9 rfl (c9 _ _) ?_)
    rintro v4 hh4 ⟨rfl, x4⟩
    have x0 := x0.tr (x4)
    have ghg1_4 := ghg1_4.trans (x4)
    refine r1h rfl rfl rfl hg1_4 (p_eql rfl rfl) ?_
    refine r1 rfl (p_pickt hg1_4 rfl rfl rfl) ?_
    exact o_nil ⟨rfl, ghg1_4, by repeat (first | exact le_r _ | refine le_c rfl ?_)⟩
  · intro hg1_4
    have ghg1_4 := Ext.refl hh2
    refine o1n rfl rfl rfl hg1_4 ?_
    refine o1n rfl rfl rfl hg1_4 ?_
    refine o1n rfl rfl rfl hg1_4 ?_
    refine r1 rfl (p_pickf hg1_4 rfl rfl rfl) ?_
    exact o_nil ⟨rfl, ghg1_4, by repeat (first | exact le_r _ | refine le_c rfl ?_)⟩
  intro hx5 xx5
  have x0 := x0.tr (xx5)
  refine r1 rfl (p_mv rfl) ?_
  apply o_andx 4 (dj := 9) (d := 13) rfl
  · intro hg1_9
    have ghg1_9 := Ext.refl hx5
    refine o1h rfl rfl rfl hg1_9 (s_call call11 rfl (c11 _ _) ?_)
    rintro v6 hh6 ⟨rfl, x6⟩
    have x0 := x0.tr (x6)
    have ghg1_9 := ghg1_9.trans (x6)
    refine r1h rfl rfl rfl hg1_9 (p_bs runUnderlying28 zeroValue28 pl28 rfl) ?_
    show O _ _ _ _ ((_, .agg #[_, _, _, _]) :: _) _ _
    refine r1h rfl rfl rfl hg1_9 (p_eqls eqGuardType28 (heq28 _ _ _ _ _ _ _ _) rfl rfl) ?_
    refine r1 rfl (p_pickt hg1_9 rfl rfl rfl) ?_
    exact o_nil ⟨rfl, ghg1_9, by repeat (first | exact le_r _ | refine le_c rfl ?_)⟩
  · intro hg1_9
    have ghg1_9 := Ext.refl hx5
    refine o1n rfl rfl rfl hg1_9 ?_
    refine o1n rfl rfl rfl hg1_9 ?_
    refine o1n rfl rfl rfl hg1_9 ?_
    refine r1 rfl (p_pickf hg1_9 rfl rfl rfl) ?_
    exact o_nil ⟨rfl, ghg1_9, by repeat (first | exact le_r _ | refine le_c rfl ?_)⟩
  intro hx7 xx7
  have x0 := x0.tr (xx7)
  refine r1 rfl (p_as rfl) ?_
  refine o_nil ?_
  refine x_ret (fin1 rfl ?_)
  refine ⟨?_, x0⟩
  congr 1
end Go.Proofs
