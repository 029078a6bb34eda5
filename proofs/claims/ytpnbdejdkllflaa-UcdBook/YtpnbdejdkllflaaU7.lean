import Derived.Test.YtpnbdejdkllflaaU6
import Derived.Test.YtpnbdejdkllflaaG3
set_option linter.unusedVariables false
namespace Go.Proofs
open Go.Lx Try

/-- Is a list of spans right, behind a number? -/
def rgt : Int → List Sp → Bool
  | _, [] => true
  | last, s :: r => if s.lo ≤ last ∨ s.hi < s.lo ∨ 1114111 < s.hi ∨ s.val < 1 ∨ 65535 < s.val then false else rgt s.hi r

theorem c31 (a : Option Addr) (cap : Nat) (l : List Sp) (h : Hp) (hl : Rd 3 eSp h a l) (hlen : l.length ≤ 1000000000) :
    C prog 31 [.slice a l.length cap] h fun v h' => v = .bool (rgt (-1) l) ∧ Ext h h' := by
  refine enter func31 rfl ntmps31 results31 rfl rfl ?_
  refine x_seq ?_
  refine x_region ?_
  refine r1 rfl (p_as rfl) ?_
  refine o_nil ?_
  refine x_seq ?_
  refine x_region ?_
  refine r1 rfl (p_as rfl) ?_
  refine o_nil ?_
  refine x_seq ?_
  refine x_seq ?_
  refine x_region ?_
  refine r1 rfl (p_mv rfl) ?_
  refine r1 rfl (p_len runUnderlying33 rfl) ?_
  refine r1 rfl (p_mv rfl) ?_
  refine o_nil ?_
  refine x_block ?_
  refine x_loope (σ := Nat × Int) (fun s E0 => (3, .int .i64 s.2) :: (8, .int .i64 (s.1 : Int)) :: E0) [(6, _), (7, _)] (fun s h' => Ext h h' ∧ s.1 ≤ l.length ∧ rgt s.2 (l.drop s.1) = rgt (-1) l) (fun s => l.length - s.1) ((0, -1)) ⟨rfl, rfl, rfl, rfl, trivial⟩ ?_ ?_
  · exact ⟨Ext.refl _, by omega, by simp⟩
  rintro ⟨i, last⟩ h' ⟨x0, hi, hinv⟩
  dsimp only at hi hinv
  refine x_seq ?_
  refine x_region ?_
  refine r1 rfl (p_lss rfl rfl) ?_
  refine o_nil ?_
  refine x_seq ?_
  refine x_cond rfl (fun hc => ?_) (fun hc => ?_)
  · skip
    have hlt : i < l.length := by have := of_decide_eq_true hc; omega
    have hl := hl.lift x0
    have hx : l[i]? = some l[i] := by simp [hlt]
    have hd : l.drop i = l[i] :: l.drop (i + 1) := by simp
    rw [hd, rgt] at hinv
    refine x_skip ?_
    refine x_seq ?_
    refine x_block ?_
    refine x_seq ?_
    refine x_region ?_
    refine r1 rfl (p_idx runUnderlying33 sizeOf52 rfl rfl (by omega) (hl.is' hlt)) ?_
    refine r1 rfl (p_lda isAgg52 rfl (hl.cel _ _ hx) sizeOf52) ?_
    refine o1 rfl (s_al zeroValue52 rfl ?_)
    intro b5 hb5 n5
    have g5 : _ ≤ b5 := n5.ge x0
    have x0 := x0.tr (n5.ext)
    have l5 := n5.bl
    refine o0 (s_sta rfl rfl sizeOf52 rfl l5 rfl ?_)
    intro hh1 u1
    have x0 := x0.upd u1 g5
    have l5 := u1.bl
    refine o_nil ?_
    refine x_seq ?_
    refine x_seq ?_
    refine x_region ?_
    refine r1 rfl (p_fld runUnderlying52 rfl sizeOf3 (by decide) rfl rfl) ?_
    refine r1 rfl (p_ld isAgg3 rfl (l5.get rfl)) ?_
    refine r1 rfl (p_mv rfl) ?_
    refine r1 rfl (p_leq rfl rfl) ?_
    refine r1 rfl (p_mv rfl) ?_
    apply o_or 6 (dj := 16) (d := 22) rfl
    · intro hg5_5
      refine r1h rfl rfl rfl hg5_5 (p_fld runUnderlying52 rfl sizeOf3 (by decide) rfl rfl) ?_
      refine r1h rfl rfl rfl hg5_5 (p_ld isAgg3 rfl (l5.get rfl)) ?_
      refine r1h rfl rfl rfl hg5_5 (p_fld runUnderlying52 rfl sizeOf3 (by decide) rfl rfl) ?_
      refine r1h rfl rfl rfl hg5_5 (p_ld isAgg3 rfl (l5.get rfl)) ?_
      refine r1h rfl rfl rfl hg5_5 (p_lss rfl rfl) ?_
      refine r1 rfl (p_pickf hg5_5 rfl rfl rfl) ?_
      exact o_nil ⟨rfl, rfl, by repeat (first | exact le_r _ | refine le_c rfl ?_)⟩
    · intro hg5_5
      refine o1n rfl rfl rfl hg5_5 ?_
      refine o1n rfl rfl rfl hg5_5 ?_
      refine o1n rfl rfl rfl hg5_5 ?_
      refine o1n rfl rfl rfl hg5_5 ?_
      refine o1n rfl rfl rfl hg5_5 ?_
      refine r1 rfl (p_pickt hg5_5 rfl rfl rfl) ?_
      exact o_nil ⟨rfl, rfl, by repeat (first | exact le_r _ | refine le_c rfl ?_)⟩
    refine r1 rfl (p_mv rfl) ?_
    apply o_or 4 (dj := 23) (d := 27) rfl
    · intro hg5_12
      refine r1h rfl rfl rfl hg5_12 (p_fld runUnderlying52 rfl sizeOf3 (by decide) rfl rfl) ?_
      refine r1h rfl rfl rfl hg5_12 (p_ld isAgg3 rfl (l5.get rfl)) ?_
      refine r1h rfl rfl rfl hg5_12 (p_gtr rfl rfl) ?_
      refine r1 rfl (p_pickf hg5_12 rfl rfl rfl) ?_
      exact o_nil ⟨rfl, rfl, by repeat (first | exact le_r _ | refine le_c rfl ?_)⟩
    · intro hg5_12
      refine o1n rfl rfl rfl hg5_12 ?_
      refine o1n rfl rfl rfl hg5_12 ?_
      refine o1n rfl rfl rfl hg5_12 ?_
      refine r1 rfl (p_pickt hg5_12 rfl rfl rfl) ?_
      exact o_nil ⟨rfl, rfl, by repeat (first | exact le_r _ | refine le_c rfl ?_)⟩
    refine r1 rfl (p_mv rfl) ?_
    apply o_or 4 (dj := 28) (d := 32) rfl
    · intro hg5_17
      refine r1h rfl rfl rfl hg5_17 (p_fld runUnderlying52 rfl sizeOf3 (by decide) rfl rfl) ?_
      refine r1h rfl rfl rfl hg5_17 (p_ld isAgg3 rfl (l5.get rfl)) ?_
      refine r1h rfl rfl rfl hg5_17 (p_lss rfl rfl) ?_
      refine r1 rfl (p_pickf hg5_17 rfl rfl rfl) ?_
      exact o_nil ⟨rfl, rfl, by repeat (first | exact le_r _ | refine le_c rfl ?_)⟩
    · intro hg5_17
      refine o1n rfl rfl rfl hg5_17 ?_
      refine o1n rfl rfl rfl hg5_17 ?_
      refine o1n rfl rfl rfl hg5_17 ?_
      refine r1 rfl (p_pickt hg5_17 rfl rfl rfl) ?_
      exact o_nil ⟨rfl, rfl, by repeat (first | exact le_r _ | refine le_c rfl ?_)⟩
    refine r1 rfl (p_mv rfl) ?_
    apply o_or 4 (dj := 33) (d := 37) rfl
    · intro hg5_22
      refine r1h rfl rfl rfl hg5_22 (p_fld runUnderlying52 rfl sizeOf3 (by decide) rfl rfl) ?_
      refine r1h rfl rfl rfl hg5_22 (p_ld isAgg3 rfl (l5.get rfl)) ?_
      refine r1h rfl rfl rfl hg5_22 (p_gtr rfl rfl) ?_
      refine r1 rfl (p_pickf hg5_22 rfl rfl rfl) ?_
      exact o_nil ⟨rfl, rfl, by repeat (first | exact le_r _ | refine le_c rfl ?_)⟩
    · intro hg5_22
      refine o1n rfl rfl rfl hg5_22 ?_
      refine o1n rfl rfl rfl hg5_22 ?_
      refine o1n rfl rfl rfl hg5_22 ?_
      refine r1 rfl (p_pickt hg5_22 rfl rfl rfl) ?_
      exact o_nil ⟨rfl, rfl, by repeat (first | exact le_r _ | refine le_c rfl ?_)⟩
    refine o_nil ?_
    refine x_cond rfl (fun h1 => ?_) (fun h1 => ?_)
    · skip
      have h1' : l[i].lo ≤ last ∨ l[i].hi < l[i].lo ∨ 1114111 < l[i].hi ∨ l[i].val < 1 ∨ 65535 < l[i].val := by simpa [or_assoc] using h1
      rw [if_pos h1'] at hinv
      refine x_seq ?_
      refine x_region ?_
      refine r1 rfl (p_as rfl) ?_
      refine o_nil ?_
      refine x_ret (fin1 rfl ?_)
      exact ⟨by rw [← hinv], x0⟩
    · skip
      have h1' : ¬ (l[i].lo ≤ last ∨ l[i].hi < l[i].lo ∨ 1114111 < l[i].hi ∨ l[i].val < 1 ∨ 65535 < l[i].val) := by have := h1; simp at this; omega
      rw [if_neg h1'] at hinv
      refine x_skip ?_
      refine x_region ?_
      refine r1 rfl (p_fld runUnderlying52 rfl sizeOf3 (by decide) rfl rfl) ?_
      refine r1 rfl (p_ld isAgg3 rfl (l5.get rfl)) ?_
      refine r1 rfl (p_as rfl) ?_
      refine o_nil ?_
      refine x_region ?_
      refine r1 rfl (p_add64 rfl rfl (by omega)) ?_
      refine r1 rfl (p_mv rfl) ?_
      refine o_nil ?_
      refine ⟨(i + 1, l[i].hi), ⟨rfl, rfl, rfl, rfl, trivial⟩, ?_, ?_⟩
      · exact ⟨x0, by dsimp only; omega, hinv⟩
      · dsimp only; omega
  · skip
    have hlt : i = l.length := by have := of_decide_eq_false hc; omega
    subst hlt
    rw [List.drop_length, rgt] at hinv
    refine x_exit ?_
    refine x_seq ?_
    refine x_region ?_
    refine r1 rfl (p_as rfl) ?_
    refine o_nil ?_
    refine x_ret (fin1 rfl ?_)
    exact ⟨by rw [← hinv], x0⟩

/-- A span laid behind others. -/
def layF (l : List Sp) (s : Sp) : List Sp := match l.getLast? with
  | some t => if t.val = s.val ∧ t.hi = s.lo - 1 then l.set (l.length - 1) ⟨t.lo, s.hi, t.val⟩ else l ++ [s]
  | none => l ++ [s]
theorem layF_some {l : List Sp} {s : Sp} (i : Nat) (hi : i + 1 = l.length) (h : (l[i]'(by omega)).val = s.val ∧ (l[i]'(by omega)).hi = s.lo - 1) : layF l s = l.set i ⟨(l[i]'(by omega)).lo, s.hi, (l[i]'(by omega)).val⟩ := by
  have e : l.getLast? = some (l[i]'(by omega)) := by
    rw [List.getLast?_eq_getElem?]
    have : l.length - 1 = i := by omega
    rw [this]; simp
  unfold layF
  rw [e]
  simp only
  rw [if_pos h]
  congr 1
  omega
theorem layF_none {l : List Sp} {s : Sp} (h : ∀ i (hi : i + 1 = l.length), ¬ ((l[i]'(by omega)).val = s.val ∧ (l[i]'(by omega)).hi = s.lo - 1)) : layF l s = l ++ [s] := by
  unfold layF
  cases hl : l.getLast? with
  | none => rfl
  | some t =>
    simp only
    rw [List.getLast?_eq_getElem?] at hl
    have hlt : l.length - 1 < l.length := by
      rcases Nat.lt_or_ge (l.length - 1) l.length with k | k
      · exact k
      · rw [List.getElem?_eq_none k] at hl; cases hl
    have := h (l.length - 1) (by omega)
    simp only [List.getElem?_eq_getElem hlt, Option.some.injEq] at hl
    rw [hl] at this
    rw [if_neg this]

theorem c34 (B : Nat) (a : Option Addr) (cap : Nat) (l : List Sp) (s : Sp) (h : Hp) (ow : Ow B 52 3 eSp h a cap l) (hB : B ≤ h.size) (hlen : l.length ≤ 900000000) (hs : -1000000000 ≤ s.lo ∧ s.lo ≤ 1000000000) :
    C prog 34 [.slice a l.length cap, .agg #[.int .i64 s.lo, .int .i64 s.hi, .int .i64 s.val]] h fun v h' => ∃ a' cap', v = .slice a' (layF l s).length cap' ∧ Ow B 52 3 eSp h' a' cap' (layF l s) ∧ Kp (At a) h h' := by
  refine enter func34 rfl ntmps34 results34 rfl rfl ?_
  have hl := ow.rd leneSp
  refine x_seq ?_
  refine x_region ?_
  refine o1 rfl (s_box rfl rfl ?_)
  intro b3 hb3 n3
  have g3 : _ ≤ b3 := n3.ge (Ext.refl _)
  have nf_hl_3 := hl.nin n3
  have nf_ow_3 := ow.nin n3
  have x0 := (n3.ext : Ext _ _)
  have hl := hl.lift (n3.ext)
  have ow := ow.lift (n3.ext)
  have l3 := n3.bl
  refine r1 rfl (p_as rfl) ?_
  refine o_nil ?_
  refine x_seq ?_
  refine x_seq ?_
  refine x_region ?_
  refine r1 rfl (p_mv rfl) ?_
  refine r1 rfl (p_len runUnderlying33 rfl) ?_
  refine r1 rfl (p_sub64 rfl rfl (by omega)) ?_
  refine r1 rfl (p_as rfl) ?_
  refine o_nil ?_
  refine x_seq ?_
  have hk : ∀ i : Nat, i + 1 = l.length → ((l.length : Int) - 1).toNat = i := fun i hi => by omega
  refine x_regt (by kernel_rfl) (by kernel_rfl) ?_
  refine t1 rfl (p_mv rfl) ?_
  refine t1 rfl (p_geq rfl rfl) ?_
  refine t1 rfl (p_mv rfl) ?_
  apply t_and 9 (dj := 11) (d := 20) rfl
  · intro hg2_3
    refine t1h rfl rfl rfl hg2_3 (p_mv rfl) ?_
    refine t1h rfl rfl rfl hg2_3 (p_mv rfl) ?_
    refine t1h rfl rfl rfl hg2_3 (p_idx runUnderlying33 sizeOf52 rfl rfl (by have := of_decide_eq_true hg2_3; omega) (hl.isi (i := (l.length : Int) - 1) (of_decide_eq_true hg2_3) (by omega))) ?_
    refine t1h rfl rfl rfl hg2_3 (p_fld runUnderlying52 rfl sizeOf3 (by decide) rfl rfl) ?_
    refine t1h rfl rfl rfl hg2_3 (p_ld isAgg3 rfl (hl.ati (of_decide_eq_true hg2_3) (by omega) (j := 2) rfl)) ?_
    refine t1h rfl rfl rfl hg2_3 (p_fld runUnderlying52 rfl sizeOf3 (by decide) rfl rfl) ?_
    refine t1h rfl rfl rfl hg2_3 (p_ld isAgg3 rfl (l3.get rfl)) ?_
    refine t1h rfl rfl rfl hg2_3 (p_eql rfl rfl) ?_
    refine t1 rfl (p_pickt hg2_3 rfl rfl rfl) ?_
    exact t_nil ⟨rfl, by repeat (first | exact le_r _ | refine le_c rfl ?_)⟩
  · intro hg2_3
    refine t1n rfl rfl rfl hg2_3 ?_
    refine t1n rfl rfl rfl hg2_3 ?_
    refine t1n rfl rfl rfl hg2_3 ?_
    refine t1n rfl rfl rfl hg2_3 ?_
    refine t1n rfl rfl rfl hg2_3 ?_
    refine t1n rfl rfl rfl hg2_3 ?_
    refine t1n rfl rfl rfl hg2_3 ?_
    refine t1n rfl rfl rfl hg2_3 ?_
    refine t1 rfl (p_pickf hg2_3 rfl rfl rfl) ?_
    exact t_nil ⟨rfl, by repeat (first | exact le_r _ | refine le_c rfl ?_)⟩
  refine t1 rfl (p_mv rfl) ?_
  apply t_and 10 (dj := 21) (d := 31) rfl
  · intro hg2_13
    refine t1h rfl rfl rfl hg2_13 (p_mv rfl) ?_
    refine t1h rfl rfl rfl hg2_13 (p_mv rfl) ?_
    refine t1h rfl rfl rfl hg2_13 (p_idx runUnderlying33 sizeOf52 rfl rfl (by simp at hg2_13; omega) (hl.isi (i := (l.length : Int) - 1) (by simp at hg2_13; omega) (by omega))) ?_
    refine t1h rfl rfl rfl hg2_13 (p_fld runUnderlying52 rfl sizeOf3 (by decide) rfl rfl) ?_
    refine t1h rfl rfl rfl hg2_13 (p_ld isAgg3 rfl (hl.ati (by simp at hg2_13; omega) (by omega) (j := 1) rfl)) ?_
    refine t1h rfl rfl rfl hg2_13 (p_fld runUnderlying52 rfl sizeOf3 (by decide) rfl rfl) ?_
    refine t1h rfl rfl rfl hg2_13 (p_ld isAgg3 rfl (l3.get rfl)) ?_
    refine t1h rfl rfl rfl hg2_13 (p_sub64 rfl rfl (by omega)) ?_
    refine t1h rfl rfl rfl hg2_13 (p_eql rfl rfl) ?_
    refine t1 rfl (p_pickt hg2_13 rfl rfl rfl) ?_
    exact t_nil ⟨rfl, by repeat (first | exact le_r _ | refine le_c rfl ?_)⟩
  · intro hg2_13
    refine t1n rfl rfl rfl hg2_13 ?_
    refine t1n rfl rfl rfl hg2_13 ?_
    refine t1n rfl rfl rfl hg2_13 ?_
    refine t1n rfl rfl rfl hg2_13 ?_
    refine t1n rfl rfl rfl hg2_13 ?_
    refine t1n rfl rfl rfl hg2_13 ?_
    refine t1n rfl rfl rfl hg2_13 ?_
    refine t1n rfl rfl rfl hg2_13 ?_
    refine t1n rfl rfl rfl hg2_13 ?_
    refine t1 rfl (p_pickf hg2_13 rfl rfl rfl) ?_
    exact t_nil ⟨rfl, by repeat (first | exact le_r _ | refine le_c rfl ?_)⟩
  refine t_nil ?_
  refine x_cond rfl (fun h1 => ?_) (fun h1 => ?_)
  · skip
    have h1' : (0 ≤ (l.length : Int) - 1 ∧ (gt l ((l.length : Int) - 1)).val = s.val) ∧ (gt l ((l.length : Int) - 1)).hi = s.lo - 1 := by simpa using h1
    obtain ⟨n, hn⟩ : ∃ n, n + 1 = l.length := ⟨l.length - 1, by omega⟩
    have hg : gt l ((l.length : Int) - 1) = l[n] := by simp [gt, hk n hn, (by omega : n < l.length)]
    rw [hg] at h1'
    refine x_seq ?_
    refine x_region ?_
    refine r1 rfl (p_mv rfl) ?_
    refine r1 rfl (p_mv rfl) ?_
    refine r1 rfl (p_fld runUnderlying52 rfl sizeOf3 (by decide) rfl rfl) ?_
    refine r1 rfl (p_ld isAgg3 rfl (l3.get rfl)) ?_
    refine r1 rfl (p_idx runUnderlying33 sizeOf52 rfl rfl (by omega) (hl.is' (i := n) (by omega))) ?_
    refine r1 rfl (p_fld runUnderlying52 rfl sizeOf3 (by decide) rfl rfl) ?_
    refine o0 (s_stow (i := n) (j := 1) sizeOf3 (by show some (Value.pointer (some ⟨bk a, of a + ((l.length : Int) - 1).toNat * 3 + 1, none⟩)) = _; rw [hk n hn]) rfl rfl ow (by omega) (by decide) ⟨l[n].lo, s.hi, l[n].val⟩ rfl leneSp ?_)
    intro h9 w9 k9
    have x9 : Kp (At a) h h9 := (Kp.of_ext x0).trans k9
    refine o_nil ?_
    refine x_seq ?_
    refine x_region ?_
    refine r1 rfl (p_mv rfl) ?_
    refine r1 rfl (p_as rfl) ?_
    refine o_nil ?_
    refine x_ret (fin1 rfl ?_)
    rw [layF_some n hn ⟨h1'.1.2, h1'.2⟩]
    exact ⟨a, cap, by simp, w9, x9⟩
  · skip
    have h1' : layF l s = l ++ [s] := by
      apply layF_none
      rintro n hn ⟨e1, e2⟩
      have hg : gt l ((l.length : Int) - 1) = l[n] := by simp [gt, hk n hn, (by omega : n < l.length)]
      have h2 : (decide (0 ≤ (l.length : Int) - 1) && decide ((gt l ((l.length : Int) - 1)).val = s.val) && decide ((gt l ((l.length : Int) - 1)).hi = s.lo - 1)) = false := h1
      rw [hg] at h2
      simp [e1, e2] at h2
      omega
    refine x_skip ?_
    refine x_seq ?_
    refine x_region ?_
    refine r1 rfl (p_mv rfl) ?_
    refine r1 rfl (p_lda isAgg52 rfl (l3.gets rfl) sizeOf52) ?_
    refine o1 rfl (s_bsl runUnderlying33 sizeOf52 zeroValue52 rfl (by decide) (by decide) rfl rfl ?_)
    intro b41 hb41 n41
    have g41 : _ ≤ b41 := n41.ge x0
    have ne41_3 : b41 ≠ b3 := n41.ne l3
    have nf_hl_41 := hl.nin n41
    have nf_ow_41 := ow.nin n41
    have x0 := x0.tr (n41.ext)
    have l3 := l3.lift (n41.ext)
    have hl := hl.lift (n41.ext)
    have ow := ow.lift (n41.ext)
    have l41 := n41.bl
    have w41 := n41.ow (B := 0) (Nat.zero_le _) [s] rfl leneSp
    refine o1 rfl (s_app runUnderlying33 runUnderlying33 sizeOf52 typeInfo52 zeroValue52 rfl rfl rfl leneSp oneeSp rfl rfl ow (w41.rd leneSp) (Nat.le_trans hB (Kp.size x0)) (by simp; omega) ?_)
    intro a42 c42 ha42 w42 k42
    refine r1 rfl (p_as rfl) ?_
    refine o_nil ?_
    refine x_ret (fin1 rfl ?_)
    rw [h1']
    exact ⟨_, _, rfl, w42, (Kp.of_ext x0).trans k42⟩

end Go.Proofs
