import Derived.Test.YtpnbdejdkllflaaU14
set_option linter.unusedVariables false
namespace Go.Proofs
open Go.Lx Try

def m1 (lo : Int) : List Sp → List Sp → List Sp × List Sp
  | [], o => (o, [])
  | x :: r, o => if x.hi < lo then m1 lo r (o ++ [x]) else (o, x :: r)
def m3 (s x : Sp) (f : Int) (o : List Sp) : List Sp := lay2 (lay2 (lay2 o x.lo (min x.hi (s.lo - 1)) x.val) f (x.lo - 1) s.val) (max x.lo f) (min x.hi s.hi) (s.val + x.val)
def m2 (s : Sp) : List Sp → Int → List Sp → List Sp × Int × List Sp
  | [], f, o => (o, f, [])
  | x :: r, f, o => if x.lo ≤ s.hi then (if s.hi < x.hi then (m3 s x f o, x.hi + 1, ⟨s.hi + 1, x.hi, x.val⟩ :: r) else m2 s r (x.hi + 1) (m3 s x f o)) else (o, f, x :: r)
def mfin (s : Sp) (t : List Sp × Int × List Sp) : List Sp × List Sp := (lay2 t.1 t.2.1 s.hi s.val, t.2.2)
def mstep (q : List Sp × List Sp) (s : Sp) : List Sp × List Sp := mfin s (m2 s (m1 s.lo q.2 q.1).2 s.lo (m1 s.lo q.2 q.1).1)
def mrg (a b : List Sp) : List Sp := (a.foldl mstep ([], b)).1 ++ (a.foldl mstep ([], b)).2
theorem lay2_len (l : List Sp) (a b c : Int) : (lay2 l a b c).length ≤ l.length + 1 := by
  unfold lay2; split
  · omega
  · simp
def Bd (x : Sp) : Prop := 0 ≤ x.lo ∧ x.lo ≤ 2000000 ∧ 0 ≤ x.hi ∧ x.hi ≤ 2000000 ∧ 0 ≤ x.val ∧ x.val ≤ 1000000
theorem drop_cons {α : Type} (l : List α) (i : Nat) (hi : i < l.length) : l.drop i = l[i] :: l.drop (i + 1) := by simp
theorem gt_nat {l : List Sp} {i : Nat} (hi : i < l.length) : gt l (i : Int) = l[i] := by simp [gt, hi]
theorem m1_stop {lo : Int} {Z o : List Sp} {at_ : Nat} (h : ¬ (at_ < Z.length ∧ (gt Z (at_ : Int)).hi < lo)) : m1 lo (Z.drop at_) o = (o, Z.drop at_) := by
  rcases Nat.lt_or_ge at_ Z.length with hl | hl
  · rw [drop_cons Z at_ hl, m1, if_neg]
    intro hh; exact h ⟨hl, by rw [gt_nat hl]; exact hh⟩
  · rw [List.drop_of_length_le hl]; rfl
theorem m2_stop {s : Sp} {f : Int} {Z o : List Sp} {at_ : Nat} (h : ¬ (at_ < Z.length ∧ (gt Z (at_ : Int)).lo ≤ s.hi)) : m2 s (Z.drop at_) f o = (o, f, Z.drop at_) := by
  rcases Nat.lt_or_ge at_ Z.length with hl | hl
  · rw [drop_cons Z at_ hl, m2, if_neg]
    intro hh; exact h ⟨hl, by rw [gt_nat hl]; exact hh⟩
  · rw [List.drop_of_length_le hl]; rfl
theorem fold_step (A b : List Sp) (i : Nat) (hi : i < A.length) {q : List Sp × List Sp} (h : (A.take i).foldl mstep ([], b) = q) : (A.take (i + 1)).foldl mstep ([], b) = mfin A[i] (m2 A[i] (m1 A[i].lo q.2 q.1).2 A[i].lo (m1 A[i].lo q.2 q.1).1) := by
  rw [take_snoc A i hi, List.foldl_append, h]
  rfl

theorem c18 (B : Nat) (aa ab : Option Addr) (ca cb : Nat) (A b : List Sp) (h : Hp) (hA : Rd 3 eSp h aa A) (hab : A ≠ [] → ¬ At ab (bk aa)) (owb : Ow B 52 3 eSp h ab cb b) (hlA : A.length ≤ 1000000) (hlb : b.length ≤ 1000000) (hbA : ∀ x ∈ A, Bd x) (hbb : ∀ x ∈ b, Bd x) :
    C prog 18 [.slice aa A.length ca, .slice ab b.length cb] h fun v h' => ∃ a' cap', v = .slice a' (mrg A b).length cap' ∧ Ow h.size 52 3 eSp h' a' cap' (mrg A b) ∧ Kp (At ab) h h' := by
  have hab0 : ab ≠ none → bk ab < h.size := fun hn => owb.lt hn
  refine enter func18 rfl ntmps18 results18 rfl rfl ?_
  refine x_seq ?_
  refine x_region ?_
  refine r1 rfl (p_as rfl) ?_
  refine o_nil ?_
  refine x_seq ?_
  refine x_region ?_
  refine r1 rfl (p_as rfl) ?_
  refine o_nil ?_
  refine x_seq ?_
  refine x_region ?_
  refine r1 rfl (p_as rfl) ?_
  refine o_nil ?_
  refine x_seq ?_
  refine x_seq ?_
  refine x_region ?_
  refine r1 rfl (p_mv rfl) ?_
  refine r1 rfl (p_len runUnderlying33 rfl) ?_
  refine r1 rfl (p_mv rfl) ?_
  refine o_nil ?_
  refine x_block ?_
  refine x_loope (σ := Nat × Nat × Option Addr × Nat × List Sp × List Sp) (fun st_ E0 => match st_ with | (i, at_, ao, co, o, Z) => (5, .slice ao o.length co) :: (6, .int .i64 (at_ : Int)) :: (13, .int .i64 (i : Int)) :: E0) [(1, _), (11, _), (12, _)] (fun st_ h' => match st_ with | (i, at_, ao, co, o, Z) => Kp (At ab) h h' ∧ i ≤ A.length ∧ at_ ≤ b.length ∧ Z.length = b.length ∧ Ow h.size 52 3 eSp h' ao co o ∧ Ow B 52 3 eSp h' ab cb Z ∧ (A.take i).foldl mstep ([], b) = (o, Z.drop at_) ∧ o.length + 3 * (b.length - at_) ≤ 3 * b.length + 4 * i ∧ (∀ x ∈ Z, Bd x)) (fun st_ => match st_ with | (i, at_, ao, co, o, Z) => A.length - i) ((0, 0, none, 0, [], b)) ⟨rfl, rfl, rfl, rfl, rfl, rfl, trivial⟩ ?_ ?_
  · exact ⟨Kp.refl _ _, by omega, by omega, rfl, Ow.nil, owb, by simp, by simp, hbb⟩
  rintro ⟨i, at_, ao, co, o, Z⟩ h' ⟨x0, hi, hat, hzl, ow, oz, hfold, hol, hbz⟩
  show X _ _ _ ((5, .slice ao o.length co) :: (6, .int .i64 (at_ : Int)) :: (13, .int .i64 (i : Int)) :: _) _ _
  have hl := hA.kp x0 hab
  refine x_seq ?_
  refine x_region ?_
  refine r1 rfl (p_lss rfl rfl) ?_
  refine o_nil ?_
  refine x_seq ?_
  refine x_cond rfl (fun hc => ?_) (fun hc => ?_)
  · skip
    have hlt : i < A.length := by have := of_decide_eq_true hc; omega
    have hx : A[i]? = some A[i] := by simp [hlt]
    have hbs := hbA A[i] (List.getElem_mem hlt)
    have hst := fold_step A b i hlt hfold
    unfold Bd at hbs
    generalize A[i] = s at *
    refine x_skip ?_
    refine x_seq ?_
    refine x_block ?_
    refine x_seq ?_
    refine x_region ?_
    refine r1 rfl (p_idx runUnderlying33 sizeOf52 rfl rfl (by omega) (hl.is' hlt)) ?_
    refine r1 rfl (p_lda isAgg52 rfl (hl.cel _ _ hx) sizeOf52) ?_
    refine o1 rfl (s_al zeroValue52 rfl ?_)
    intro b8 hb8 n8
    have g8 : _ ≤ b8 := n8.ge x0
    have nf_ow_8 := ow.nin n8
    have nf_oz_8 := oz.nin n8
    have x0 := x0.tr (n8.ext)
    have ow := ow.lift (n8.ext)
    have oz := oz.lift (n8.ext)
    have l8 := n8.bl
    refine o0 (s_sta rfl rfl sizeOf52 rfl l8 rfl ?_)
    intro hh1 u1
    have x0 := x0.upd u1 g8
    have l8 := u1.bl
    have ow := ow.updn u1 nf_ow_8
    have oz := oz.updn u1 nf_oz_8
    refine o_nil ?_
    refine x_seq ?_
    refine x_block ?_
    have hn8 : ao ≠ none → bk ao ≠ b8 := nf_ow_8
    obtain ⟨R, hR⟩ : ∃ R, m1 s.lo (Z.drop at_) o = R := ⟨_, rfl⟩
    rw [hR] at hst
    refine x_loope (σ := Nat × Option Addr × Nat × List Sp) (fun st_ E0 => match st_ with | (at_, ao, co, o) => (5, .slice ao o.length co) :: (6, .int .i64 (at_ : Int)) :: E0) [(1, _), (8, _), (11, _), (12, _), (13, _)] (fun st_ h' => match st_ with | (at_, ao, co, o) => Kp (At ab) h h' ∧ at_ ≤ b.length ∧ Ow h.size 52 3 eSp h' ao co o ∧ Ow B 52 3 eSp h' ab cb Z ∧ Bl h' b8 (eSp s) 52 ∧ (ao ≠ none → bk ao ≠ b8) ∧ m1 s.lo (Z.drop at_) o = R ∧ o.length + 3 * (b.length - at_) ≤ 3 * b.length + 4 * i) (fun st_ => match st_ with | (at_, ao, co, o) => b.length - at_) ((at_, ao, co, o)) ⟨rfl, rfl, rfl, rfl, rfl, rfl, rfl, trivial⟩ ?_ ?_
    · exact ⟨x0, hat, ow, oz, l8, hn8, hR, hol⟩
    rintro ⟨at_, ao, co, o⟩ h' ⟨x0, hat, ow, oz, l8, hn8, hR, hol⟩
    show X _ _ _ ((5, .slice ao o.length co) :: (6, .int .i64 (at_ : Int)) :: _) _ _
    have hZ := oz.rd leneSp
    refine x_seq ?_
    refine x_seq ?_
    refine x_regt (by kernel_rfl) (by kernel_rfl) ?_
    refine t1 rfl (p_mv rfl) ?_
    refine t1 rfl (p_mv rfl) ?_
    refine t1 rfl (p_len runUnderlying33 rfl) ?_
    refine t1 rfl (p_lss rfl rfl) ?_
    refine t1 rfl (p_mv rfl) ?_
    apply t_and 9 (dj := 21) (d := 30) rfl
    · intro hg6_5
      refine t1h rfl rfl rfl hg6_5 (p_mv rfl) ?_
      refine t1h rfl rfl rfl hg6_5 (p_mv rfl) ?_
      refine t1h rfl rfl rfl hg6_5 (p_idx runUnderlying33 sizeOf52 rfl rfl ⟨by omega, of_decide_eq_true hg6_5⟩ (hZ.isi (i := (at_ : Int)) (by omega) (by have := of_decide_eq_true hg6_5; omega))) ?_
      refine t1h rfl rfl rfl hg6_5 (p_fld runUnderlying52 rfl sizeOf3 (by decide) rfl rfl) ?_
      refine t1h rfl rfl rfl hg6_5 (p_ld isAgg3 rfl (hZ.ati (i := (at_ : Int)) (by omega) (by have := of_decide_eq_true hg6_5; omega) (j := 1) rfl)) ?_
      refine t1h rfl rfl rfl hg6_5 (p_fld runUnderlying52 rfl sizeOf3 (by decide) rfl rfl) ?_
      refine t1h rfl rfl rfl hg6_5 (p_ld isAgg3 rfl (l8.get rfl)) ?_
      refine t1h rfl rfl rfl hg6_5 (p_lss rfl rfl) ?_
      refine t1 rfl (p_pickt hg6_5 rfl rfl rfl) ?_
      exact t_nil ⟨rfl, by repeat (first | exact le_r _ | refine le_c rfl ?_)⟩
    · intro hg6_5
      refine t1n rfl rfl rfl hg6_5 ?_
      refine t1n rfl rfl rfl hg6_5 ?_
      refine t1n rfl rfl rfl hg6_5 ?_
      refine t1n rfl rfl rfl hg6_5 ?_
      refine t1n rfl rfl rfl hg6_5 ?_
      refine t1n rfl rfl rfl hg6_5 ?_
      refine t1n rfl rfl rfl hg6_5 ?_
      refine t1n rfl rfl rfl hg6_5 ?_
      refine t1 rfl (p_pickf hg6_5 rfl rfl rfl) ?_
      exact t_nil ⟨rfl, by repeat (first | exact le_r _ | refine le_c rfl ?_)⟩
    refine t_nil ?_
    refine x_cond rfl (fun h1 => ?_) (fun h1 => ?_)
    · skip
      have h1' : at_ < Z.length ∧ (gt Z (at_ : Int)).hi < s.lo := by have := h1; simp at this; omega
      have hxz : Z[at_]? = some Z[at_] := by simp
      have hd := drop_cons Z at_ h1'.1
      have h1g := h1'.2
      rw [gt_nat h1'.1] at h1g
      rw [hd] at hR
      generalize Z[at_]'h1'.1 = x at *
      rw [m1, if_pos h1g] at hR
      have hl8 := l8.lt
      refine x_skip ?_
      refine x_block ?_
      refine x_seq ?_
      refine x_region ?_
      refine r1 rfl (p_mv rfl) ?_
      refine r1 rfl (p_mv rfl) ?_
      refine r1 rfl (p_mv rfl) ?_
      refine r1 rfl (p_idx runUnderlying33 sizeOf52 rfl rfl (by omega) (hZ.isi (i := (at_ : Int)) (by omega) (by omega))) ?_
      refine r1 rfl (p_lda isAgg52 rfl (hZ.cel _ _ hxz) sizeOf52) ?_
      refine o1 rfl (s_bsl runUnderlying33 sizeOf52 zeroValue52 rfl (by decide) (by decide) rfl rfl ?_)
      intro b36 hb36 n36
      have g36 : _ ≤ b36 := n36.ge x0
      have ne36_8 : b36 ≠ b8 := n36.ne l8
      have nf_ow_36 := ow.nin n36
      have nf_oz_36 := oz.nin n36
      have x0 := x0.tr (n36.ext)
      have l8 := l8.lift (n36.ext)
      have ow := ow.lift (n36.ext)
      have oz := oz.lift (n36.ext)
      have l36 := n36.bl
      have w36 := n36.ow (B := 0) (Nat.zero_le _) [x] rfl leneSp
      refine o1 rfl (s_appn runUnderlying33 runUnderlying33 sizeOf52 typeInfo52 zeroValue52 rfl rfl rfl leneSp oneeSp rfl rfl ow (w36.rd leneSp) (Kp.size x0) (by simp only [List.length_cons, List.length_nil]; omega) ?_)
      intro a37 c37 ha37 w37 k37 j37
      have x0 := x0.at_ k37 (fun hn => by have := Ow.ge ow hn; omega)
      have l8 := k37.bl (ne_at hn8) l8
      have oz := oz.kp k37 (ow.old hab0)
      refine r1 rfl (p_as rfl) ?_
      refine o_nil ?_
      refine x_region ?_
      refine r1 rfl (p_mv rfl) ?_
      refine r1 rfl (p_add64 rfl rfl (by omega)) ?_
      refine r1 rfl (p_as rfl) ?_
      refine o_nil ?_
      have hn8 := nw_ne j37 (Nat.lt_of_lt_of_le hl8 (Kp.size n36.ext)) hn8
      refine ⟨(at_ + 1, a37, c37, o ++ [x]), ⟨rfl, rfl, rfl, rfl, rfl, rfl, rfl, trivial⟩, ?_, ?_⟩
      · exact ⟨x0, by omega, w37, oz, l8, hn8, hR, by simp; omega⟩
      · dsimp only; omega
    · skip
      have h1' : ¬ (at_ < Z.length ∧ (gt Z (at_ : Int)).hi < s.lo) := by have := h1; simp at this; intro hh; have := this (by omega); omega
      rw [m1_stop h1'] at hR
      subst hR
      dsimp only at hst
      refine x_exit ?_
      refine x_seq ?_
      refine x_region ?_
      refine r1 rfl (p_fld runUnderlying52 rfl sizeOf3 (by decide) rfl rfl) ?_
      refine r1 rfl (p_ld isAgg3 rfl (l8.get rfl)) ?_
      refine r1 rfl (p_as rfl) ?_
      refine o_nil ?_
      refine x_seq ?_
      refine x_block ?_
      obtain ⟨R2, hR2⟩ : ∃ R, m2 s (Z.drop at_) s.lo o = R := ⟨_, rfl⟩
      rw [hR2] at hst
      refine x_loope (σ := Nat × Int × Option Addr × Nat × List Sp) (fun st_ E0 => match st_ with | (at_, f, ao, co, o) => (5, .slice ao o.length co) :: (6, .int .i64 (at_ : Int)) :: (9, .int .i64 f) :: E0) [(1, _), (8, _), (11, _), (12, _), (13, _)] (fun st_ h' => match st_ with | (at_, f, ao, co, o) => Kp (At ab) h h' ∧ at_ ≤ b.length ∧ (0 ≤ f ∧ f ≤ 3000000) ∧ Ow h.size 52 3 eSp h' ao co o ∧ Ow B 52 3 eSp h' ab cb Z ∧ Bl h' b8 (eSp s) 52 ∧ (ao ≠ none → bk ao ≠ b8) ∧ m2 s (Z.drop at_) f o = R2 ∧ o.length + 3 * (b.length - at_) ≤ 3 * b.length + 4 * i) (fun st_ => match st_ with | (at_, f, ao, co, o) => b.length - at_) ((at_, s.lo, ao, co, o)) ⟨rfl, rfl, rfl, rfl, rfl, rfl, rfl, rfl, trivial⟩ ?_ ?_
      · exact ⟨x0, hat, by omega, ow, oz, l8, hn8, hR2, hol⟩
      rintro ⟨at_, f, ao, co, o⟩ h' ⟨x0, hat, hf, ow, oz, l8, hn8, hR2, hol⟩
      show X _ _ _ ((5, .slice ao o.length co) :: (6, .int .i64 (at_ : Int)) :: (9, .int .i64 f) :: _) _ _
      have hZ := oz.rd leneSp
      refine x_seq ?_
      refine x_seq ?_
      refine x_regt (by kernel_rfl) (by kernel_rfl) ?_
      refine t1 rfl (p_mv rfl) ?_
      refine t1 rfl (p_mv rfl) ?_
      refine t1 rfl (p_len runUnderlying33 rfl) ?_
      refine t1 rfl (p_lss rfl rfl) ?_
      refine t1 rfl (p_mv rfl) ?_
      apply t_and 9 (dj := 46) (d := 55) rfl
      · intro hg10_5
        refine t1h rfl rfl rfl hg10_5 (p_mv rfl) ?_
        refine t1h rfl rfl rfl hg10_5 (p_mv rfl) ?_
        refine t1h rfl rfl rfl hg10_5 (p_idx runUnderlying33 sizeOf52 rfl rfl ⟨by omega, of_decide_eq_true hg10_5⟩ (hZ.isi (i := (at_ : Int)) (by omega) (by have := of_decide_eq_true hg10_5; omega))) ?_
        refine t1h rfl rfl rfl hg10_5 (p_fld runUnderlying52 rfl sizeOf3 (by decide) rfl rfl) ?_
        refine t1h rfl rfl rfl hg10_5 (p_ld isAgg3 rfl (hZ.ati (i := (at_ : Int)) (by omega) (by have := of_decide_eq_true hg10_5; omega) (j := 0) rfl)) ?_
        refine t1h rfl rfl rfl hg10_5 (p_fld runUnderlying52 rfl sizeOf3 (by decide) rfl rfl) ?_
        refine t1h rfl rfl rfl hg10_5 (p_ld isAgg3 rfl (l8.get rfl)) ?_
        refine t1h rfl rfl rfl hg10_5 (p_leq rfl rfl) ?_
        refine t1 rfl (p_pickt hg10_5 rfl rfl rfl) ?_
        exact t_nil ⟨rfl, by repeat (first | exact le_r _ | refine le_c rfl ?_)⟩
      · intro hg10_5
        refine t1n rfl rfl rfl hg10_5 ?_
        refine t1n rfl rfl rfl hg10_5 ?_
        refine t1n rfl rfl rfl hg10_5 ?_
        refine t1n rfl rfl rfl hg10_5 ?_
        refine t1n rfl rfl rfl hg10_5 ?_
        refine t1n rfl rfl rfl hg10_5 ?_
        refine t1n rfl rfl rfl hg10_5 ?_
        refine t1n rfl rfl rfl hg10_5 ?_
        refine t1 rfl (p_pickf hg10_5 rfl rfl rfl) ?_
        exact t_nil ⟨rfl, by repeat (first | exact le_r _ | refine le_c rfl ?_)⟩
      refine t_nil ?_
      refine x_cond rfl (fun h2 => ?_) (fun h2 => ?_)
      · skip
        have h2' : at_ < Z.length ∧ (gt Z (at_ : Int)).lo ≤ s.hi := by have := h2; simp at this; omega
        have hxz : Z[at_]? = some Z[at_] := by simp
        have hd := drop_cons Z at_ h2'.1
        have h2g := h2'.2
        rw [gt_nat h2'.1] at h2g
        rw [hd] at hR2
        have hbx := hbz Z[at_] (List.getElem_mem h2'.1)
        unfold Bd at hbx
        obtain ⟨x, hxe⟩ : ∃ x, Z[at_]'h2'.1 = x := ⟨_, rfl⟩
        rw [hxe] at hxz hd h2g hR2 hbx
        rw [m2, if_pos h2g] at hR2
        refine x_skip ?_
        refine x_block ?_
        refine x_seq ?_
        refine x_region ?_
        refine r1 rfl (p_mv rfl) ?_
        refine r1 rfl (p_mv rfl) ?_
        refine r1 rfl (p_idx runUnderlying33 sizeOf52 rfl rfl (by omega) (hZ.isi (i := (at_ : Int)) (by omega) (by omega))) ?_
        refine r1 rfl (p_lda isAgg52 rfl (hZ.cel _ _ hxz) sizeOf52) ?_
        refine o1 rfl (s_al zeroValue52 rfl ?_)
        intro b10 hb10 n10
        have g10 : _ ≤ b10 := n10.ge x0
        have ne10_8 : b10 ≠ b8 := n10.ne l8
        have nf_ow_10 := ow.nin n10
        have nf_oz_10 := oz.nin n10
        have x0 := x0.tr (n10.ext)
        have l8 := l8.lift (n10.ext)
        have ow := ow.lift (n10.ext)
        have oz := oz.lift (n10.ext)
        have l10 := n10.bl
        refine o0 (s_sta rfl rfl sizeOf52 rfl l10 rfl ?_)
        intro hh2 u2
        have x0 := x0.upd u2 g10
        have l8 := u2.kp.bl (Ne.symm ne10_8) l8
        have l10 := u2.bl
        have ow := ow.updn u2 nf_ow_10
        have oz := oz.updn u2 nf_oz_10
        refine o_nil ?_
        refine x_seq ?_
        refine x_region ?_
        refine r1 rfl (p_mv rfl) ?_
        refine r1 rfl (p_fld runUnderlying52 rfl sizeOf3 (by decide) rfl rfl) ?_
        refine r1 rfl (p_ld isAgg3 rfl (l10.get rfl)) ?_
        refine r1 rfl (p_fld runUnderlying52 rfl sizeOf3 (by decide) rfl rfl) ?_
        refine r1 rfl (p_ld isAgg3 rfl (l10.get rfl)) ?_
        refine r1 rfl (p_fld runUnderlying52 rfl sizeOf3 (by decide) rfl rfl) ?_
        refine r1 rfl (p_ld isAgg3 rfl (l8.get rfl)) ?_
        refine r1 rfl (p_sub64 rfl rfl (by omega)) ?_
        refine r1 rfl (p_min2 rfl rfl) ?_
        refine r1 rfl (p_fld runUnderlying52 rfl sizeOf3 (by decide) rfl rfl) ?_
        refine r1 rfl (p_ld isAgg3 rfl (l10.get rfl)) ?_
        refine o1 rfl (s_call call40 rfl (c40 h.size ao co o x.lo (min x.hi (s.lo - 1)) x.val _ ow (Kp.size x0) (by omega)) ?_)
        rintro v3 hh3 ⟨aA, cA, rfl, wA, kA, jA⟩
        have x0 := ow.kpAt x0 kA
        have oz := oz.kp kA (ow.old hab0)
        have ⟨l8, hn8⟩ := And.intro (kA.bl (ne_at hn8) l8) (nw_ne jA l8.lt hn8)
        have ⟨l10, hn10⟩ := And.intro (kA.bl (ne_at nf_ow_10) l10) (nw_ne jA l10.lt nf_ow_10)
        have ow := wA
        have hlA2 := lay2_len o x.lo (min x.hi (s.lo - 1)) x.val
        refine r1 rfl (p_as rfl) ?_
        refine o_nil ?_
        refine x_seq ?_
        refine x_region ?_
        refine r1 rfl (p_mv rfl) ?_
        refine r1 rfl (p_mv rfl) ?_
        refine r1 rfl (p_fld runUnderlying52 rfl sizeOf3 (by decide) rfl rfl) ?_
        refine r1 rfl (p_ld isAgg3 rfl (l10.get rfl)) ?_
        refine r1 rfl (p_sub64 rfl rfl (by omega)) ?_
        refine r1 rfl (p_fld runUnderlying52 rfl sizeOf3 (by decide) rfl rfl) ?_
        refine r1 rfl (p_ld isAgg3 rfl (l8.get rfl)) ?_
        refine o1 rfl (s_call call40 rfl (c40 h.size aA cA _ f (x.lo - 1) s.val _ ow (Kp.size x0) (by omega)) ?_)
        rintro v4 hh4 ⟨aB, cB, rfl, wB, kB, jB⟩
        have x0 := ow.kpAt x0 kB
        have oz := oz.kp kB (ow.old hab0)
        have ⟨l8, hn8⟩ := And.intro (kB.bl (ne_at hn8) l8) (nw_ne jB l8.lt hn8)
        have ⟨l10, hn10⟩ := And.intro (kB.bl (ne_at hn10) l10) (nw_ne jB l10.lt hn10)
        have ow := wB
        have hlB2 := lay2_len (lay2 o x.lo (min x.hi (s.lo - 1)) x.val) f (x.lo - 1) s.val
        refine r1 rfl (p_as rfl) ?_
        refine o_nil ?_
        refine x_seq ?_
        refine x_region ?_
        refine r1 rfl (p_mv rfl) ?_
        refine r1 rfl (p_fld runUnderlying52 rfl sizeOf3 (by decide) rfl rfl) ?_
        refine r1 rfl (p_ld isAgg3 rfl (l10.get rfl)) ?_
        refine r1 rfl (p_mv rfl) ?_
        refine r1 rfl (p_max2 rfl rfl) ?_
        refine r1 rfl (p_fld runUnderlying52 rfl sizeOf3 (by decide) rfl rfl) ?_
        refine r1 rfl (p_ld isAgg3 rfl (l10.get rfl)) ?_
        refine r1 rfl (p_fld runUnderlying52 rfl sizeOf3 (by decide) rfl rfl) ?_
        refine r1 rfl (p_ld isAgg3 rfl (l8.get rfl)) ?_
        refine r1 rfl (p_min2 rfl rfl) ?_
        refine r1 rfl (p_fld runUnderlying52 rfl sizeOf3 (by decide) rfl rfl) ?_
        refine r1 rfl (p_ld isAgg3 rfl (l8.get rfl)) ?_
        refine r1 rfl (p_fld runUnderlying52 rfl sizeOf3 (by decide) rfl rfl) ?_
        refine r1 rfl (p_ld isAgg3 rfl (l10.get rfl)) ?_
        refine r1 rfl (p_add64 rfl rfl (by omega)) ?_
        refine o1 rfl (s_call call40 rfl (c40 h.size aB cB _ (max x.lo f) (min x.hi s.hi) (s.val + x.val) _ ow (Kp.size x0) (by omega)) ?_)
        rintro v5 hh5 ⟨aC, cC, rfl, wC, kC, jC⟩
        have x0 := ow.kpAt x0 kC
        have oz := oz.kp kC (ow.old hab0)
        have ⟨l8, hn8⟩ := And.intro (kC.bl (ne_at hn8) l8) (nw_ne jC l8.lt hn8)
        have ⟨l10, hn10⟩ := And.intro (kC.bl (ne_at hn10) l10) (nw_ne jC l10.lt hn10)
        have ow := wC
        have hlC2 := lay2_len (lay2 (lay2 o x.lo (min x.hi (s.lo - 1)) x.val) f (x.lo - 1) s.val) (max x.lo f) (min x.hi s.hi) (s.val + x.val)
        refine r1 rfl (p_as rfl) ?_
        refine o_nil ?_
        refine x_seq ?_
        refine x_region ?_
        refine r1 rfl (p_fld runUnderlying52 rfl sizeOf3 (by decide) rfl rfl) ?_
        refine r1 rfl (p_ld isAgg3 rfl (l10.get rfl)) ?_
        refine r1 rfl (p_add64 rfl rfl (by omega)) ?_
        refine r1 rfl (p_as rfl) ?_
        refine o_nil ?_
        refine x_seq ?_
        refine x_seq ?_
        refine x_region ?_
        refine r1 rfl (p_fld runUnderlying52 rfl sizeOf3 (by decide) rfl rfl) ?_
        refine r1 rfl (p_ld isAgg3 rfl (l10.get rfl)) ?_
        refine r1 rfl (p_fld runUnderlying52 rfl sizeOf3 (by decide) rfl rfl) ?_
        refine r1 rfl (p_ld isAgg3 rfl (l8.get rfl)) ?_
        refine r1 rfl (p_gtr rfl rfl) ?_
        refine o_nil ?_
        have hlm : (m3 s x f o).length ≤ o.length + 3 := by unfold m3; omega
        have hm3 : lay2 (lay2 (lay2 o x.lo (min x.hi (s.lo - 1)) x.val) f (x.lo - 1) s.val) (max x.lo f) (min x.hi s.hi) (s.val + x.val) = m3 s x f o := rfl
        rw [hm3] at ow ⊢
        refine x_cond rfl (fun h3 => ?_) (fun h3 => ?_)
        · skip
          have h3' : s.hi < x.hi := of_decide_eq_true h3
          rw [if_pos h3'] at hR2
          subst hR2
          refine x_seq ?_
          refine x_region ?_
          refine r1 rfl (p_mv rfl) ?_
          refine r1 rfl (p_mv rfl) ?_
          refine r1 rfl (p_fld runUnderlying52 rfl sizeOf3 (by decide) rfl rfl) ?_
          refine r1 rfl (p_ld isAgg3 rfl (l8.get rfl)) ?_
          refine r1 rfl (p_add64 rfl rfl (by omega)) ?_
          refine r1 rfl (p_idx runUnderlying33 sizeOf52 rfl rfl (by omega) (hZ.isi (i := (at_ : Int)) (by omega) (by omega))) ?_
          refine r1 rfl (p_fld runUnderlying52 rfl sizeOf3 (by decide) rfl rfl) ?_
          refine o0 (s_stow (i := at_) (j := 0) sizeOf3 rfl rfl rfl oz (by omega) (by decide) ⟨s.hi + 1, x.hi, x.val⟩ (by rw [hxe]; rfl) leneSp ?_)
          intro h9 w9 k9
          have x0 := x0.trans k9
          have l8 := k9.bl (old_ne hab0 g8) l8
          have ow := ow.kp k9 (ow.old' hab0)
          have oz := w9
          refine o_nil ?_
          refine x_exit ?_
          refine x_region ?_
          refine r1 rfl (p_mv rfl) ?_
          refine r1 rfl (p_mv rfl) ?_
          refine r1 rfl (p_fld runUnderlying52 rfl sizeOf3 (by decide) rfl rfl) ?_
          refine r1 rfl (p_ld isAgg3 rfl (l8.get rfl)) ?_
          refine r1 rfl (p_fld runUnderlying52 rfl sizeOf3 (by decide) rfl rfl) ?_
          refine r1 rfl (p_ld isAgg3 rfl (l8.get rfl)) ?_
          refine o1 rfl (s_call call40 rfl (c40 h.size aC cC (m3 s x f o) (x.hi + 1) s.hi s.val _ ow (Kp.size x0) (by omega)) ?_)
          rintro v7 hh7 ⟨aD, cD, rfl, wD, kD, jD⟩
          have x0 := ow.kpAt x0 kD
          have oz := oz.kp kD (ow.old hab0)
          refine r1 rfl (p_as rfl) ?_
          refine o_nil ?_
          refine x_region ?_
          refine r1 rfl (p_add64 rfl rfl (by omega)) ?_
          refine r1 rfl (p_mv rfl) ?_
          refine o_nil ?_
          have hlD := lay2_len (m3 s x f o) (x.hi + 1) s.hi s.val
          have hdz : (Z.set at_ ⟨s.hi + 1, x.hi, x.val⟩).drop at_ = ⟨s.hi + 1, x.hi, x.val⟩ :: Z.drop (at_ + 1) := by
            rw [drop_cons _ at_ (by simp; omega)]; simp [List.drop_set]
          refine ⟨(i + 1, at_, aD, cD, lay2 (m3 s x f o) (x.hi + 1) s.hi s.val, Z.set at_ ⟨s.hi + 1, x.hi, x.val⟩), ⟨rfl, rfl, rfl, rfl, rfl, rfl, trivial⟩, ?_, ?_⟩
          · refine ⟨x0, by omega, by omega, by simpa using hzl, wD, oz, ?_, by omega, ?_⟩
            · rw [hst, hdz]; rfl
            · intro y hy
              rcases List.mem_or_eq_of_mem_set hy with hy | rfl
              · exact hbz y hy
              · unfold Bd; dsimp only; omega
          · dsimp only; omega
        · skip
          have h3' : ¬ s.hi < x.hi := of_decide_eq_false h3
          rw [if_neg h3'] at hR2
          refine x_skip ?_
          refine x_region ?_
          refine r1 rfl (p_mv rfl) ?_
          refine r1 rfl (p_add64 rfl rfl (by omega)) ?_
          refine r1 rfl (p_as rfl) ?_
          refine o_nil ?_
          refine ⟨(at_ + 1, x.hi + 1, aC, cC, m3 s x f o), ⟨rfl, rfl, rfl, rfl, rfl, rfl, rfl, rfl, trivial⟩, ?_, ?_⟩
          · exact ⟨x0, by omega, by omega, ow, oz, l8, hn8, hR2, by omega⟩
          · dsimp only; omega
      · skip
        have h2' : ¬ (at_ < Z.length ∧ (gt Z (at_ : Int)).lo ≤ s.hi) := by have := h2; simp at this; intro hh; have := this (by omega); omega
        rw [m2_stop h2'] at hR2
        subst hR2
        refine x_exit ?_
        refine x_region ?_
        refine r1 rfl (p_mv rfl) ?_
        refine r1 rfl (p_mv rfl) ?_
        refine r1 rfl (p_fld runUnderlying52 rfl sizeOf3 (by decide) rfl rfl) ?_
        refine r1 rfl (p_ld isAgg3 rfl (l8.get rfl)) ?_
        refine r1 rfl (p_fld runUnderlying52 rfl sizeOf3 (by decide) rfl rfl) ?_
        refine r1 rfl (p_ld isAgg3 rfl (l8.get rfl)) ?_
        refine o1 rfl (s_call call40 rfl (c40 h.size ao co o f s.hi s.val _ ow (Kp.size x0) (by omega)) ?_)
        rintro v8 hh8 ⟨aD, cD, rfl, wD, kD, jD⟩
        have x0 := ow.kpAt x0 kD
        have oz := oz.kp kD (ow.old hab0)
        refine r1 rfl (p_as rfl) ?_
        refine o_nil ?_
        refine x_region ?_
        refine r1 rfl (p_add64 rfl rfl (by omega)) ?_
        refine r1 rfl (p_mv rfl) ?_
        refine o_nil ?_
        have hlD := lay2_len o f s.hi s.val
        refine ⟨(i + 1, at_, aD, cD, lay2 o f s.hi s.val, Z), ⟨rfl, rfl, rfl, rfl, rfl, rfl, trivial⟩, ?_, ?_⟩
        · refine ⟨x0, by omega, by omega, hzl, wD, oz, ?_, by omega, hbz⟩
          rw [hst]; rfl
        · dsimp only; omega
  · skip
    have hlt : i = A.length := by have := of_decide_eq_false hc; omega
    subst hlt
    rw [List.take_length] at hfold
    have hZ := oz.rd leneSp
    have hcz := oz.capge
    have hmr : mrg A b = o ++ Z.drop at_ := by unfold mrg; rw [hfold]
    have hdl : (Z.drop at_).length = b.length - at_ := by simp; omega
    refine x_exit ?_
    refine x_seq ?_
    refine x_region ?_
    refine r1 rfl (p_mv rfl) ?_
    refine r1 rfl (p_mv rfl) ?_
    refine r1 rfl (p_mv rfl) ?_
    refine r1 rfl (p_slfromn (n := (Z.drop at_).length) runUnderlying33 sizeOf52 rfl rfl hat (by omega) hdl) ?_
    refine o1 rfl (s_app runUnderlying33 runUnderlying33 sizeOf52 typeInfo52 zeroValue52 rfl rfl rfl leneSp oneeSp rfl rfl ow (hZ.from_ cb at_ (by omega)) (Kp.size x0) (by omega) ?_)
    intro a125 c125 ha125 w125 k125
    have x0 := x0.at_ k125 (fun hn => by have := Ow.ge ow hn; omega)
    have oz := oz.kp k125 (ow.old hab0)
    refine r1 rfl (p_as rfl) ?_
    refine o_nil ?_
    refine x_ret (fin1 rfl ?_)
    rw [hmr]
    exact ⟨_, _, rfl, w125, x0⟩
end Go.Proofs
