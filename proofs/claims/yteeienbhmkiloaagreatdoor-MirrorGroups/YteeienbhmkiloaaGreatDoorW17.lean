import Derived.Test.YteeienbhmkiloaaGreatDoorW16
import Derived.Test.YteeienbhmkiloaaGreatDoorLQ
set_option linter.unusedSimpArgs false
set_option linter.unusedVariables false
namespace Go.Proofs
open Go.Lx Tryz

theorem c_All1e (N : Nat → Prop) (h : Hp) (hN : ∀ b, N b → b < h.size) (y : Value) (q : Nat)  (lq' : ∃ a c, c ≤ 9223372036854775807 ∧ Bl h q [.slice a 0 c] 32) (mq : N q) : C prog 56 [y, .pointer (some ⟨q, 0, none⟩)] h (fun v h' => v = .tuple #[] ∧ Ext h h') := by
  have st := St.init hN
  obtain ⟨a1, c1, hc1, lq⟩ := lq'
  refine enter func56 rfl ntmps56 results56 rfl rfl ?_
  have s1 : Sl r32 N h a1 c1 ([] : List Int) := .nil
  refine x_seq ?_
  refine x_region ?_
  refine o1 rfl (s_al zeroValue112 rfl ?_)
  intro b3 hb1 n1
  obtain ⟨M1, nm1⟩ := nm (M := N) n1
  have gb3 : h.size ≤ b3 := n1.ge st.kp
  have neb3_q : b3 ≠ q := n1.ne lq
  have s1 := s1.gr (nm1.gr n1)
  have lq := lq.lift (n1.ext)
  have mq := nm1.sub _ mq
  have st := st.new n1 nm1
  have lb3 := n1.bl
  have mb3 := nm1.mem
  refine o_nil ?_
  refine x_seq ?_
  refine x_region ?_
  refine r1 rfl (p_as rfl) ?_
  refine o_nil ?_
  refine x_seq ?_
  refine x_seq ?_
  refine x_region ?_
  refine r1 rfl (p_ld isAgg32 rfl (lq.get rfl)) ?_
  refine r1 rfl (p_len runUnderlying32 rfl) ?_
  refine r1 rfl (p_mv rfl) ?_
  refine o_nil ?_
  refine x_block ?_
  refine x_loope (σ := Unit × (Nat → Prop)) (fun st_ E0 => match st_ with | (u, M_) => (9, .int .i64 0) :: (4, .int .i64 0) :: E0) [(0, _), (1, _), (3, _), (7, _), (8, _)] (fun st_ h' => match st_ with | (u, M_) => St N h (fun _ => False) M_ h' ∧ Sl r32 M_ h' a1 c1 ([] : List Int) ∧ Bl h' q [.slice a1 0 c1] 32 ∧ M_ q ∧ Bl h' b3 [.bool false, .int .i64 0, .int .i64 0, .int .i64 0, .bool false] 112 ∧ M_ b3) (fun st_ => match st_ with | (u, M_) => 0) ((), M1) ⟨⟨rfl, rfl, rfl, rfl, rfl, rfl, rfl, trivial⟩, rfl⟩ ?_ ?_
  · skip
    refine ⟨st, s1, lq, mq, lb3, mb3⟩
  rintro ⟨u, M_⟩ h' ⟨st, s1, lq, mq, lb3, mb3⟩
  show X _ _ _ _ (_ :: _) _ _
  refine x_seq ?_
  refine x_region ?_
  refine r1 rfl (p_lss rfl rfl) ?_
  refine o_nil ?_
  refine x_seq ?_
  refine x_cond rfl (fun hc => ?_) (fun hc => ?_)
  · skip
    try simp only [Bool.and_eq_true, Bool.or_eq_true, Bool.not_eq_true', decide_eq_true_eq, decide_eq_false_iff_not, Bool.or_eq_false_iff, Bool.and_eq_false_iff, Bool.not_eq_false'] at hc
    exfalso; omega
  · skip
    try simp only [Bool.and_eq_true, Bool.or_eq_true, Bool.not_eq_true', decide_eq_true_eq, decide_eq_false_iff_not, Bool.or_eq_false_iff, Bool.and_eq_false_iff, Bool.not_eq_false'] at hc
    refine x_exit ?_
    refine x_seq ?_
    refine x_region ?_
    refine r1 rfl (p_ld isAgg32 rfl (lq.get rfl)) ?_
    refine r1 rfl (p_len runUnderlying32 rfl) ?_
    refine r1 rfl (p_gtr rfl rfl) ?_
    refine o_nil ?_
    refine x_cond rfl (fun hc2 => ?_) (fun hc2 => ?_)
    · skip
      try simp only [Bool.and_eq_true, Bool.or_eq_true, Bool.not_eq_true', decide_eq_true_eq, decide_eq_false_iff_not, Bool.or_eq_false_iff, Bool.and_eq_false_iff, Bool.not_eq_false'] at hc2
      exfalso; omega
    · skip
      try simp only [Bool.and_eq_true, Bool.or_eq_true, Bool.not_eq_true', decide_eq_true_eq, decide_eq_false_iff_not, Bool.or_eq_false_iff, Bool.and_eq_false_iff, Bool.not_eq_false'] at hc2
      refine x_skip ?_
      refine fin0 ?_
      exact ⟨rfl, st.x⟩
theorem c_gAll (N : Nat → Prop) (h : Hp) (hN : ∀ b, N b → b < h.size) (l : List Int) {a_l : Option Addr} {c_l : Nat} (s_l : Sl r32 N h a_l c_l l) : C prog 36 [.slice a_l l.length c_l] h (fun v h' => ∃ (b c : Nat) (a : Option Addr), v = .func (.func 56) #[] #[.pointer (some ⟨b, 0, none⟩)] ∧ h.size ≤ b ∧ Bl h' b [.slice a l.length c] 32 ∧ Sl r32 N h' a c l ∧ Ext h h') := by
  have st := St.init hN
  have ns_l := s_l.ll
  refine enter func36 rfl ntmps36 results36 rfl rfl ?_
  refine x_seq ?_
  refine x_region ?_
  refine o1 rfl (s_box rfl rfl ?_)
  intro b1 hb1 n1
  obtain ⟨M1, nm1⟩ := nm (M := N) n1
  have gb1 : h.size ≤ b1 := n1.ge st.kp
  have st := st.new n1 nm1
  have lb1 := n1.bl
  have mb1 := nm1.mem
  refine r1 rfl (p_as rfl) ?_
  refine o_nil ?_
  refine x_seq ?_
  refine x_region ?_
  refine r1 rfl (p_mf rfl rfl) ?_
  refine r1 rfl (p_as rfl) ?_
  refine o_nil ?_
  refine x_ret (fin1 rfl ?_)
  exact ⟨b1, c_l, a_l, rfl, gb1, lb1, s_l.ext st.x, st.x⟩
theorem c_layE (N : Nat → Prop) (h : Hp) (hN : ∀ b, N b → b < h.size) (p : Nat) (l : List Int) {a_l : Option Addr} {c_l : Nat} (s_l : Sl r32 N h a_l c_l l) (hl : l = []) : C prog 22 [.pointer (some ⟨p, 0, none⟩), .slice a_l l.length c_l] h (fun v h' => v = .tuple #[] ∧ Ext h h') := by
  have st := St.init hN
  have ns_l := s_l.ll
  refine enter func22 rfl ntmps22 results22 rfl rfl ?_
  refine x_seq ?_
  refine x_region ?_
  refine o1 rfl (s_box rfl rfl ?_)
  intro b2 hb1 n1
  obtain ⟨M1, nm1⟩ := nm (M := N) n1
  have gb2 : h.size ≤ b2 := n1.ge st.kp
  have st := st.new n1 nm1
  have lb2 := n1.bl
  have mb2 := nm1.mem
  refine o_nil ?_
  refine x_seq ?_
  refine x_region ?_
  refine r1 rfl (p_mv rfl) ?_
  refine o1 rfl (s_call call36 rfl (c_gAll M1 hb1 st.lt l (s_l.gr st.gr)) ?_)
  rintro _ hp2 ⟨bg, cg, ag, rfl, gbg, lbg, sbg, xg2⟩
  have lb2 := lb2.lift (xg2)
  have st := st.ext xg2
  refine o_nil ?_
  refine x_block ?_
  rw [hl] at lbg
  refine x_range0 rfl rfl call56 (fun lY hY xY => (c_All1e (fun b => b = bg) hY (fun b hb => by subst hb; exact (lbg.lift xY).lt) _ bg ⟨ag, cg, sbg.ln, lbg.lift xY⟩ rfl).mono fun _ _ q => q.2) ?_
  intro mr3 hr3 xr3 gr3 lmr3
  replace lmr3 : Db hr3 mr3 := lmr3
  obtain ⟨M3, nm3⟩ := nmr (M := M1) gr3
  have gmr3 : h.size ≤ mr3 := Nat.le_trans st.kp.size gr3
  have nemr3_b2 : mr3 ≠ b2 := fun e => by have := lb2.lt; omega
  have lb2 := lb2.lift (xr3)
  have mb2 := nm3.sub _ mb2
  have st := st.mark xr3 nm3 lmr3
  have mmr3 := nm3.mem
  refine fin0m (lmr3.lv rfl) ?_
  have gm4 := lmr3.gm mmr3 st
  have lb2 := gm4.kp.bl (fun e => nemr3_b2 e.symm) lb2
  have st := st.gm gm4 (fun b e => .inl (e ▸ gmr3))
  exact ⟨rfl, st.x⟩
end Go.Proofs
