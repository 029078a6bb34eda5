import Derived.Test.YtpnbdejdkllflaaP8
set_option linter.unusedVariables false
namespace Go.Proofs
open Go.Lx Try

theorem few_bd {l : List Sp} {a b : Int} (h : ∀ s ∈ l, a ≤ s.val ∧ s.val ≤ b) : ∀ s ∈ fewF l, a ≤ s.val ∧ s.val ≤ b := few_val (P := fun v => a ≤ v ∧ v ≤ b) h
theorem q2_bd : ∀ s ∈ fewF (T37.map p37), 0 ≤ s.val ∧ s.val ≤ 65535 := fun s hs => by
  have := few_bd (l := T37.map p37) (a := 1) (b := 1) (fun s hs => by obtain ⟨a, _, rfl⟩ := List.mem_map.1 hs; exact ⟨Int.le_refl _, Int.le_refl _⟩) s hs
  omega
theorem q3_bd : ∀ s ∈ fewF T38, 0 ≤ s.val ∧ s.val ≤ 65535 := fun s hs => by have := few_bd (all_bd v38) s hs; omega
theorem q4_bd : ∀ s ∈ fewF T39, 0 ≤ s.val ∧ s.val ≤ 65535 := fun s hs => by have := few_bd (all_bd v39) s hs; omega
theorem q2_len : (fewF (T37.map p37)).length ≤ 78 := Nat.le_trans (few_len (T37.map p37)) (show T37s.length ≤ 78 from t37le)
theorem q3_len : (fewF T38).length ≤ 50 := Nat.le_trans (few_len _) t38le
theorem q4_len : (fewF T39).length ≤ 119 := Nat.le_trans (few_len _) t39le
theorem q1_len : (fewF T35).length ≤ 131 := Nat.le_trans (few_len _) t35le
theorem y_len : (fewF sylAll).length ≤ 12000 := by
  refine Nat.le_trans (few_len _) ?_
  have h1 := syl_len 256 4352
  have h2 := syl_len 29 43360
  have h3 := syl_len 11260 44032
  unfold sylAll
  rw [List.length_append, List.length_append, List.length_append]
  simp only [List.length_nil]
  omega
theorem cuts_len (L : List Sl) : (cutsOf L).length ≤ 2 * tot L := by
  unfold cutsOf
  have h1 := dd_len (srt (edgs L)) (edgs L).length
  have h2 := edgs_len L
  omega

theorem ownn {α : Type} {B : Nat} {T : TypeId} {k : Nat} {enc : α → List Value} {h : Hp} {a : Option Addr} {cap : Nat} {l : List α} (w : Ow B T k enc h a cap l) (hl : l ≠ []) : a ≠ none := by
  rcases w with ⟨_, _, e⟩ | ⟨b, rest, rfl, _⟩
  · exact absurd e hl
  · simp
theorem c5 (h : Hp) : C prog 5 [] h fun v h' => ∃ bK tb ba bc M B, v = .pointer (some ⟨bK, 0, none⟩) ∧ Bl h' bK [.pointer (some ⟨tb, 0, none⟩)] 41 ∧ TB B h' tb (bldF M 4352).1 ba bc (bldF M 4352).2.2.1 ∧ rgt (-1) M = true ∧ (∀ n, sfind M n 0 = tv n + classF n) ∧ Ext h h' := by
  have hq1 := q1_len
  have hq2 := q2_len
  have hq3 := q3_len
  have hq4 := q4_len
  have bd2 := q2_bd
  have bd3 := q3_bd
  have bd4 := q4_bd
  have e1 := S1_eq
  have e2 := S2_eq
  have e3 := S3_eq
  have e4 := S4_eq
  refine enter func5 rfl ntmps5 results5 rfl rfl ?_
  refine x_seq ?_
  refine x_region ?_
  refine r1 rfl (p_as rfl) ?_
  refine o_nil ?_
  refine x_seq ?_
  refine x_region ?_
  refine o1 rfl (s_call call13 rfl (c13 _) ?_)
  rintro v1 hh1 ⟨p1, q1, rfl, w1, x1⟩
  have x0 := (x1 : Ext _ _)
  generalize fewF T35 = Q1 at *
  have ob1 : p1 ≠ none → bk p1 < hh1.size := fun hn => w1.lt hn
  refine o1 rfl (s_call call15 rfl (c15 _) ?_)
  rintro v2 hh2 ⟨p2, q2, rfl, w2, x2⟩
  have x0 := x0.tr (x2)
  have w1 := w1.lift (x2)
  generalize fewF (T37.map p37) = Q2 at *
  refine o1 rfl (s_call call14 rfl (c14 hh1.size p2 q2 Q2 16 _ w2 (by decide) bd2 (by omega)) ?_)
  rintro v3 hh3 ⟨rfl, w2', k2⟩
  have hr2 : (Q2.map (mulS 16)).length = Q2.length := List.length_map _
  generalize Q2.map (mulS 16) = R2 at *
  have w1 := w1.kp k2 (w2.old ob1)
  have x0 := (w2.mono (Kp.size x1)).kpAt x0 k2
  have w2 := w2'
  have x03 := x0
  have o13 : p1 ≠ none → bk p1 < hh3.size := fun hn => w1.lt hn
  have o23 : p2 ≠ none → bk p2 < hh3.size := fun hn => w2.lt hn
  refine o1 rfl (s_call call16 rfl (c16 _) ?_)
  rintro v4 hh4 ⟨p3, q3, rfl, w3, x4⟩
  have x0 := x0.tr (x4)
  have w1 := w1.lift (x4)
  have w2 := w2.lift (x4)
  generalize fewF T38 = Q3 at *
  refine o1 rfl (s_call call14 rfl (c14 hh3.size p3 q3 Q3 32 _ w3 (by decide) bd3 (by omega)) ?_)
  rintro v5 hh5 ⟨rfl, w3', k3⟩
  generalize Q3.map (mulS 32) = R3 at *
  have w1 := w1.kp k3 (w3.old o13)
  have w2 := w2.kp k3 (w3.old o23)
  have x0 := (w3.mono (Kp.size x03)).kpAt x0 k3
  have w3 := w3'
  have x05 := x0
  have o15 : p1 ≠ none → bk p1 < hh5.size := fun hn => w1.lt hn
  have o25 : p2 ≠ none → bk p2 < hh5.size := fun hn => w2.lt hn
  have o35 : p3 ≠ none → bk p3 < hh5.size := fun hn => w3.lt hn
  refine o1 rfl (s_call call17 rfl (c17 _) ?_)
  rintro v6 hh6 ⟨p4, q4, rfl, w4, x6⟩
  have x0 := x0.tr (x6)
  have w1 := w1.lift (x6)
  have w2 := w2.lift (x6)
  have w3 := w3.lift (x6)
  generalize fewF T39 = Q4 at *
  refine o1 rfl (s_call call14 rfl (c14 hh5.size p4 q4 Q4 128 _ w4 (by decide) bd4 (by omega)) ?_)
  rintro v7 hh7 ⟨rfl, w4', k4⟩
  generalize Q4.map (mulS 128) = R4 at *
  have w1 := w1.kp k4 (w4.old o15)
  have w2 := w2.kp k4 (w4.old o25)
  have w3 := w3.kp k4 (w4.old o35)
  have x0 := (w4.mono (Kp.size x05)).kpAt x0 k4
  have w4 := w4'
  have eL : LL p1 p2 p3 p4 q1 q2 q3 q4 = [(p1, q1, Q1), (p2, q2, R2), (p3, q3, R3), (p4, q4, R4)] := by unfold LL; rw [e1, e2, e3, e4]
  have hr12 : ∀ x ∈ ([(p1, q1, Q1), (p2, q2, R2), (p3, q3, R3), (p4, q4, R4)] : List Sl), rgt (-1) x.2.2 = true := eL ▸ LL_rgt p1 p2 p3 p4 q1 q2 q3 q4
  have hne12 : edgs [(p1, q1, Q1), (p2, q2, R2), (p3, q3, R3), (p4, q4, R4)] ≠ [] := eL ▸ LL_ne p1 p2 p3 p4 q1 q2 q3 q4
  have htot0 : tot [(p1, q1, Q1), (p2, q2, R2), (p3, q3, R3), (p4, q4, R4)] ≤ 400 := eL ▸ LL_tot p1 p2 p3 p4 q1 q2 q3 q4
  have hv12 : ∀ n, valAt [(p1, q1, Q1), (p2, q2, R2), (p3, q3, R3), (p4, q4, R4)] n ≤ 65535 := fun n => by rw [← eL, LL_val]; have := tv_bd n; omega
  have eSS : SS p1 p2 p3 p4 q1 q2 q3 q4 = sumF [(p1, q1, Q1), (p2, q2, R2), (p3, q3, R3), (p4, q4, R4)] (cutsOf [(p1, q1, Q1), (p2, q2, R2), (p3, q3, R3), (p4, q4, R4)]) ((cutsOf [(p1, q1, Q1), (p2, q2, R2), (p3, q3, R3), (p4, q4, R4)]).length - 1) := by unfold SS; rw [eL]
  have sp := SS_spec p1 p2 p3 p4 q1 q2 q3 q4
  have sv := SS_val p1 p2 p3 p4 q1 q2 q3 q4
  have sl : (SS p1 p2 p3 p4 q1 q2 q3 q4).length ≤ 1000 := by rw [eSS]; have h1 := sumF_len [(p1, q1, Q1), (p2, q2, R2), (p3, q3, R3), (p4, q4, R4)] (cutsOf [(p1, q1, Q1), (p2, q2, R2), (p3, q3, R3), (p4, q4, R4)]) ((cutsOf [(p1, q1, Q1), (p2, q2, R2), (p3, q3, R3), (p4, q4, R4)]).length - 1); have h2 := cuts_len [(p1, q1, Q1), (p2, q2, R2), (p3, q3, R3), (p4, q4, R4)]; omega
  refine o1 rfl (s_bsl runUnderlying45 sizeOf33 zeroValue33 rfl (by decide) (by decide) rfl rfl ?_)
  intro b9 hb9 n9
  have g9 : _ ≤ b9 := n9.ge x0
  have nf_w1_9 := w1.nin n9
  have nf_w2_9 := w2.nin n9
  have nf_w3_9 := w3.nin n9
  have nf_w4_9 := w4.nin n9
  have x0 := x0.tr (n9.ext)
  have w1 := w1.lift (n9.ext)
  have w2 := w2.lift (n9.ext)
  have w3 := w3.lift (n9.ext)
  have w4 := w4.lift (n9.ext)
  have l9 := n9.bl
  have w9 := n9.ow (B := 0) (Nat.zero_le _) [(p1, q1, Q1), (p2, q2, R2), (p3, q3, R3), (p4, q4, R4)] rfl leneS
  refine o1 rfl (s_call call12 rfl (c12 _ _ [(p1, q1, Q1), (p2, q2, R2), (p3, q3, R3), (p4, q4, R4)] _ (w9.rd leneS) (fun x hx => by simp only [List.mem_cons, List.not_mem_nil, or_false] at hx; rcases hx with rfl | rfl | rfl | rfl; exact w1.rd leneSp; exact w2.rd leneSp; exact w3.rd leneSp; exact w4.rd leneSp) hr12 hne12 (by show 4 ≤ 1000; omega) (by omega) hv12) ?_)
  rintro v8 hh8 ⟨pS, qS, rfl, wS, x8⟩
  have x0 := x0.tr (x8)
  have w1 := w1.lift (x8)
  have w2 := w2.lift (x8)
  have w3 := w3.lift (x8)
  have w4 := w4.lift (x8)
  rw [← eSS] at wS ⊢
  generalize SS p1 p2 p3 p4 q1 q2 q3 q4 = Sg at *
  have oS : pS ≠ none → bk pS < hh8.size := fun hn => wS.lt hn
  have x08 := x0
  refine r1 rfl (p_as rfl) ?_
  refine o_nil ?_
  refine x_seq ?_
  have yr := syl_rgt'
  have yv := syl_val'
  have yl := y_len
  have yf : ∀ n, sfind (fewF sylAll) n 0 = classF n := fun n => by rw [few_find sylAll_spec.1, sylAll_spec.2]
  refine x_region ?_
  refine r1 rfl (p_mv rfl) ?_
  refine o1 rfl (s_call call19 rfl (c19 _) ?_)
  rintro v9 hh9 ⟨pY, qY, rfl, wY, x9⟩
  have x0 := x0.tr (x9)
  have wS := wS.lift (x9)
  generalize fewF sylAll = Y at *
  refine o1 rfl (s_call call18 rfl (c18 hh8.size pS pY qS qY Sg Y _ (wS.rd leneSp) (fun hn => wY.old oS (ownn wS hn)) wY (by omega) (by omega) (rgt_bd sp.1 sv) (rgt_bd yr yv)) ?_)
  rintro v10 hh10 ⟨pM, qM, rfl, wM, kM⟩
  have x0 := (wY.mono (Kp.size x08)).kpAt x0 kM
  have ms := mrg_spec sp.1 yr (fun s hs => by have := sv s hs; omega) (fun s hs => by have := yv s hs; omega)
  have msv : ∀ n, sfind (mrg Sg Y) n 0 = tv n + classF n := fun n => by rw [ms.2, sp.2, yf]
  have msr := ms.1
  clear ms
  generalize mrg Sg Y = M at *
  have ml : M.length ≤ 2000000 := by have := rgt_len msr (Int.le_refl _); omega
  refine r1 rfl (p_as rfl) ?_
  refine o_nil ?_
  refine x_seq ?_
  refine x_region ?_
  refine r1 rfl (p_mv rfl) ?_
  refine o1 rfl (s_call call20 rfl (c20 pM qM M _ (wM.rd leneSp) msr wM.capge ml) ?_)
  rintro v11 hh11 ⟨tb, ba, bc, rfl, tB, x11⟩
  have x0 := x0.tr (x11)
  refine r1 rfl (p_bs runUnderlying41 zeroValue41 pl41 rfl) ?_
  show O _ _ _ _ ((_, .agg #[_]) :: _) _ _
  refine o1 rfl (s_box rfl rfl ?_)
  intro b17 hb17 n17
  have g17 : _ ≤ b17 := n17.ge x0
  have nf_tB_17 := tB.nin n17
  have x0 := x0.tr (n17.ext)
  have tB := tB.lift (n17.ext)
  have l17 := n17.bl
  refine r1 rfl (p_as rfl) ?_
  refine o_nil ?_
  refine x_ret (fin1 rfl ?_)
  exact ⟨b17, tb, ba, bc, M, _, rfl, l17, tB, msr, msv, x0⟩
end Go.Proofs
